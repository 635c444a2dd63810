import Derived.Test.YtjmdfjinicbkeaaRank
-- rd: RdWt RawWt
namespace Go.Proofs.Ytjmdfjinicbkeaa
open Go.RowKit
set_option linter.unusedSimpArgs false
set_option linter.unusedVariables false

/-- Weights. -/
def RdWt (w : World) (v : Value) (t : Wt) : Prop := ∃ A n c B m d, v = .agg #[.int .i64 t.var, .slice A n c, .slice B m d] ∧ RI w A n t.sym ∧ RI w B m t.rank
theorem RdWt.mk {w : World} {A B : Option Addr} {n c m d : Nat} {t : Wt} (h1 : RI w A n t.sym) (h2 : RI w B m t.rank) : RdWt w (.agg #[.int .i64 t.var, .slice A n c, .slice B m d]) t :=
  ⟨A, n, c, B, m, d, rfl, h1, h2⟩
theorem RdWt.mk' {w : World} {A B : Option Addr} {n c m d : Nat} {x : Int} {xs ys : List Int} (h1 : RI w A n xs) (h2 : RI w B m ys) : RdWt w (.agg #[.int .i64 x, .slice A n c, .slice B m d]) ⟨x, xs, ys⟩ :=
  ⟨A, n, c, B, m, d, rfl, h1, h2⟩
theorem RdWt.ext {w w' : World} {v : Value} {t : Wt} (h : RdWt w v t) (k : Ext w w') : RdWt w' v t := by
  obtain ⟨A, n, c, B, m, d, e, h1, h2⟩ := h
  exact ⟨A, n, c, B, m, d, e, h1.ext k, h2.ext k⟩
def RawWt (w : World) (v : Value) (t : Wt) : Prop := (∃ A n c B m d, v = .agg #[.int .i64 t.var, .slice A n c, .slice B m d] ∧ RJ w A n t.sym ∧ RJ w B m t.rank) ∧ -9223372036854775808 ≤ t.var ∧ t.var ≤ 9223372036854775807
theorem RawWt.mk {w : World} {A B : Option Addr} {n c m d : Nat} {t : Wt} (h1 : RJ w A n t.sym) (h2 : RJ w B m t.rank) (h3 : -9223372036854775808 ≤ t.var ∧ t.var ≤ 9223372036854775807) : RawWt w (.agg #[.int .i64 t.var, .slice A n c, .slice B m d]) t :=
  ⟨⟨A, n, c, B, m, d, rfl, h1, h2⟩, h3⟩
def szWt (left : Int) (t : Wt) : Int := szI (szI left t.sym.length) t.rank.length
theorem szWt_bd (left : Int) (t : Wt) (h : -1 ≤ left ∧ left ≤ 1048576) : -1 ≤ szWt left t ∧ szWt left t ≤ 1048576 := szI_bd _ _ (szI_bd _ _ h)
theorem szWt_ok {left : Int} {t : Wt} (h0 : -1 ≤ left) (h : 0 ≤ szWt left t) : t.sym.length ≤ left ∧ t.rank.length ≤ left ∧ szWt left t ≤ left := by
  unfold szWt at h ⊢
  have h1 := szI_nonneg h
  have h2 := szI_nonneg (left := left) (n := t.sym.length) (by omega)
  omega
/-- Weights of the call's own. -/
def NewWt (w : World) (t : Wt) (e : Ending) (w' : World) : Prop :=
  ∃ A n c B m d, e = .returned (.agg #[.int .i64 t.var, .slice A n c, .slice B m d]) ∧ OwI w' w.heap.size A n c t.sym ∧ OwI w' w.heap.size B m d t.rank ∧ (∀ g o s, A = some ⟨g, o, s⟩ → ∀ g' o' s', B = some ⟨g', o', s'⟩ → g ≠ g') ∧ Ext w w'
theorem NewWt.out {w w' : World} {t : Wt} {e : Ending} (h : NewWt w t e w') : ∃ v, e = .returned v ∧ RdWt w' v t ∧ Ext w w' := by
  obtain ⟨A, n, c, B, m, d, e, h1, h2, _, h3⟩ := h
  exact ⟨_, e, RdWt.mk h1.ri h2.ri, h3⟩

theorem wt_f1 {p q : Wt} (h : (p.var != q.var) = true) : ¬ p = q := by rintro rfl; simp at h
theorem wt_f2 {p q : Wt} (h : (!p.sym == q.sym) = true) : ¬ p = q := by rintro rfl; simp at h
theorem wt_f3 {p q : Wt} (h : (!p.rank == q.rank) = true) : ¬ p = q := by rintro rfl; simp at h
theorem wt_t {p q : Wt} (h1 : (p.var != q.var) = false) (h2 : (!p.sym == q.sym) = false) (h3 : (!p.rank == q.rank) = false) : p = q := by
  simp at h1 h2 h3; cases p; cases q; simp_all
open Classical in
set_option maxHeartbeats 800000 in
theorem c_eqWeights {v v' : Value} {p q : Wt} {w : World} (h0 : RdWt w v p) (h1 : RdWt w v' q) :
    Calls Try.prog 26 #[v, v'] w fun e w' => e = .returned (.bool (decide (p = q))) ∧ Ext w w' := by
  obtain ⟨A, n, c, B, m, d, rfl, ha, hb⟩ := h0
  obtain ⟨A', n', c', B', m', d', rfl, ha', hb'⟩ := h1
  have HA := Lib.hid ha
  have HB := Lib.hid hb
  have HA' := Lib.hid ha'
  have HB' := Lib.hid hb'
  clear ha hb ha' hb'
  go_enter Try.func26, Try.ntmps26
  go_wp2_with (first
    | (go_at_call 12; (with_reducible refine (c_eqInt64S (xs := p.sym) (ys := q.sym) (by (first | (with_reducible exact RdI.mk (RI.ext (Hid.out (by with_reducible assumption)) (by exact extX))) | (with_reducible exact RdI.ext (by with_reducible assumption) (by exact extX)))) (by (first | (with_reducible exact RdI.mk (RI.ext (Hid.out (by with_reducible assumption)) (by exact extX))) | (with_reducible exact RdI.ext (by with_reducible assumption) (by exact extX))))).mono ?_); rintro e w1 ⟨rfl, hE1⟩; have hz1 := sz_of hE1; (try simp only [World.size_alloc, World.size_setCell, World.size_drew] at hz1); obtain ⟨hc1, hf1⟩ := bcell hE1; (try have hq1_0 : w.heap.size < w1.heap.size := by omega); (try have hq1_1 : w.heap.size + 1 < w1.heap.size := by omega); (try have hq1_2 : w.heap.size + 1 + 1 < w1.heap.size := by omega); (try have hq1_3 : w.heap.size + 1 + 1 + 1 < w1.heap.size := by omega); (try have hq1_4 : w.heap.size + 1 + 1 + 1 + 1 < w1.heap.size := by omega); (try have hq1_5 : w.heap.size + 1 + 1 + 1 + 1 + 1 < w1.heap.size := by omega))
    | (go_at_call 12; (with_reducible refine (c_eqInt64S (xs := p.rank) (ys := q.rank) (by (first | (with_reducible exact RdI.mk (RI.ext (Hid.out (by with_reducible assumption)) (by exact extX))) | (with_reducible exact RdI.ext (by with_reducible assumption) (by exact extX)))) (by (first | (with_reducible exact RdI.mk (RI.ext (Hid.out (by with_reducible assumption)) (by exact extX))) | (with_reducible exact RdI.ext (by with_reducible assumption) (by exact extX))))).mono ?_); rintro e w2 ⟨rfl, hE2⟩; have hz2 := sz_of hE2; (try simp only [World.size_alloc, World.size_setCell, World.size_drew] at hz2); obtain ⟨hc2, hf2⟩ := bcell hE2; (try have hq2_0 : w.heap.size < w2.heap.size := by omega); (try have hq2_1 : w.heap.size + 1 < w2.heap.size := by omega); (try have hq2_2 : w.heap.size + 1 + 1 < w2.heap.size := by omega); (try have hq2_3 : w.heap.size + 1 + 1 + 1 < w2.heap.size := by omega); (try have hq2_4 : w.heap.size + 1 + 1 + 1 + 1 < w2.heap.size := by omega); (try have hq2_5 : w.heap.size + 1 + 1 + 1 + 1 + 1 < w2.heap.size := by omega); (try have hx2_1 : w1.heap.size < w2.heap.size := by omega)))
  all_goals go_ret
  all_goals refine ⟨ret_bool ?_, by exact extX⟩
  all_goals first
    | exact (decide_eq_false (wt_f1 (by with_reducible assumption))).symm
    | exact (decide_eq_false (wt_f2 (by with_reducible assumption))).symm
    | exact (decide_eq_false (wt_f3 (by with_reducible assumption))).symm
    | exact (decide_eq_true (wt_t (by with_reducible assumption) (by with_reducible assumption) (by with_reducible assumption))).symm
theorem c_eqWeights_self {v v' : Value} {p : Wt} {w : World} (h0 : RdWt w v p) (h1 : RdWt w v' p) :
    Calls Try.prog 26 #[v, v'] w fun e w' => e = .returned (.bool true) ∧ Ext w w' :=
  (c_eqWeights h0 h1).mono fun _ _ ⟨he, hw⟩ => ⟨he.trans (ret_bool (by simp)), hw⟩

set_option maxHeartbeats 2000000 in
theorem c_iWeightsOk {v0 v1 : Value} {ar : List Int} {t : Wt} {w : World} (h0 : RdSig w v0 ar) (h1 : RdWt w v1 t) :
    Calls Try.prog 67 #[v0, v1] w fun e w' => e = .returned (.bool (wtOk ar t)) ∧ Ext w w' := by
  obtain ⟨A, n, c, rfl, ha⟩ := h0
  obtain ⟨S, m, d, R, q, f, rfl, hs0, hr0⟩ := h1
  have hn := ha.le
  have hm := hs0.le
  have hq := hr0.le
  have HA := Lib.hid ha
  have HS := Lib.hid hs0
  have HR := Lib.hid hr0
  clear ha hs0 hr0
  rcases hrk : rankOk ar t.rank with _ | _
  · go_enter Try.func67, Try.ntmps67
    go_wp2_with (go_at_call 100; (with_reducible refine (c_iRankOk (ar := ar) (rk := t.rank) (by (first | (first | (with_reducible exact RdI.mk (RI.ext (Hid.out (by with_reducible assumption)) (by exact extX))) | (with_reducible exact RdI.ext (by with_reducible assumption) (by exact extX))) | (with_reducible exact RdWt.mk (by (first | (with_reducible exact RI.ext (Hid.out (by with_reducible assumption)) (by exact extX)))) (by (first | (with_reducible exact RI.ext (Hid.out (by with_reducible assumption)) (by exact extX))))) | (with_reducible exact RdWt.ext (by with_reducible assumption) (by exact extX)) | (with_reducible exact RdSig.mk (by (first | (with_reducible exact RI.ext (Hid.out (by with_reducible assumption)) (by exact extX))))) | (with_reducible exact RdSig.ext (by with_reducible assumption) (by exact extX)))) (by (first | (first | (with_reducible exact RdI.mk (RI.ext (Hid.out (by with_reducible assumption)) (by exact extX))) | (with_reducible exact RdI.ext (by with_reducible assumption) (by exact extX))) | (with_reducible exact RdWt.mk (by (first | (with_reducible exact RI.ext (Hid.out (by with_reducible assumption)) (by exact extX)))) (by (first | (with_reducible exact RI.ext (Hid.out (by with_reducible assumption)) (by exact extX))))) | (with_reducible exact RdWt.ext (by with_reducible assumption) (by exact extX)) | (with_reducible exact RdSig.mk (by (first | (with_reducible exact RI.ext (Hid.out (by with_reducible assumption)) (by exact extX))))) | (with_reducible exact RdSig.ext (by with_reducible assumption) (by exact extX))))).mono ?_); rintro e w1 ⟨rfl, hE1⟩; have hz1 := sz_of hE1; (try simp only [World.size_alloc, World.size_setCell, World.size_drew] at hz1); obtain ⟨hc1, hf1⟩ := bcell hE1; (try have hq1_0 : w.heap.size < w1.heap.size := by omega); (try have hq1_1 : w.heap.size + 1 < w1.heap.size := by omega); (try have hq1_2 : w.heap.size + 1 + 1 < w1.heap.size := by omega); (try have hq1_3 : w.heap.size + 1 + 1 + 1 < w1.heap.size := by omega); (try have hq1_4 : w.heap.size + 1 + 1 + 1 + 1 < w1.heap.size := by omega); (try have hq1_5 : w.heap.size + 1 + 1 + 1 + 1 + 1 < w1.heap.size := by omega))
    go_ret
    exact ⟨ret_bool (wtOk_rank hrk).symm, by exact extX⟩
  · by_cases hnm : m = n
    · subst hnm
      have hnn : ((m : Int) != (m : Int)) = false := by simp
      by_cases hv : 1 ≤ t.var ∧ t.var ≤ 20
      · obtain ⟨hv1, hv2⟩ := hv
        have hqm := (rankOk_iff.1 hrk).2.1
        rw [HA.out.len, HR.out.len] at hqm
        subst hqm
        have HK := Lib.hid hrk
        go_enter Try.func67, Try.ntmps67
        go_wp2_with (go_at_call 100; (with_reducible refine (c_iRankOk (ar := ar) (rk := t.rank) (by (first | (first | (with_reducible exact RdI.mk (RI.ext (Hid.out (by with_reducible assumption)) (by exact extX))) | (with_reducible exact RdI.ext (by with_reducible assumption) (by exact extX))) | (with_reducible exact RdWt.mk (by (first | (with_reducible exact RI.ext (Hid.out (by with_reducible assumption)) (by exact extX)))) (by (first | (with_reducible exact RI.ext (Hid.out (by with_reducible assumption)) (by exact extX))))) | (with_reducible exact RdWt.ext (by with_reducible assumption) (by exact extX)) | (with_reducible exact RdSig.mk (by (first | (with_reducible exact RI.ext (Hid.out (by with_reducible assumption)) (by exact extX))))) | (with_reducible exact RdSig.ext (by with_reducible assumption) (by exact extX)))) (by (first | (first | (with_reducible exact RdI.mk (RI.ext (Hid.out (by with_reducible assumption)) (by exact extX))) | (with_reducible exact RdI.ext (by with_reducible assumption) (by exact extX))) | (with_reducible exact RdWt.mk (by (first | (with_reducible exact RI.ext (Hid.out (by with_reducible assumption)) (by exact extX)))) (by (first | (with_reducible exact RI.ext (Hid.out (by with_reducible assumption)) (by exact extX))))) | (with_reducible exact RdWt.ext (by with_reducible assumption) (by exact extX)) | (with_reducible exact RdSig.mk (by (first | (with_reducible exact RI.ext (Hid.out (by with_reducible assumption)) (by exact extX))))) | (with_reducible exact RdSig.ext (by with_reducible assumption) (by exact extX))))).mono ?_); rintro e w1 ⟨rfl, hE1⟩; have hz1 := sz_of hE1; (try simp only [World.size_alloc, World.size_setCell, World.size_drew] at hz1); obtain ⟨hc1, hf1⟩ := bcell hE1; (try have hq1_0 : w.heap.size < w1.heap.size := by omega); (try have hq1_1 : w.heap.size + 1 < w1.heap.size := by omega); (try have hq1_2 : w.heap.size + 1 + 1 < w1.heap.size := by omega); (try have hq1_3 : w.heap.size + 1 + 1 + 1 < w1.heap.size := by omega); (try have hq1_4 : w.heap.size + 1 + 1 + 1 + 1 < w1.heap.size := by omega); (try have hq1_5 : w.heap.size + 1 + 1 + 1 + 1 + 1 < w1.heap.size := by omega))
        go_loopw [39] (fun i wr => ∃ k : Nat, i = .int .i64 k ∧ k ≤ q ∧ Hid (∀ (j : Nat) (s a r : Int), j < k → t.sym[j]? = some s → ar[j]? = some a → t.rank[j]? = some r → WtAt t.var q s a r) ∧ Ext w1 wr) (fun i _ => q - (intOf i).toNat)
        case atStart => exact ⟨0, rfl, Nat.zero_le _, fun j s a r hj => by omega, by exact extX⟩
        case round =>
          obtain ⟨k, rfl, hk, hp, hE2⟩ := hrel
          have hw : Ext w wr := by exact extX
          have hb0 : wr.cell? ⟨w.heap.size, 0, none⟩ = some (.slice A q c) := Ext.keep hE2 (by simp [go_sem, hc1, hq1_0])
          have hb1 : wr.cell? ⟨w.heap.size + 1, 0, none⟩ = some (.int .i64 t.var) := Ext.keep hE2 (by simp [go_sem, hc1, hq1_1])
          have hb2 : wr.cell? ⟨w.heap.size + 1, 1, none⟩ = some (.slice S q d) := Ext.keep hE2 (by simp [go_sem, hc1, hq1_1])
          have hb3 : wr.cell? ⟨w.heap.size + 1, 2, none⟩ = some (.slice R q f) := Ext.keep hE2 (by simp [go_sem, hc1, hq1_1])
          by_cases hlt : k < q
          · obtain ⟨b, o, s, rfl, hx, hcx⟩ := RI.at_ (RI.ext HS.out hw) hlt
            obtain ⟨b', o', a, rfl, hy, hcy⟩ := RI.at_ (RI.ext HA.out hw) hlt
            obtain ⟨b'', o'', r, rfl, hz, hcz⟩ := RI.at_ (RI.ext HR.out hw) hlt
            have HX := Lib.hid hx
            have HY := Lib.hid hy
            have HZ := Lib.hid hz
            clear hx hy hz
            have hlt' : (k : Int) < (q : Int) := by omega
            have hwt : q ≤ 4194304 := hq
            rcases hb : (r != (q : Int) - 1) with _ | _
            all_goals
              have HB := Lib.hid (show (r != (q : Int) - 1) = _ from hb)
              go_wp2
              all_goals first
                | (go_ret; exact ⟨ret_bool (wtOk_at HX.out HY.out HZ.out (by have hb2 := HB.out; simp at hb2; rw [HR.out.len]; unfold WtAt; omega)).symm, by exact extX⟩)
                | (refine ⟨⟨k + 1, by go_num, by omega, fun j s2 a2 r2 hj e1 e2 e3 => ?_, by exact extX⟩, by simp [intOf]; omega⟩
                   rcases Nat.lt_or_ge j k with h | h
                   · exact hp.out j s2 a2 r2 h e1 e2 e3
                   · obtain rfl : j = k := by omega
                     rw [HX.out] at e1; rw [HY.out] at e2; rw [HZ.out] at e3; cases e1; cases e2; cases e3
                     have hb2 := HB.out; simp at hb2; unfold WtAt; omega)
          · go_wp2
            go_ret
            refine ⟨ret_bool (wtOk_all HK.out ?_ ⟨hv1, hv2⟩ fun j s a r hj e1 e2 e3 => ?_).symm, by exact extX⟩
            · rw [HS.out.len, HA.out.len]
            · rw [HR.out.len]; exact hp.out j s a r (by rw [HS.out.len] at hj; omega) e1 e2 e3
      · go_enter Try.func67, Try.ntmps67
        go_wp2_with (go_at_call 100; (with_reducible refine (c_iRankOk (ar := ar) (rk := t.rank) (by (first | (first | (with_reducible exact RdI.mk (RI.ext (Hid.out (by with_reducible assumption)) (by exact extX))) | (with_reducible exact RdI.ext (by with_reducible assumption) (by exact extX))) | (with_reducible exact RdWt.mk (by (first | (with_reducible exact RI.ext (Hid.out (by with_reducible assumption)) (by exact extX)))) (by (first | (with_reducible exact RI.ext (Hid.out (by with_reducible assumption)) (by exact extX))))) | (with_reducible exact RdWt.ext (by with_reducible assumption) (by exact extX)) | (with_reducible exact RdSig.mk (by (first | (with_reducible exact RI.ext (Hid.out (by with_reducible assumption)) (by exact extX))))) | (with_reducible exact RdSig.ext (by with_reducible assumption) (by exact extX)))) (by (first | (first | (with_reducible exact RdI.mk (RI.ext (Hid.out (by with_reducible assumption)) (by exact extX))) | (with_reducible exact RdI.ext (by with_reducible assumption) (by exact extX))) | (with_reducible exact RdWt.mk (by (first | (with_reducible exact RI.ext (Hid.out (by with_reducible assumption)) (by exact extX)))) (by (first | (with_reducible exact RI.ext (Hid.out (by with_reducible assumption)) (by exact extX))))) | (with_reducible exact RdWt.ext (by with_reducible assumption) (by exact extX)) | (with_reducible exact RdSig.mk (by (first | (with_reducible exact RI.ext (Hid.out (by with_reducible assumption)) (by exact extX))))) | (with_reducible exact RdSig.ext (by with_reducible assumption) (by exact extX))))).mono ?_); rintro e w1 ⟨rfl, hE1⟩; have hz1 := sz_of hE1; (try simp only [World.size_alloc, World.size_setCell, World.size_drew] at hz1); obtain ⟨hc1, hf1⟩ := bcell hE1; (try have hq1_0 : w.heap.size < w1.heap.size := by omega); (try have hq1_1 : w.heap.size + 1 < w1.heap.size := by omega); (try have hq1_2 : w.heap.size + 1 + 1 < w1.heap.size := by omega); (try have hq1_3 : w.heap.size + 1 + 1 + 1 < w1.heap.size := by omega); (try have hq1_4 : w.heap.size + 1 + 1 + 1 + 1 < w1.heap.size := by omega); (try have hq1_5 : w.heap.size + 1 + 1 + 1 + 1 + 1 < w1.heap.size := by omega))
        all_goals go_ret
        all_goals exact ⟨ret_bool (wtOk_var hv).symm, by exact extX⟩
    · have hnn : ((m : Int) != (n : Int)) = true := by simp; omega
      go_enter Try.func67, Try.ntmps67
      go_wp2_with (go_at_call 100; (with_reducible refine (c_iRankOk (ar := ar) (rk := t.rank) (by (first | (first | (with_reducible exact RdI.mk (RI.ext (Hid.out (by with_reducible assumption)) (by exact extX))) | (with_reducible exact RdI.ext (by with_reducible assumption) (by exact extX))) | (with_reducible exact RdWt.mk (by (first | (with_reducible exact RI.ext (Hid.out (by with_reducible assumption)) (by exact extX)))) (by (first | (with_reducible exact RI.ext (Hid.out (by with_reducible assumption)) (by exact extX))))) | (with_reducible exact RdWt.ext (by with_reducible assumption) (by exact extX)) | (with_reducible exact RdSig.mk (by (first | (with_reducible exact RI.ext (Hid.out (by with_reducible assumption)) (by exact extX))))) | (with_reducible exact RdSig.ext (by with_reducible assumption) (by exact extX)))) (by (first | (first | (with_reducible exact RdI.mk (RI.ext (Hid.out (by with_reducible assumption)) (by exact extX))) | (with_reducible exact RdI.ext (by with_reducible assumption) (by exact extX))) | (with_reducible exact RdWt.mk (by (first | (with_reducible exact RI.ext (Hid.out (by with_reducible assumption)) (by exact extX)))) (by (first | (with_reducible exact RI.ext (Hid.out (by with_reducible assumption)) (by exact extX))))) | (with_reducible exact RdWt.ext (by with_reducible assumption) (by exact extX)) | (with_reducible exact RdSig.mk (by (first | (with_reducible exact RI.ext (Hid.out (by with_reducible assumption)) (by exact extX))))) | (with_reducible exact RdSig.ext (by with_reducible assumption) (by exact extX))))).mono ?_); rintro e w1 ⟨rfl, hE1⟩; have hz1 := sz_of hE1; (try simp only [World.size_alloc, World.size_setCell, World.size_drew] at hz1); obtain ⟨hc1, hf1⟩ := bcell hE1; (try have hq1_0 : w.heap.size < w1.heap.size := by omega); (try have hq1_1 : w.heap.size + 1 < w1.heap.size := by omega); (try have hq1_2 : w.heap.size + 1 + 1 < w1.heap.size := by omega); (try have hq1_3 : w.heap.size + 1 + 1 + 1 < w1.heap.size := by omega); (try have hq1_4 : w.heap.size + 1 + 1 + 1 + 1 < w1.heap.size := by omega); (try have hq1_5 : w.heap.size + 1 + 1 + 1 + 1 + 1 < w1.heap.size := by omega))
      go_ret
      exact ⟨ret_bool (wtOk_len (by rw [HA.out.len, HS.out.len]; omega)).symm, by exact extX⟩

set_option maxHeartbeats 4000000 in
theorem c_sWeightsOk {v0 v1 : Value} {ar : List Int} {t : Wt} {w : World} (h0 : RdSig w v0 ar) (h1 : RdWt w v1 t) :
    Calls Try.prog 122 #[v0, v1] w fun e w' => e = .returned (.bool (wtOk ar t)) ∧ Ext w w' := by
  obtain ⟨A, n, c, rfl, ha⟩ := h0
  obtain ⟨S, m, d, R, q, f, rfl, hs0, hr0⟩ := h1
  have hn := ha.le
  have hm := hs0.le
  have hq := hr0.le
  have HA := Lib.hid ha
  have HS := Lib.hid hs0
  have HR := Lib.hid hr0
  clear ha hs0 hr0
  rcases hrk : rankOk ar t.rank with _ | _
  · go_enter Try.func122, Try.ntmps122
    go_wp2_with (go_at_call 73; (with_reducible refine (c_sRankOk (ar := ar) (rk := t.rank) (by (first | (first | (with_reducible exact RdI.mk (RI.ext (Hid.out (by with_reducible assumption)) (by exact extX))) | (with_reducible exact RdI.ext (by with_reducible assumption) (by exact extX))) | (with_reducible exact RdWt.mk (by (first | (with_reducible exact RI.ext (Hid.out (by with_reducible assumption)) (by exact extX)))) (by (first | (with_reducible exact RI.ext (Hid.out (by with_reducible assumption)) (by exact extX))))) | (with_reducible exact RdWt.ext (by with_reducible assumption) (by exact extX)) | (with_reducible exact RdSig.mk (by (first | (with_reducible exact RI.ext (Hid.out (by with_reducible assumption)) (by exact extX))))) | (with_reducible exact RdSig.ext (by with_reducible assumption) (by exact extX)))) (by (first | (first | (with_reducible exact RdI.mk (RI.ext (Hid.out (by with_reducible assumption)) (by exact extX))) | (with_reducible exact RdI.ext (by with_reducible assumption) (by exact extX))) | (with_reducible exact RdWt.mk (by (first | (with_reducible exact RI.ext (Hid.out (by with_reducible assumption)) (by exact extX)))) (by (first | (with_reducible exact RI.ext (Hid.out (by with_reducible assumption)) (by exact extX))))) | (with_reducible exact RdWt.ext (by with_reducible assumption) (by exact extX)) | (with_reducible exact RdSig.mk (by (first | (with_reducible exact RI.ext (Hid.out (by with_reducible assumption)) (by exact extX))))) | (with_reducible exact RdSig.ext (by with_reducible assumption) (by exact extX))))).mono ?_); rintro e w1 ⟨rfl, hE1⟩; have hz1 := sz_of hE1; (try simp only [World.size_alloc, World.size_setCell, World.size_drew] at hz1); obtain ⟨hc1, hf1⟩ := bcell hE1; (try have hq1_0 : w.heap.size < w1.heap.size := by omega); (try have hq1_1 : w.heap.size + 1 < w1.heap.size := by omega); (try have hq1_2 : w.heap.size + 1 + 1 < w1.heap.size := by omega); (try have hq1_3 : w.heap.size + 1 + 1 + 1 < w1.heap.size := by omega); (try have hq1_4 : w.heap.size + 1 + 1 + 1 + 1 < w1.heap.size := by omega); (try have hq1_5 : w.heap.size + 1 + 1 + 1 + 1 + 1 < w1.heap.size := by omega))
    go_ret
    exact ⟨ret_bool (wtOk_rank hrk).symm, by exact extX⟩
  · by_cases hv : 1 ≤ t.var ∧ t.var ≤ 20
    · by_cases hnm : m = n
      · subst hnm
        have hnn : ((m : Int) != (m : Int)) = false := by simp
        have hqm := (rankOk_iff.1 hrk).2.1
        rw [HA.out.len, HR.out.len] at hqm
        subst hqm
        have hq1 : 1 ≤ q := by have := (rankOk_iff.1 hrk).1.1; rw [HA.out.len] at this; exact this
        have HK := Lib.hid hrk
        have HV := Lib.hid hv
        go_enter Try.func122, Try.ntmps122
        go_wp2_with (first
          | (go_at_call 73; (with_reducible refine (c_sRankOk (ar := ar) (rk := t.rank) (by (first | (first | (with_reducible exact RdI.mk (RI.ext (Hid.out (by with_reducible assumption)) (by exact extX))) | (with_reducible exact RdI.ext (by with_reducible assumption) (by exact extX))) | (with_reducible exact RdWt.mk (by (first | (with_reducible exact RI.ext (Hid.out (by with_reducible assumption)) (by exact extX)))) (by (first | (with_reducible exact RI.ext (Hid.out (by with_reducible assumption)) (by exact extX))))) | (with_reducible exact RdWt.ext (by with_reducible assumption) (by exact extX)) | (with_reducible exact RdSig.mk (by (first | (with_reducible exact RI.ext (Hid.out (by with_reducible assumption)) (by exact extX))))) | (with_reducible exact RdSig.ext (by with_reducible assumption) (by exact extX)))) (by (first | (first | (with_reducible exact RdI.mk (RI.ext (Hid.out (by with_reducible assumption)) (by exact extX))) | (with_reducible exact RdI.ext (by with_reducible assumption) (by exact extX))) | (with_reducible exact RdWt.mk (by (first | (with_reducible exact RI.ext (Hid.out (by with_reducible assumption)) (by exact extX)))) (by (first | (with_reducible exact RI.ext (Hid.out (by with_reducible assumption)) (by exact extX))))) | (with_reducible exact RdWt.ext (by with_reducible assumption) (by exact extX)) | (with_reducible exact RdSig.mk (by (first | (with_reducible exact RI.ext (Hid.out (by with_reducible assumption)) (by exact extX))))) | (with_reducible exact RdSig.ext (by with_reducible assumption) (by exact extX))))).mono ?_); rintro e w1 ⟨rfl, hE1⟩; have hz1 := sz_of hE1; (try simp only [World.size_alloc, World.size_setCell, World.size_drew] at hz1); obtain ⟨hc1, hf1⟩ := bcell hE1; (try have hq1_0 : w.heap.size < w1.heap.size := by omega); (try have hq1_1 : w.heap.size + 1 < w1.heap.size := by omega); (try have hq1_2 : w.heap.size + 1 + 1 < w1.heap.size := by omega); (try have hq1_3 : w.heap.size + 1 + 1 + 1 < w1.heap.size := by omega); (try have hq1_4 : w.heap.size + 1 + 1 + 1 + 1 < w1.heap.size := by omega); (try have hq1_5 : w.heap.size + 1 + 1 + 1 + 1 + 1 < w1.heap.size := by omega))
          | (go_at_call 89; (with_reducible refine (s_l1In_t HV.out).mono ?_); rintro e w2 ⟨rfl, rfl⟩))
        go_loopw [5] (fun i wr => ∃ k : Nat, i = .int .i64 k ∧ k ≤ q ∧ Hid (∀ (j : Nat) (s a r : Int), j < k → t.sym[j]? = some s → ar[j]? = some a → t.rank[j]? = some r → WtAt t.var q s a r) ∧ Ext w1 wr) (fun i _ => q - (intOf i).toNat)
        case atStart => exact ⟨0, rfl, Nat.zero_le _, fun j s a r hj => by omega, by exact extX⟩
        case round =>
          obtain ⟨k, rfl, hk, hp, hE2⟩ := hrel
          have hw : Ext w wr := by exact extX
          have hb0 : wr.cell? ⟨w.heap.size, 0, none⟩ = some (.slice A q c) := Ext.keep hE2 (by simp [go_sem, hc1, hq1_0])
          have hb1 : wr.cell? ⟨w.heap.size + 1, 0, none⟩ = some (.int .i64 t.var) := Ext.keep hE2 (by simp [go_sem, hc1, hq1_1])
          have hb2 : wr.cell? ⟨w.heap.size + 1, 1, none⟩ = some (.slice S q d) := Ext.keep hE2 (by simp [go_sem, hc1, hq1_1])
          have hb3 : wr.cell? ⟨w.heap.size + 1, 2, none⟩ = some (.slice R q f) := Ext.keep hE2 (by simp [go_sem, hc1, hq1_1])
          by_cases hlt : k < q
          · obtain ⟨b, o, s, rfl, hx, hcx⟩ := RI.at_ (RI.ext HS.out hw) hlt
            obtain ⟨b', o', a, rfl, hy, hcy⟩ := RI.at_ (RI.ext HA.out hw) hlt
            obtain ⟨b'', o'', r, rfl, hz, hcz⟩ := RI.at_ (RI.ext HR.out hw) hlt
            have HX := Lib.hid hx
            have HY := Lib.hid hy
            have HZ := Lib.hid hz
            clear hx hy hz
            have hlt' : (k : Int) < (q : Int) := by omega
            have hk0 : (0 : Int) ≤ (k : Int) := by omega
            have hwq : IntKind.i64.wrap ((q : Int) - 1) = (q : Int) - 1 := IntWalk.i64_in _ (by omega)
            by_cases hin : 0 ≤ s ∧ s ≤ 20
            · by_cases ha0 : a = 0
              · have e0 : (a == 0) = true := by simpa using ha0
                have e1 : (a == 1) = false := by simp; omega
                by_cases hsv : s < t.var
                · have e2 : decide (s < t.var) = true := by simpa using hsv
                  have HIN := Lib.hid hin
                  have HA0 := Lib.hid ha0
                  clear hin ha0
                  go_wp2
                  go_quiet ((go_at_call 89; exact Calls.quiet_of_same (q_l1In_t HIN.out)))
                  go_wp2
                  have hin := HIN.out
                  have ha0 := HA0.out
                  go_ret; exact ⟨ret_bool (wtOk_at HX.out HY.out HZ.out (by rw [HR.out.len]; unfold WtAt; omega)).symm, by exact extX⟩
                · have e2 : decide (s < t.var) = false := by simpa using hsv
                  have HIN := Lib.hid hin
                  have HA0 := Lib.hid ha0
                  clear hin ha0
                  go_wp2
                  go_quiet ((go_at_call 89; exact Calls.quiet_of_same (q_l1In_t HIN.out)))
                  go_wp2
                  go_quiet (fail)
                  go_wp2
                  have hin := HIN.out
                  have ha0 := HA0.out
                  go_roundw; (case rel => (refine ⟨k + 1, by go_num, by omega, fun j s2 a2 r2 hj e1 e2 e3 => (Nat.lt_or_ge j k).elim (fun h => hp.out j s2 a2 r2 h e1 e2 e3) (fun h => by (obtain rfl : j = k := by omega); rw [HX.out] at e1; rw [HY.out] at e2; rw [HZ.out] at e3; cases e1; cases e2; cases e3; unfold WtAt; omega), by exact extX⟩)); (case measure => (simp [intOf]; omega))
              · have e0 : (a == 0) = false := by simpa using ha0
                by_cases ha1 : a = 1
                · have e1 : (a == 1) = true := by simpa using ha1
                  by_cases hs0 : s = 0
                  · have e2 : (s == 0) = true := by simpa using hs0
                    by_cases hr : r = (q : Int) - 1
                    · have e3 : (r != (q : Int) - 1) = false := by simpa using hr
                      have HIN := Lib.hid hin
                      have HA0 := Lib.hid ha1
                      have HS0 := Lib.hid hs0
                      have HR0 := Lib.hid hr
                      clear hin ha0 ha1 hs0 hr
                      go_wp2
                      go_quiet ((go_at_call 89; exact Calls.quiet_of_same (q_l1In_t HIN.out)))
                      go_wp2
                      go_quiet (fail)
                      go_wp2
                      have hin := HIN.out
                      have ha0 := HA0.out
                      have hs0 := HS0.out
                      have hr := HR0.out
                      go_roundw; (case rel => (refine ⟨k + 1, by go_num, by omega, fun j s2 a2 r2 hj e1 e2 e3 => (Nat.lt_or_ge j k).elim (fun h => hp.out j s2 a2 r2 h e1 e2 e3) (fun h => by (obtain rfl : j = k := by omega); rw [HX.out] at e1; rw [HY.out] at e2; rw [HZ.out] at e3; cases e1; cases e2; cases e3; unfold WtAt; omega), by exact extX⟩)); (case measure => (simp [intOf]; omega))
                    · have e3 : (r != (q : Int) - 1) = true := by simpa using hr
                      have HIN := Lib.hid hin
                      have HA0 := Lib.hid ha1
                      have HS0 := Lib.hid hs0
                      have HR0 := Lib.hid hr
                      clear hin ha0 ha1 hs0 hr
                      go_wp2
                      go_quiet ((go_at_call 89; exact Calls.quiet_of_same (q_l1In_t HIN.out)))
                      go_wp2
                      go_quiet (fail)
                      go_wp2
                      have hin := HIN.out
                      have ha0 := HA0.out
                      have hs0 := HS0.out
                      have hr := HR0.out
                      go_ret; exact ⟨ret_bool (wtOk_at HX.out HY.out HZ.out (by rw [HR.out.len]; unfold WtAt; omega)).symm, by exact extX⟩
                  · have e2 : (s == 0) = false := by simpa using hs0
                    have HIN := Lib.hid hin
                    have HA0 := Lib.hid ha1
                    have HS0 := Lib.hid hs0
                    clear hin ha0 ha1 hs0
                    go_wp2
                    go_quiet ((go_at_call 89; exact Calls.quiet_of_same (q_l1In_t HIN.out)))
                    go_wp2
                    go_quiet (fail)
                    go_wp2
                    have hin := HIN.out
                    have ha0 := HA0.out
                    have hs0 := HS0.out
                    go_roundw; (case rel => (refine ⟨k + 1, by go_num, by omega, fun j s2 a2 r2 hj e1 e2 e3 => (Nat.lt_or_ge j k).elim (fun h => hp.out j s2 a2 r2 h e1 e2 e3) (fun h => by (obtain rfl : j = k := by omega); rw [HX.out] at e1; rw [HY.out] at e2; rw [HZ.out] at e3; cases e1; cases e2; cases e3; unfold WtAt; omega), by exact extX⟩)); (case measure => (simp [intOf]; omega))
                · have e1 : (a == 1) = false := by simpa using ha1
                  have HIN := Lib.hid hin
                  have HA0 := Lib.hid ha0
                  have HA1 := Lib.hid ha1
                  clear hin ha0 ha1
                  go_wp2
                  go_quiet ((go_at_call 89; exact Calls.quiet_of_same (q_l1In_t HIN.out)))
                  go_wp2
                  go_quiet (fail)
                  go_wp2
                  have hin := HIN.out
                  have ha0 := HA0.out
                  have ha1 := HA1.out
                  go_roundw; (case rel => (refine ⟨k + 1, by go_num, by omega, fun j s2 a2 r2 hj e1 e2 e3 => (Nat.lt_or_ge j k).elim (fun h => hp.out j s2 a2 r2 h e1 e2 e3) (fun h => by (obtain rfl : j = k := by omega); rw [HX.out] at e1; rw [HY.out] at e2; rw [HZ.out] at e3; cases e1; cases e2; cases e3; unfold WtAt; omega), by exact extX⟩)); (case measure => (simp [intOf]; omega))
            · have HIN := Lib.hid hin
              clear hin
              go_wp2
              go_quiet ((go_at_call 89; exact Calls.quiet_of_same (q_l1In_f HIN.out)))
              go_wp2
              have hin := HIN.out
              go_ret; exact ⟨ret_bool (wtOk_at HX.out HY.out HZ.out (by rw [HR.out.len]; unfold WtAt; omega)).symm, by exact extX⟩
          · go_wp2
            go_ret
            refine ⟨ret_bool (wtOk_all HK.out ?_ HV.out fun j s a r hj e1 e2 e3 => ?_).symm, by exact extX⟩
            · rw [HS.out.len, HA.out.len]
            · rw [HR.out.len]; exact hp.out j s a r (by rw [HS.out.len] at hj; omega) e1 e2 e3
      · have hnn : ((m : Int) != (n : Int)) = true := by simp; omega
        have HV := Lib.hid hv
        go_enter Try.func122, Try.ntmps122
        go_wp2_with (first
          | (go_at_call 73; (with_reducible refine (c_sRankOk (ar := ar) (rk := t.rank) (by (first | (first | (with_reducible exact RdI.mk (RI.ext (Hid.out (by with_reducible assumption)) (by exact extX))) | (with_reducible exact RdI.ext (by with_reducible assumption) (by exact extX))) | (with_reducible exact RdWt.mk (by (first | (with_reducible exact RI.ext (Hid.out (by with_reducible assumption)) (by exact extX)))) (by (first | (with_reducible exact RI.ext (Hid.out (by with_reducible assumption)) (by exact extX))))) | (with_reducible exact RdWt.ext (by with_reducible assumption) (by exact extX)) | (with_reducible exact RdSig.mk (by (first | (with_reducible exact RI.ext (Hid.out (by with_reducible assumption)) (by exact extX))))) | (with_reducible exact RdSig.ext (by with_reducible assumption) (by exact extX)))) (by (first | (first | (with_reducible exact RdI.mk (RI.ext (Hid.out (by with_reducible assumption)) (by exact extX))) | (with_reducible exact RdI.ext (by with_reducible assumption) (by exact extX))) | (with_reducible exact RdWt.mk (by (first | (with_reducible exact RI.ext (Hid.out (by with_reducible assumption)) (by exact extX)))) (by (first | (with_reducible exact RI.ext (Hid.out (by with_reducible assumption)) (by exact extX))))) | (with_reducible exact RdWt.ext (by with_reducible assumption) (by exact extX)) | (with_reducible exact RdSig.mk (by (first | (with_reducible exact RI.ext (Hid.out (by with_reducible assumption)) (by exact extX))))) | (with_reducible exact RdSig.ext (by with_reducible assumption) (by exact extX))))).mono ?_); rintro e w1 ⟨rfl, hE1⟩; have hz1 := sz_of hE1; (try simp only [World.size_alloc, World.size_setCell, World.size_drew] at hz1); obtain ⟨hc1, hf1⟩ := bcell hE1; (try have hq1_0 : w.heap.size < w1.heap.size := by omega); (try have hq1_1 : w.heap.size + 1 < w1.heap.size := by omega); (try have hq1_2 : w.heap.size + 1 + 1 < w1.heap.size := by omega); (try have hq1_3 : w.heap.size + 1 + 1 + 1 < w1.heap.size := by omega); (try have hq1_4 : w.heap.size + 1 + 1 + 1 + 1 < w1.heap.size := by omega); (try have hq1_5 : w.heap.size + 1 + 1 + 1 + 1 + 1 < w1.heap.size := by omega))
          | (go_at_call 89; (with_reducible refine (s_l1In_t HV.out).mono ?_); rintro e w2 ⟨rfl, rfl⟩))
        go_ret
        exact ⟨ret_bool (wtOk_len (by rw [HA.out.len, HS.out.len]; omega)).symm, by exact extX⟩
    · have HV := Lib.hid hv
      go_enter Try.func122, Try.ntmps122
      go_wp2_with (first
        | (go_at_call 73; (with_reducible refine (c_sRankOk (ar := ar) (rk := t.rank) (by (first | (first | (with_reducible exact RdI.mk (RI.ext (Hid.out (by with_reducible assumption)) (by exact extX))) | (with_reducible exact RdI.ext (by with_reducible assumption) (by exact extX))) | (with_reducible exact RdWt.mk (by (first | (with_reducible exact RI.ext (Hid.out (by with_reducible assumption)) (by exact extX)))) (by (first | (with_reducible exact RI.ext (Hid.out (by with_reducible assumption)) (by exact extX))))) | (with_reducible exact RdWt.ext (by with_reducible assumption) (by exact extX)) | (with_reducible exact RdSig.mk (by (first | (with_reducible exact RI.ext (Hid.out (by with_reducible assumption)) (by exact extX))))) | (with_reducible exact RdSig.ext (by with_reducible assumption) (by exact extX)))) (by (first | (first | (with_reducible exact RdI.mk (RI.ext (Hid.out (by with_reducible assumption)) (by exact extX))) | (with_reducible exact RdI.ext (by with_reducible assumption) (by exact extX))) | (with_reducible exact RdWt.mk (by (first | (with_reducible exact RI.ext (Hid.out (by with_reducible assumption)) (by exact extX)))) (by (first | (with_reducible exact RI.ext (Hid.out (by with_reducible assumption)) (by exact extX))))) | (with_reducible exact RdWt.ext (by with_reducible assumption) (by exact extX)) | (with_reducible exact RdSig.mk (by (first | (with_reducible exact RI.ext (Hid.out (by with_reducible assumption)) (by exact extX))))) | (with_reducible exact RdSig.ext (by with_reducible assumption) (by exact extX))))).mono ?_); rintro e w1 ⟨rfl, hE1⟩; have hz1 := sz_of hE1; (try simp only [World.size_alloc, World.size_setCell, World.size_drew] at hz1); obtain ⟨hc1, hf1⟩ := bcell hE1; (try have hq1_0 : w.heap.size < w1.heap.size := by omega); (try have hq1_1 : w.heap.size + 1 < w1.heap.size := by omega); (try have hq1_2 : w.heap.size + 1 + 1 < w1.heap.size := by omega); (try have hq1_3 : w.heap.size + 1 + 1 + 1 < w1.heap.size := by omega); (try have hq1_4 : w.heap.size + 1 + 1 + 1 + 1 < w1.heap.size := by omega); (try have hq1_5 : w.heap.size + 1 + 1 + 1 + 1 + 1 < w1.heap.size := by omega))
        | (go_at_call 89; (with_reducible refine (s_l1In_f HV.out).mono ?_); rintro e w2 ⟨rfl, rfl⟩))
      go_ret
      exact ⟨ret_bool (wtOk_var HV.out).symm, by exact extX⟩

end Go.Proofs.Ytjmdfjinicbkeaa
