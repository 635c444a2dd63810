/- Proved: for every input the law FnExactSameDep returns true, does not panic, and each argument reads afterwards as it read before. Conditions: none. -/
import Derived.Test.YtknjfeoijcelgaaDep
import Derived.Test.YtknjfeoijcelgaaRegion
import Derived.Test.YtknjfeoijcelgaaOpenT
namespace Go.Proofs.Ytknjfeoijcelgaa.FnExactSameDep
open Go.ChangeShapes Go.WideShapes Go.ChangeAt Go.RowKit
set_option linter.constructorNameAsVariable false
set_option linter.unusedSimpArgs false
set_option linter.unusedVariables false

set_option maxRecDepth 100000 in
set_option maxHeartbeats 1000000 in
theorem walk {v0 v1 : Value} {p q : DepP} {w : World} (h0 : RawDep w v0 p) (h1 : RawDep w v1 q) :
    Calls Try.prog 3 #[v0, v1] w fun e w' => e = .returned (.bool true) ∧ Ext w w' := by
  obtain ⟨A, n, c, B, m, d, rfl, ha, hb⟩ := h0
  obtain ⟨A', n', c', B', m', d', rfl, ha', hb'⟩ := h1
  have hn := ha.le
  have hm := hb.le
  have hn' := ha'.le
  have hm' := hb'.le
  have b1 := szI_le 1048576 n (by omega)
  have b2 := szI_lo 1048576 n
  have b3 := szI_le (szI 1048576 n) m b2
  have b4 := szI_lo (szI 1048576 n) m
  go_enter Try.func3, Try.ntmps3
  go_wp2_with (first
    | (go_at_call 15; (with_reducible refine (c_szDepPair (n := n) (m := m) (by omega) (by omega) hn hm).mono ?_); rintro e w1 ⟨rfl, hE1⟩; have hz1 := sz_of hE1; (try simp only [World.size_alloc, World.size_setCell, World.size_drew] at hz1); obtain ⟨hc1, hf1⟩ := bcell hE1; (try have hq1_0 : w.heap.size < w1.heap.size := by omega); (try have hq1_1 : w.heap.size + 1 < w1.heap.size := by omega); (try have hq1_2 : w.heap.size + 1 + 1 < w1.heap.size := by omega); (try have hq1_3 : w.heap.size + 1 + 1 + 1 < w1.heap.size := by omega); (try have hq1_4 : w.heap.size + 1 + 1 + 1 + 1 < w1.heap.size := by omega); (try have hq1_5 : w.heap.size + 1 + 1 + 1 + 1 + 1 < w1.heap.size := by omega))
    | (go_at_call 15; (with_reducible refine (c_szDepPair (n := n') (m := m') b4 (by omega) hn' hm').mono ?_); rintro e w2 ⟨rfl, hE2⟩; have hz2 := sz_of hE2; (try simp only [World.size_alloc, World.size_setCell, World.size_drew] at hz2); obtain ⟨hc2, hf2⟩ := bcell hE2; (try have hq2_0 : w.heap.size < w2.heap.size := by omega); (try have hq2_1 : w.heap.size + 1 < w2.heap.size := by omega); (try have hq2_2 : w.heap.size + 1 + 1 < w2.heap.size := by omega); (try have hq2_3 : w.heap.size + 1 + 1 + 1 < w2.heap.size := by omega); (try have hq2_4 : w.heap.size + 1 + 1 + 1 + 1 < w2.heap.size := by omega); (try have hq2_5 : w.heap.size + 1 + 1 + 1 + 1 + 1 < w2.heap.size := by omega); (try have hx2_1 : w1.heap.size < w2.heap.size := by omega)))
  · go_ret; exact ⟨rfl, by (repeat' (first | (with_reducible exact Ext.refl _) | (with_reducible assumption) | (with_reducible refine Ext.alloc ?_ _) | (with_reducible refine Ext.set ?_ ?_ _) | (with_reducible refine Ext.drewN ?_ _) | (with_reducible refine Ext.drew ?_) | (with_reducible refine Ext.trans ?_ (by with_reducible assumption)) | go_size))⟩
  · go_ret; exact ⟨rfl, by (repeat' (first | (with_reducible exact Ext.refl _) | (with_reducible assumption) | (with_reducible refine Ext.alloc ?_ _) | (with_reducible refine Ext.set ?_ ?_ _) | (with_reducible refine Ext.drewN ?_ _) | (with_reducible refine Ext.drew ?_) | (with_reducible refine Ext.trans ?_ (by with_reducible assumption)) | go_size))⟩
  have q1 : 0 ≤ szI (szI (szI (szI 1048576 n) m) n') m' := by assumption
  have q2 : 0 ≤ szI (szI 1048576 n) m := by assumption
  have k1 := szI_nonneg q2
  have k2 := szI_nonneg (n := n) (left := 1048576) (by omega)
  have k3 := szI_nonneg q1
  have k4 := szI_nonneg (n := n') (left := szI (szI 1048576 n) m) (by omega)
  have HA := Lib.hid (ha.ri (by omega))
  have HB := Lib.hid (hb.ri (by omega))
  have HA' := Lib.hid (ha'.ri (by omega))
  have HB' := Lib.hid (hb'.ri (by omega))
  clear k1 k2 k3 k4
  refine wp_region_inv (by kernel_rfl) (by kernel_rfl) (fun a0 S a w' => ∃ u20 u21 u22 u23 u24 u6 : Value, a = ((((((a0.put (some 20) u20).put (some 21) u21).put (some 22) u22).put (some 23) u23).put (some 24) u24).put (some 6) u6) ∧ Ext w2 w' ∧ (S 0 = true → u20 = .agg #[.slice A n c, .slice B m d, .int .i64 p.rule, .int .i64 p.at_]) ∧ (S 1 = true → RdDep w' u21 p) ∧ (S 2 = true → u22 = .agg #[.slice A' n' c', .slice B' m' d', .int .i64 q.rule, .int .i64 q.at_]) ∧ (S 3 = true → RdDep w' u23 q) ∧ (S 4 = true → u24 = .bool (p.same q)) ∧ (S 5 = true → u6 = .bool (p.same q))) ?_ ?_ ?_
  · intro S hS
    exact ⟨undef, undef, undef, undef, undef, undef, by simp only [Act.put, List.setIfInBounds_toArray, List.set_cons_zero, List.set_cons_succ], Ext.drew (Ext.refl _), fun h => absurd ((hS 0 (by decide)).symm.trans h) (by decide), fun h => absurd ((hS 1 (by decide)).symm.trans h) (by decide), fun h => absurd ((hS 2 (by decide)).symm.trans h) (by decide), fun h => absurd ((hS 3 (by decide)).symm.trans h) (by decide), fun h => absurd ((hS 4 (by decide)).symm.trans h) (by decide), fun h => absurd ((hS 5 (by decide)).symm.trans h) (by decide)⟩
  · refine ⟨?_, ?_, ?_, ?_, ?_, ?_, trivial⟩
    · refine StepInv.plain rfl fun S a w' K hdep hI hK0 => ?_
      obtain ⟨u20, u21, u22, u23, u24, u6, ha, hE', p0, p1, p2, p3, p4, p5⟩ := hI
      simp only [Act.put, List.setIfInBounds_toArray, List.set_cons_zero, List.set_cons_succ] at ha
      subst ha
      have hK := Lib.hid hK0; clear hK0
      clear hdep
      obtain ⟨hc3, hf3⟩ := bcell hE'; have hz' := sz_of hE'; (try have hqq_0 : w.heap.size < w'.heap.size := by omega); (try have hqq_1 : w.heap.size + 1 < w'.heap.size := by omega); (try have hqq_2 : w.heap.size + 1 + 1 < w'.heap.size := by omega); (try have hqq_3 : w.heap.size + 1 + 1 + 1 < w'.heap.size := by omega); (try have hqq_4 : w.heap.size + 1 + 1 + 1 + 1 < w'.heap.size := by omega); (try have hqq_5 : w.heap.size + 1 + 1 + 1 + 1 + 1 < w'.heap.size := by omega); (try have hxq_1 : w1.heap.size < w'.heap.size := by omega); (try have hxq_2 : w2.heap.size < w'.heap.size := by omega); (try have hxq_3 : w3.heap.size < w'.heap.size := by omega); (try have hxq_4 : w4.heap.size < w'.heap.size := by omega); (try have hxq_5 : w5.heap.size < w'.heap.size := by omega); (try have hxq_6 : w6.heap.size < w'.heap.size := by omega); (try have hxq_7 : w7.heap.size < w'.heap.size := by omega)
      go_wp2_with fail
      exact hK.out _ _ ⟨.agg #[.slice A n c, .slice B m d, .int .i64 p.rule, .int .i64 p.at_], u21, u22, u23, u24, u6, by simp only [Act.put, List.setIfInBounds_toArray, List.set_cons_zero, List.set_cons_succ], by (repeat' (first | (with_reducible exact Ext.refl _) | (with_reducible assumption) | (with_reducible refine Ext.alloc ?_ _) | (with_reducible refine Ext.set ?_ ?_ _) | (with_reducible refine Ext.drewN ?_ _) | (with_reducible refine Ext.drew ?_) | (with_reducible refine Ext.trans ?_ (by with_reducible assumption)) | go_size)), fun _ => rfl, fun h => (p1 (by simpa using h)), fun h => (p2 (by simpa using h)), fun h => (p3 (by simpa using h)), fun h => (p4 (by simpa using h)), fun h => (p5 (by simpa using h))⟩
    · refine StepInv.plain rfl fun S a w' K hdep hI hK0 => ?_
      obtain ⟨u20, u21, u22, u23, u24, u6, ha, hE', p0, p1, p2, p3, p4, p5⟩ := hI
      simp only [Act.put, List.setIfInBounds_toArray, List.set_cons_zero, List.set_cons_succ] at ha
      subst ha
      have hK := Lib.hid hK0; clear hK0
      have d0 := p0 (hdep ⟨0, Ground.data⟩ (by simp) rfl)
      obtain rfl := d0
      clear hdep
      obtain ⟨hc3, hf3⟩ := bcell hE'; have hz' := sz_of hE'; (try have hqq_0 : w.heap.size < w'.heap.size := by omega); (try have hqq_1 : w.heap.size + 1 < w'.heap.size := by omega); (try have hqq_2 : w.heap.size + 1 + 1 < w'.heap.size := by omega); (try have hqq_3 : w.heap.size + 1 + 1 + 1 < w'.heap.size := by omega); (try have hqq_4 : w.heap.size + 1 + 1 + 1 + 1 < w'.heap.size := by omega); (try have hqq_5 : w.heap.size + 1 + 1 + 1 + 1 + 1 < w'.heap.size := by omega); (try have hxq_1 : w1.heap.size < w'.heap.size := by omega); (try have hxq_2 : w2.heap.size < w'.heap.size := by omega); (try have hxq_3 : w3.heap.size < w'.heap.size := by omega); (try have hxq_4 : w4.heap.size < w'.heap.size := by omega); (try have hxq_5 : w5.heap.size < w'.heap.size := by omega); (try have hxq_6 : w6.heap.size < w'.heap.size := by omega); (try have hxq_7 : w7.heap.size < w'.heap.size := by omega)
      go_wp2_with (go_at_call 17; (with_reducible refine (c_toDepPair (RI.ext HA.out (by (repeat' (first | (with_reducible exact Ext.refl _) | (with_reducible assumption) | (with_reducible refine Ext.alloc ?_ _) | (with_reducible refine Ext.set ?_ ?_ _) | (with_reducible refine Ext.drewN ?_ _) | (with_reducible refine Ext.drew ?_) | (with_reducible refine Ext.trans ?_ (by with_reducible assumption)) | go_size)))) (RI.ext HB.out (by (repeat' (first | (with_reducible exact Ext.refl _) | (with_reducible assumption) | (with_reducible refine Ext.alloc ?_ _) | (with_reducible refine Ext.set ?_ ?_ _) | (with_reducible refine Ext.drewN ?_ _) | (with_reducible refine Ext.drew ?_) | (with_reducible refine Ext.trans ?_ (by with_reducible assumption)) | go_size))))).mono ?_); intro e w'' hr; obtain ⟨v, rfl, hr, hE''⟩ := hr.out)
      exact hK.out _ _ ⟨.agg #[.slice A n c, .slice B m d, .int .i64 p.rule, .int .i64 p.at_], v, u22, u23, u24, u6, by simp only [Act.put, List.setIfInBounds_toArray, List.set_cons_zero, List.set_cons_succ], by (repeat' (first | (with_reducible exact Ext.refl _) | (with_reducible assumption) | (with_reducible refine Ext.alloc ?_ _) | (with_reducible refine Ext.set ?_ ?_ _) | (with_reducible refine Ext.drewN ?_ _) | (with_reducible refine Ext.drew ?_) | (with_reducible refine Ext.trans ?_ (by with_reducible assumption)) | go_size)), fun _ => rfl, fun _ => hr, fun h => (p2 (by simpa using h)), fun h => (p3 (by simpa using h)).ext (by (repeat' (first | (with_reducible exact Ext.refl _) | (with_reducible assumption) | (with_reducible refine Ext.alloc ?_ _) | (with_reducible refine Ext.set ?_ ?_ _) | (with_reducible refine Ext.drewN ?_ _) | (with_reducible refine Ext.drew ?_) | (with_reducible refine Ext.trans ?_ (by with_reducible assumption)) | go_size))), fun h => (p4 (by simpa using h)), fun h => (p5 (by simpa using h))⟩
    · refine StepInv.plain rfl fun S a w' K hdep hI hK0 => ?_
      obtain ⟨u20, u21, u22, u23, u24, u6, ha, hE', p0, p1, p2, p3, p4, p5⟩ := hI
      simp only [Act.put, List.setIfInBounds_toArray, List.set_cons_zero, List.set_cons_succ] at ha
      subst ha
      have hK := Lib.hid hK0; clear hK0
      clear hdep
      obtain ⟨hc3, hf3⟩ := bcell hE'; have hz' := sz_of hE'; (try have hqq_0 : w.heap.size < w'.heap.size := by omega); (try have hqq_1 : w.heap.size + 1 < w'.heap.size := by omega); (try have hqq_2 : w.heap.size + 1 + 1 < w'.heap.size := by omega); (try have hqq_3 : w.heap.size + 1 + 1 + 1 < w'.heap.size := by omega); (try have hqq_4 : w.heap.size + 1 + 1 + 1 + 1 < w'.heap.size := by omega); (try have hqq_5 : w.heap.size + 1 + 1 + 1 + 1 + 1 < w'.heap.size := by omega); (try have hxq_1 : w1.heap.size < w'.heap.size := by omega); (try have hxq_2 : w2.heap.size < w'.heap.size := by omega); (try have hxq_3 : w3.heap.size < w'.heap.size := by omega); (try have hxq_4 : w4.heap.size < w'.heap.size := by omega); (try have hxq_5 : w5.heap.size < w'.heap.size := by omega); (try have hxq_6 : w6.heap.size < w'.heap.size := by omega); (try have hxq_7 : w7.heap.size < w'.heap.size := by omega)
      go_wp2_with fail
      exact hK.out _ _ ⟨u20, u21, .agg #[.slice A' n' c', .slice B' m' d', .int .i64 q.rule, .int .i64 q.at_], u23, u24, u6, by simp only [Act.put, List.setIfInBounds_toArray, List.set_cons_zero, List.set_cons_succ], by (repeat' (first | (with_reducible exact Ext.refl _) | (with_reducible assumption) | (with_reducible refine Ext.alloc ?_ _) | (with_reducible refine Ext.set ?_ ?_ _) | (with_reducible refine Ext.drewN ?_ _) | (with_reducible refine Ext.drew ?_) | (with_reducible refine Ext.trans ?_ (by with_reducible assumption)) | go_size)), fun h => (p0 (by simpa using h)), fun h => (p1 (by simpa using h)), fun _ => rfl, fun h => (p3 (by simpa using h)), fun h => (p4 (by simpa using h)), fun h => (p5 (by simpa using h))⟩
    · refine StepInv.plain rfl fun S a w' K hdep hI hK0 => ?_
      obtain ⟨u20, u21, u22, u23, u24, u6, ha, hE', p0, p1, p2, p3, p4, p5⟩ := hI
      simp only [Act.put, List.setIfInBounds_toArray, List.set_cons_zero, List.set_cons_succ] at ha
      subst ha
      have hK := Lib.hid hK0; clear hK0
      have d2 := p2 (hdep ⟨2, Ground.data⟩ (by simp) rfl)
      obtain rfl := d2
      clear hdep
      obtain ⟨hc3, hf3⟩ := bcell hE'; have hz' := sz_of hE'; (try have hqq_0 : w.heap.size < w'.heap.size := by omega); (try have hqq_1 : w.heap.size + 1 < w'.heap.size := by omega); (try have hqq_2 : w.heap.size + 1 + 1 < w'.heap.size := by omega); (try have hqq_3 : w.heap.size + 1 + 1 + 1 < w'.heap.size := by omega); (try have hqq_4 : w.heap.size + 1 + 1 + 1 + 1 < w'.heap.size := by omega); (try have hqq_5 : w.heap.size + 1 + 1 + 1 + 1 + 1 < w'.heap.size := by omega); (try have hxq_1 : w1.heap.size < w'.heap.size := by omega); (try have hxq_2 : w2.heap.size < w'.heap.size := by omega); (try have hxq_3 : w3.heap.size < w'.heap.size := by omega); (try have hxq_4 : w4.heap.size < w'.heap.size := by omega); (try have hxq_5 : w5.heap.size < w'.heap.size := by omega); (try have hxq_6 : w6.heap.size < w'.heap.size := by omega); (try have hxq_7 : w7.heap.size < w'.heap.size := by omega)
      go_wp2_with (go_at_call 17; (with_reducible refine (c_toDepPair (RI.ext HA'.out (by (repeat' (first | (with_reducible exact Ext.refl _) | (with_reducible assumption) | (with_reducible refine Ext.alloc ?_ _) | (with_reducible refine Ext.set ?_ ?_ _) | (with_reducible refine Ext.drewN ?_ _) | (with_reducible refine Ext.drew ?_) | (with_reducible refine Ext.trans ?_ (by with_reducible assumption)) | go_size)))) (RI.ext HB'.out (by (repeat' (first | (with_reducible exact Ext.refl _) | (with_reducible assumption) | (with_reducible refine Ext.alloc ?_ _) | (with_reducible refine Ext.set ?_ ?_ _) | (with_reducible refine Ext.drewN ?_ _) | (with_reducible refine Ext.drew ?_) | (with_reducible refine Ext.trans ?_ (by with_reducible assumption)) | go_size))))).mono ?_); intro e w'' hr; obtain ⟨v, rfl, hr, hE''⟩ := hr.out)
      exact hK.out _ _ ⟨u20, u21, .agg #[.slice A' n' c', .slice B' m' d', .int .i64 q.rule, .int .i64 q.at_], v, u24, u6, by simp only [Act.put, List.setIfInBounds_toArray, List.set_cons_zero, List.set_cons_succ], by (repeat' (first | (with_reducible exact Ext.refl _) | (with_reducible assumption) | (with_reducible refine Ext.alloc ?_ _) | (with_reducible refine Ext.set ?_ ?_ _) | (with_reducible refine Ext.drewN ?_ _) | (with_reducible refine Ext.drew ?_) | (with_reducible refine Ext.trans ?_ (by with_reducible assumption)) | go_size)), fun h => (p0 (by simpa using h)), fun h => (p1 (by simpa using h)).ext (by (repeat' (first | (with_reducible exact Ext.refl _) | (with_reducible assumption) | (with_reducible refine Ext.alloc ?_ _) | (with_reducible refine Ext.set ?_ ?_ _) | (with_reducible refine Ext.drewN ?_ _) | (with_reducible refine Ext.drew ?_) | (with_reducible refine Ext.trans ?_ (by with_reducible assumption)) | go_size))), fun _ => rfl, fun _ => hr, fun h => (p4 (by simpa using h)), fun h => (p5 (by simpa using h))⟩
    · refine StepInv.plain rfl fun S a w' K hdep hI hK0 => ?_
      obtain ⟨u20, u21, u22, u23, u24, u6, ha, hE', p0, p1, p2, p3, p4, p5⟩ := hI
      simp only [Act.put, List.setIfInBounds_toArray, List.set_cons_zero, List.set_cons_succ] at ha
      subst ha
      have hK := Lib.hid hK0; clear hK0
      have d1 := p1 (hdep ⟨1, Ground.data⟩ (by simp) rfl)
      have d3 := p3 (hdep ⟨3, Ground.data⟩ (by simp) rfl)
      clear hdep
      obtain ⟨hc3, hf3⟩ := bcell hE'; have hz' := sz_of hE'; (try have hqq_0 : w.heap.size < w'.heap.size := by omega); (try have hqq_1 : w.heap.size + 1 < w'.heap.size := by omega); (try have hqq_2 : w.heap.size + 1 + 1 < w'.heap.size := by omega); (try have hqq_3 : w.heap.size + 1 + 1 + 1 < w'.heap.size := by omega); (try have hqq_4 : w.heap.size + 1 + 1 + 1 + 1 < w'.heap.size := by omega); (try have hqq_5 : w.heap.size + 1 + 1 + 1 + 1 + 1 < w'.heap.size := by omega); (try have hxq_1 : w1.heap.size < w'.heap.size := by omega); (try have hxq_2 : w2.heap.size < w'.heap.size := by omega); (try have hxq_3 : w3.heap.size < w'.heap.size := by omega); (try have hxq_4 : w4.heap.size < w'.heap.size := by omega); (try have hxq_5 : w5.heap.size < w'.heap.size := by omega); (try have hxq_6 : w6.heap.size < w'.heap.size := by omega); (try have hxq_7 : w7.heap.size < w'.heap.size := by omega)
      go_wp2_with (go_at_call 16; (with_reducible refine (c_sSameDep d1 d3).mono ?_); rintro e w'' ⟨rfl, hE''⟩)
      exact hK.out _ _ ⟨u20, u21, u22, u23, .bool (p.same q), u6, by simp only [Act.put, List.setIfInBounds_toArray, List.set_cons_zero, List.set_cons_succ], by (repeat' (first | (with_reducible exact Ext.refl _) | (with_reducible assumption) | (with_reducible refine Ext.alloc ?_ _) | (with_reducible refine Ext.set ?_ ?_ _) | (with_reducible refine Ext.drewN ?_ _) | (with_reducible refine Ext.drew ?_) | (with_reducible refine Ext.trans ?_ (by with_reducible assumption)) | go_size)), fun h => (p0 (by simpa using h)), fun _ => d1.ext (by (repeat' (first | (with_reducible exact Ext.refl _) | (with_reducible assumption) | (with_reducible refine Ext.alloc ?_ _) | (with_reducible refine Ext.set ?_ ?_ _) | (with_reducible refine Ext.drewN ?_ _) | (with_reducible refine Ext.drew ?_) | (with_reducible refine Ext.trans ?_ (by with_reducible assumption)) | go_size))), fun h => (p2 (by simpa using h)), fun _ => d3.ext (by (repeat' (first | (with_reducible exact Ext.refl _) | (with_reducible assumption) | (with_reducible refine Ext.alloc ?_ _) | (with_reducible refine Ext.set ?_ ?_ _) | (with_reducible refine Ext.drewN ?_ _) | (with_reducible refine Ext.drew ?_) | (with_reducible refine Ext.trans ?_ (by with_reducible assumption)) | go_size))), fun _ => rfl, fun h => (p5 (by simpa using h))⟩
    · refine StepInv.plain rfl fun S a w' K hdep hI hK0 => ?_
      obtain ⟨u20, u21, u22, u23, u24, u6, ha, hE', p0, p1, p2, p3, p4, p5⟩ := hI
      simp only [Act.put, List.setIfInBounds_toArray, List.set_cons_zero, List.set_cons_succ] at ha
      subst ha
      have hK := Lib.hid hK0; clear hK0
      have d4 := p4 (hdep ⟨4, Ground.data⟩ (by simp) rfl)
      obtain rfl := d4
      clear hdep
      obtain ⟨hc3, hf3⟩ := bcell hE'; have hz' := sz_of hE'; (try have hqq_0 : w.heap.size < w'.heap.size := by omega); (try have hqq_1 : w.heap.size + 1 < w'.heap.size := by omega); (try have hqq_2 : w.heap.size + 1 + 1 < w'.heap.size := by omega); (try have hqq_3 : w.heap.size + 1 + 1 + 1 < w'.heap.size := by omega); (try have hqq_4 : w.heap.size + 1 + 1 + 1 + 1 < w'.heap.size := by omega); (try have hqq_5 : w.heap.size + 1 + 1 + 1 + 1 + 1 < w'.heap.size := by omega); (try have hxq_1 : w1.heap.size < w'.heap.size := by omega); (try have hxq_2 : w2.heap.size < w'.heap.size := by omega); (try have hxq_3 : w3.heap.size < w'.heap.size := by omega); (try have hxq_4 : w4.heap.size < w'.heap.size := by omega); (try have hxq_5 : w5.heap.size < w'.heap.size := by omega); (try have hxq_6 : w6.heap.size < w'.heap.size := by omega); (try have hxq_7 : w7.heap.size < w'.heap.size := by omega)
      go_wp2_with fail
      exact hK.out _ _ ⟨u20, u21, u22, u23, .bool (p.same q), .bool (p.same q), by simp only [Act.put, List.setIfInBounds_toArray, List.set_cons_zero, List.set_cons_succ], by (repeat' (first | (with_reducible exact Ext.refl _) | (with_reducible assumption) | (with_reducible refine Ext.alloc ?_ _) | (with_reducible refine Ext.set ?_ ?_ _) | (with_reducible refine Ext.drewN ?_ _) | (with_reducible refine Ext.drew ?_) | (with_reducible refine Ext.trans ?_ (by with_reducible assumption)) | go_size)), fun h => (p0 (by simpa using h)), fun h => (p1 (by simpa using h)), fun h => (p2 (by simpa using h)), fun h => (p3 (by simpa using h)), fun _ => rfl, fun _ => rfl⟩
  intro S a w3 hS hI
  obtain ⟨u20, u21, u22, u23, u24, u6, ha, hE3, p0, p1, p2, p3, p4, p5⟩ := hI
  simp only [Act.put, List.setIfInBounds_toArray, List.set_cons_zero, List.set_cons_succ] at ha
  subst ha
  have r3_0 := p0 (hS 0 (by decide)); clear p0
  obtain rfl := r3_0
  have r3_1 := p1 (hS 1 (by decide)); clear p1
  have r3_2 := p2 (hS 2 (by decide)); clear p2
  obtain rfl := r3_2
  have r3_3 := p3 (hS 3 (by decide)); clear p3
  have r3_4 := p4 (hS 4 (by decide)); clear p4
  obtain rfl := r3_4
  have r3_5 := p5 (hS 5 (by decide)); clear p5
  obtain rfl := r3_5
  clear hS
  have hz3 := sz_of hE3; (try simp only [World.size_alloc, World.size_setCell, World.size_drew] at hz3); obtain ⟨hc3, hf3⟩ := bcell hE3; (try have hq3_0 : w.heap.size < w3.heap.size := by omega); (try have hq3_1 : w.heap.size + 1 < w3.heap.size := by omega); (try have hq3_2 : w.heap.size + 1 + 1 < w3.heap.size := by omega); (try have hq3_3 : w.heap.size + 1 + 1 + 1 < w3.heap.size := by omega); (try have hq3_4 : w.heap.size + 1 + 1 + 1 + 1 < w3.heap.size := by omega); (try have hq3_5 : w.heap.size + 1 + 1 + 1 + 1 + 1 < w3.heap.size := by omega); (try have hx3_1 : w1.heap.size < w3.heap.size := by omega); (try have hx3_2 : w2.heap.size < w3.heap.size := by omega)
  go_wp2_with fail
  (with_reducible refine (c_toDepPair (p := p) (RI.ext HA.out (by (repeat' (first | (with_reducible exact Ext.refl _) | (with_reducible assumption) | (with_reducible refine Ext.alloc ?_ _) | (with_reducible refine Ext.set ?_ ?_ _) | (with_reducible refine Ext.drewN ?_ _) | (with_reducible refine Ext.drew ?_) | (with_reducible refine Ext.trans ?_ (by with_reducible assumption)) | go_size)))) (RI.ext HB.out (by (repeat' (first | (with_reducible exact Ext.refl _) | (with_reducible assumption) | (with_reducible refine Ext.alloc ?_ _) | (with_reducible refine Ext.set ?_ ?_ _) | (with_reducible refine Ext.drewN ?_ _) | (with_reducible refine Ext.drew ?_) | (with_reducible refine Ext.trans ?_ (by with_reducible assumption)) | go_size))))).mono ?_); intro e w4 hr; obtain ⟨v, rfl, ⟨A4, n4, c4, B4, m4, d4, rfl, h4, h4'⟩, hE4⟩ := hr.out; have HR4 := Lib.hid h4; have HS4 := Lib.hid h4'; clear h4 h4' hr; have hz4 := sz_of hE4; (try simp only [World.size_alloc, World.size_setCell, World.size_drew] at hz4); obtain ⟨hc4, hf4⟩ := bcell hE4; (try have hq4_0 : w.heap.size < w4.heap.size := by omega); (try have hq4_1 : w.heap.size + 1 < w4.heap.size := by omega); (try have hq4_2 : w.heap.size + 1 + 1 < w4.heap.size := by omega); (try have hq4_3 : w.heap.size + 1 + 1 + 1 < w4.heap.size := by omega); (try have hq4_4 : w.heap.size + 1 + 1 + 1 + 1 < w4.heap.size := by omega); (try have hq4_5 : w.heap.size + 1 + 1 + 1 + 1 + 1 < w4.heap.size := by omega); (try have hx4_1 : w1.heap.size < w4.heap.size := by omega); (try have hx4_2 : w2.heap.size < w4.heap.size := by omega); (try have hx4_3 : w3.heap.size < w4.heap.size := by omega)
  go_wp2_with fail
  (with_reducible refine (c_toDepPair (p := q) (RI.ext HA'.out (by (repeat' (first | (with_reducible exact Ext.refl _) | (with_reducible assumption) | (with_reducible refine Ext.alloc ?_ _) | (with_reducible refine Ext.set ?_ ?_ _) | (with_reducible refine Ext.drewN ?_ _) | (with_reducible refine Ext.drew ?_) | (with_reducible refine Ext.trans ?_ (by with_reducible assumption)) | go_size)))) (RI.ext HB'.out (by (repeat' (first | (with_reducible exact Ext.refl _) | (with_reducible assumption) | (with_reducible refine Ext.alloc ?_ _) | (with_reducible refine Ext.set ?_ ?_ _) | (with_reducible refine Ext.drewN ?_ _) | (with_reducible refine Ext.drew ?_) | (with_reducible refine Ext.trans ?_ (by with_reducible assumption)) | go_size))))).mono ?_); intro e w5 hr; obtain ⟨v, rfl, ⟨A5, n5, c5, B5, m5, d5, rfl, h5, h5'⟩, hE5⟩ := hr.out; have HR5 := Lib.hid h5; have HS5 := Lib.hid h5'; clear h5 h5' hr; have hz5 := sz_of hE5; (try simp only [World.size_alloc, World.size_setCell, World.size_drew] at hz5); obtain ⟨hc5, hf5⟩ := bcell hE5; (try have hq5_0 : w.heap.size < w5.heap.size := by omega); (try have hq5_1 : w.heap.size + 1 < w5.heap.size := by omega); (try have hq5_2 : w.heap.size + 1 + 1 < w5.heap.size := by omega); (try have hq5_3 : w.heap.size + 1 + 1 + 1 < w5.heap.size := by omega); (try have hq5_4 : w.heap.size + 1 + 1 + 1 + 1 < w5.heap.size := by omega); (try have hq5_5 : w.heap.size + 1 + 1 + 1 + 1 + 1 < w5.heap.size := by omega); (try have hx5_1 : w1.heap.size < w5.heap.size := by omega); (try have hx5_2 : w2.heap.size < w5.heap.size := by omega); (try have hx5_3 : w3.heap.size < w5.heap.size := by omega); (try have hx5_4 : w4.heap.size < w5.heap.size := by omega)
  go_wp2_with fail
  (with_reducible refine (c_iSameDep (p := p) (q := q) (RdDep.mk (RI.ext HR4.out (by (repeat' (first | (with_reducible exact Ext.refl _) | (with_reducible assumption) | (with_reducible refine Ext.alloc ?_ _) | (with_reducible refine Ext.set ?_ ?_ _) | (with_reducible refine Ext.drewN ?_ _) | (with_reducible refine Ext.drew ?_) | (with_reducible refine Ext.trans ?_ (by with_reducible assumption)) | go_size)))) (RI.ext HS4.out (by (repeat' (first | (with_reducible exact Ext.refl _) | (with_reducible assumption) | (with_reducible refine Ext.alloc ?_ _) | (with_reducible refine Ext.set ?_ ?_ _) | (with_reducible refine Ext.drewN ?_ _) | (with_reducible refine Ext.drew ?_) | (with_reducible refine Ext.trans ?_ (by with_reducible assumption)) | go_size))))) (RdDep.mk (RI.ext HR5.out (by (repeat' (first | (with_reducible exact Ext.refl _) | (with_reducible assumption) | (with_reducible refine Ext.alloc ?_ _) | (with_reducible refine Ext.set ?_ ?_ _) | (with_reducible refine Ext.drewN ?_ _) | (with_reducible refine Ext.drew ?_) | (with_reducible refine Ext.trans ?_ (by with_reducible assumption)) | go_size)))) (RI.ext HS5.out (by (repeat' (first | (with_reducible exact Ext.refl _) | (with_reducible assumption) | (with_reducible refine Ext.alloc ?_ _) | (with_reducible refine Ext.set ?_ ?_ _) | (with_reducible refine Ext.drewN ?_ _) | (with_reducible refine Ext.drew ?_) | (with_reducible refine Ext.trans ?_ (by with_reducible assumption)) | go_size)))))).mono ?_); rintro e w6 ⟨rfl, hE6⟩; have hz6 := sz_of hE6; (try simp only [World.size_alloc, World.size_setCell, World.size_drew] at hz6); obtain ⟨hc6, hf6⟩ := bcell hE6; (try have hq6_0 : w.heap.size < w6.heap.size := by omega); (try have hq6_1 : w.heap.size + 1 < w6.heap.size := by omega); (try have hq6_2 : w.heap.size + 1 + 1 < w6.heap.size := by omega); (try have hq6_3 : w.heap.size + 1 + 1 + 1 < w6.heap.size := by omega); (try have hq6_4 : w.heap.size + 1 + 1 + 1 + 1 < w6.heap.size := by omega); (try have hq6_5 : w.heap.size + 1 + 1 + 1 + 1 + 1 < w6.heap.size := by omega); (try have hx6_1 : w1.heap.size < w6.heap.size := by omega); (try have hx6_2 : w2.heap.size < w6.heap.size := by omega); (try have hx6_3 : w3.heap.size < w6.heap.size := by omega); (try have hx6_4 : w4.heap.size < w6.heap.size := by omega); (try have hx6_5 : w5.heap.size < w6.heap.size := by omega)
  go_wp2_with fail
  refine wp_region_inv (by kernel_rfl) (by kernel_rfl) (fun a0 S a w' => ∃ u35 u36 u37 u38 u39 : Value, a = (((((a0.put (some 35) u35).put (some 36) u36).put (some 37) u37).put (some 38) u38).put (some 39) u39) ∧ Ext w6 w' ∧ (S 0 = true → u35 = .agg #[.slice A4 n4 c4, .slice B4 m4 d4, .int .i64 p.rule, .int .i64 p.at_]) ∧ (S 1 = true → u36 = .agg #[.slice A n c, .slice B m d, .int .i64 p.rule, .int .i64 p.at_]) ∧ (S 2 = true → RdDep w' u37 p) ∧ (S 3 = true → u38 = .bool true) ∧ (S 4 = true → u39 = .bool false)) ?_ ?_ ?_
  · intro S hS
    exact ⟨undef, undef, undef, undef, undef, by simp only [Act.put, List.setIfInBounds_toArray, List.set_cons_zero, List.set_cons_succ], Ext.drew (Ext.refl _), fun h => absurd ((hS 0 (by decide)).symm.trans h) (by decide), fun h => absurd ((hS 1 (by decide)).symm.trans h) (by decide), fun h => absurd ((hS 2 (by decide)).symm.trans h) (by decide), fun h => absurd ((hS 3 (by decide)).symm.trans h) (by decide), fun h => absurd ((hS 4 (by decide)).symm.trans h) (by decide)⟩
  · refine ⟨?_, ?_, ?_, ?_, ?_, trivial⟩
    · refine StepInv.plain rfl fun S a w' K hdep hI hK0 => ?_
      obtain ⟨u35, u36, u37, u38, u39, ha, hE', p0, p1, p2, p3, p4⟩ := hI
      simp only [Act.put, List.setIfInBounds_toArray, List.set_cons_zero, List.set_cons_succ] at ha
      subst ha
      have hK := Lib.hid hK0; clear hK0
      clear hdep
      obtain ⟨hc', hf'⟩ := bcell hE'; have hz' := sz_of hE'; (try have hqq_0 : w.heap.size < w'.heap.size := by omega); (try have hqq_1 : w.heap.size + 1 < w'.heap.size := by omega); (try have hqq_2 : w.heap.size + 1 + 1 < w'.heap.size := by omega); (try have hqq_3 : w.heap.size + 1 + 1 + 1 < w'.heap.size := by omega); (try have hqq_4 : w.heap.size + 1 + 1 + 1 + 1 < w'.heap.size := by omega); (try have hqq_5 : w.heap.size + 1 + 1 + 1 + 1 + 1 < w'.heap.size := by omega); (try have hxq_1 : w1.heap.size < w'.heap.size := by omega); (try have hxq_2 : w2.heap.size < w'.heap.size := by omega); (try have hxq_3 : w3.heap.size < w'.heap.size := by omega); (try have hxq_4 : w4.heap.size < w'.heap.size := by omega); (try have hxq_5 : w5.heap.size < w'.heap.size := by omega); (try have hxq_6 : w6.heap.size < w'.heap.size := by omega); (try have hxq_7 : w7.heap.size < w'.heap.size := by omega)
      go_wp2_with fail
      exact hK.out _ _ ⟨.agg #[.slice A4 n4 c4, .slice B4 m4 d4, .int .i64 p.rule, .int .i64 p.at_], u36, u37, u38, u39, by simp only [Act.put, List.setIfInBounds_toArray, List.set_cons_zero, List.set_cons_succ], by (repeat' (first | (with_reducible exact Ext.refl _) | (with_reducible assumption) | (with_reducible refine Ext.alloc ?_ _) | (with_reducible refine Ext.set ?_ ?_ _) | (with_reducible refine Ext.drewN ?_ _) | (with_reducible refine Ext.drew ?_) | (with_reducible refine Ext.trans ?_ (by with_reducible assumption)) | go_size)), fun _ => rfl, fun h => (p1 (by simpa using h)), fun h => (p2 (by simpa using h)), fun h => (p3 (by simpa using h)), fun h => (p4 (by simpa using h))⟩
    · refine StepInv.plain rfl fun S a w' K hdep hI hK0 => ?_
      obtain ⟨u35, u36, u37, u38, u39, ha, hE', p0, p1, p2, p3, p4⟩ := hI
      simp only [Act.put, List.setIfInBounds_toArray, List.set_cons_zero, List.set_cons_succ] at ha
      subst ha
      have hK := Lib.hid hK0; clear hK0
      clear hdep
      obtain ⟨hc', hf'⟩ := bcell hE'; have hz' := sz_of hE'; (try have hqq_0 : w.heap.size < w'.heap.size := by omega); (try have hqq_1 : w.heap.size + 1 < w'.heap.size := by omega); (try have hqq_2 : w.heap.size + 1 + 1 < w'.heap.size := by omega); (try have hqq_3 : w.heap.size + 1 + 1 + 1 < w'.heap.size := by omega); (try have hqq_4 : w.heap.size + 1 + 1 + 1 + 1 < w'.heap.size := by omega); (try have hqq_5 : w.heap.size + 1 + 1 + 1 + 1 + 1 < w'.heap.size := by omega); (try have hxq_1 : w1.heap.size < w'.heap.size := by omega); (try have hxq_2 : w2.heap.size < w'.heap.size := by omega); (try have hxq_3 : w3.heap.size < w'.heap.size := by omega); (try have hxq_4 : w4.heap.size < w'.heap.size := by omega); (try have hxq_5 : w5.heap.size < w'.heap.size := by omega); (try have hxq_6 : w6.heap.size < w'.heap.size := by omega); (try have hxq_7 : w7.heap.size < w'.heap.size := by omega)
      go_wp2_with fail
      exact hK.out _ _ ⟨u35, .agg #[.slice A n c, .slice B m d, .int .i64 p.rule, .int .i64 p.at_], u37, u38, u39, by simp only [Act.put, List.setIfInBounds_toArray, List.set_cons_zero, List.set_cons_succ], by (repeat' (first | (with_reducible exact Ext.refl _) | (with_reducible assumption) | (with_reducible refine Ext.alloc ?_ _) | (with_reducible refine Ext.set ?_ ?_ _) | (with_reducible refine Ext.drewN ?_ _) | (with_reducible refine Ext.drew ?_) | (with_reducible refine Ext.trans ?_ (by with_reducible assumption)) | go_size)), fun h => (p0 (by simpa using h)), fun _ => rfl, fun h => (p2 (by simpa using h)), fun h => (p3 (by simpa using h)), fun h => (p4 (by simpa using h))⟩
    · refine StepInv.plain rfl fun S a w' K hdep hI hK0 => ?_
      obtain ⟨u35, u36, u37, u38, u39, ha, hE', p0, p1, p2, p3, p4⟩ := hI
      simp only [Act.put, List.setIfInBounds_toArray, List.set_cons_zero, List.set_cons_succ] at ha
      subst ha
      have hK := Lib.hid hK0; clear hK0
      have d1 := p1 (hdep ⟨1, Ground.data⟩ (by simp) rfl)
      obtain rfl := d1
      clear hdep
      obtain ⟨hc', hf'⟩ := bcell hE'; have hz' := sz_of hE'; (try have hqq_0 : w.heap.size < w'.heap.size := by omega); (try have hqq_1 : w.heap.size + 1 < w'.heap.size := by omega); (try have hqq_2 : w.heap.size + 1 + 1 < w'.heap.size := by omega); (try have hqq_3 : w.heap.size + 1 + 1 + 1 < w'.heap.size := by omega); (try have hqq_4 : w.heap.size + 1 + 1 + 1 + 1 < w'.heap.size := by omega); (try have hqq_5 : w.heap.size + 1 + 1 + 1 + 1 + 1 < w'.heap.size := by omega); (try have hxq_1 : w1.heap.size < w'.heap.size := by omega); (try have hxq_2 : w2.heap.size < w'.heap.size := by omega); (try have hxq_3 : w3.heap.size < w'.heap.size := by omega); (try have hxq_4 : w4.heap.size < w'.heap.size := by omega); (try have hxq_5 : w5.heap.size < w'.heap.size := by omega); (try have hxq_6 : w6.heap.size < w'.heap.size := by omega); (try have hxq_7 : w7.heap.size < w'.heap.size := by omega)
      go_wp2_with (go_at_call 17; (with_reducible refine (c_toDepPair (RI.ext HA.out (by (repeat' (first | (with_reducible exact Ext.refl _) | (with_reducible assumption) | (with_reducible refine Ext.alloc ?_ _) | (with_reducible refine Ext.set ?_ ?_ _) | (with_reducible refine Ext.drewN ?_ _) | (with_reducible refine Ext.drew ?_) | (with_reducible refine Ext.trans ?_ (by with_reducible assumption)) | go_size)))) (RI.ext HB.out (by (repeat' (first | (with_reducible exact Ext.refl _) | (with_reducible assumption) | (with_reducible refine Ext.alloc ?_ _) | (with_reducible refine Ext.set ?_ ?_ _) | (with_reducible refine Ext.drewN ?_ _) | (with_reducible refine Ext.drew ?_) | (with_reducible refine Ext.trans ?_ (by with_reducible assumption)) | go_size))))).mono ?_); intro e w'' hr; obtain ⟨v, rfl, hr, hE''⟩ := hr.out)
      exact hK.out _ _ ⟨u35, .agg #[.slice A n c, .slice B m d, .int .i64 p.rule, .int .i64 p.at_], v, u38, u39, by simp only [Act.put, List.setIfInBounds_toArray, List.set_cons_zero, List.set_cons_succ], by (repeat' (first | (with_reducible exact Ext.refl _) | (with_reducible assumption) | (with_reducible refine Ext.alloc ?_ _) | (with_reducible refine Ext.set ?_ ?_ _) | (with_reducible refine Ext.drewN ?_ _) | (with_reducible refine Ext.drew ?_) | (with_reducible refine Ext.trans ?_ (by with_reducible assumption)) | go_size)), fun h => (p0 (by simpa using h)), fun _ => rfl, fun _ => hr, fun h => (p3 (by simpa using h)), fun h => (p4 (by simpa using h))⟩
    · refine StepInv.plain rfl fun S a w' K hdep hI hK0 => ?_
      obtain ⟨u35, u36, u37, u38, u39, ha, hE', p0, p1, p2, p3, p4⟩ := hI
      simp only [Act.put, List.setIfInBounds_toArray, List.set_cons_zero, List.set_cons_succ] at ha
      subst ha
      have hK := Lib.hid hK0; clear hK0
      have d0 := p0 (hdep ⟨0, Ground.data⟩ (by simp) rfl)
      obtain rfl := d0
      have d2 := p2 (hdep ⟨2, Ground.data⟩ (by simp) rfl)
      clear hdep
      obtain ⟨hc', hf'⟩ := bcell hE'; have hz' := sz_of hE'; (try have hqq_0 : w.heap.size < w'.heap.size := by omega); (try have hqq_1 : w.heap.size + 1 < w'.heap.size := by omega); (try have hqq_2 : w.heap.size + 1 + 1 < w'.heap.size := by omega); (try have hqq_3 : w.heap.size + 1 + 1 + 1 < w'.heap.size := by omega); (try have hqq_4 : w.heap.size + 1 + 1 + 1 + 1 < w'.heap.size := by omega); (try have hqq_5 : w.heap.size + 1 + 1 + 1 + 1 + 1 < w'.heap.size := by omega); (try have hxq_1 : w1.heap.size < w'.heap.size := by omega); (try have hxq_2 : w2.heap.size < w'.heap.size := by omega); (try have hxq_3 : w3.heap.size < w'.heap.size := by omega); (try have hxq_4 : w4.heap.size < w'.heap.size := by omega); (try have hxq_5 : w5.heap.size < w'.heap.size := by omega); (try have hxq_6 : w6.heap.size < w'.heap.size := by omega); (try have hxq_7 : w7.heap.size < w'.heap.size := by omega)
      go_wp2_with (go_at_call 19; (with_reducible refine (c_eqDepPair_self (RdDep.mk (RI.ext HR4.out (by (repeat' (first | (with_reducible exact Ext.refl _) | (with_reducible assumption) | (with_reducible refine Ext.alloc ?_ _) | (with_reducible refine Ext.set ?_ ?_ _) | (with_reducible refine Ext.drewN ?_ _) | (with_reducible refine Ext.drew ?_) | (with_reducible refine Ext.trans ?_ (by with_reducible assumption)) | go_size)))) (RI.ext HS4.out (by (repeat' (first | (with_reducible exact Ext.refl _) | (with_reducible assumption) | (with_reducible refine Ext.alloc ?_ _) | (with_reducible refine Ext.set ?_ ?_ _) | (with_reducible refine Ext.drewN ?_ _) | (with_reducible refine Ext.drew ?_) | (with_reducible refine Ext.trans ?_ (by with_reducible assumption)) | go_size))))) d2).mono ?_); rintro e w'' ⟨rfl, hE''⟩)
      exact hK.out _ _ ⟨.agg #[.slice A4 n4 c4, .slice B4 m4 d4, .int .i64 p.rule, .int .i64 p.at_], u36, u37, .bool true, u39, by simp only [Act.put, List.setIfInBounds_toArray, List.set_cons_zero, List.set_cons_succ], by (repeat' (first | (with_reducible exact Ext.refl _) | (with_reducible assumption) | (with_reducible refine Ext.alloc ?_ _) | (with_reducible refine Ext.set ?_ ?_ _) | (with_reducible refine Ext.drewN ?_ _) | (with_reducible refine Ext.drew ?_) | (with_reducible refine Ext.trans ?_ (by with_reducible assumption)) | go_size)), fun _ => rfl, fun h => (p1 (by simpa using h)), fun _ => d2.ext (by (repeat' (first | (with_reducible exact Ext.refl _) | (with_reducible assumption) | (with_reducible refine Ext.alloc ?_ _) | (with_reducible refine Ext.set ?_ ?_ _) | (with_reducible refine Ext.drewN ?_ _) | (with_reducible refine Ext.drew ?_) | (with_reducible refine Ext.trans ?_ (by with_reducible assumption)) | go_size))), fun _ => rfl, fun h => (p4 (by simpa using h))⟩
    · refine StepInv.plain rfl fun S a w' K hdep hI hK0 => ?_
      obtain ⟨u35, u36, u37, u38, u39, ha, hE', p0, p1, p2, p3, p4⟩ := hI
      simp only [Act.put, List.setIfInBounds_toArray, List.set_cons_zero, List.set_cons_succ] at ha
      subst ha
      have hK := Lib.hid hK0; clear hK0
      have d3 := p3 (hdep ⟨3, Ground.data⟩ (by simp) rfl)
      obtain rfl := d3
      clear hdep
      obtain ⟨hc', hf'⟩ := bcell hE'; have hz' := sz_of hE'; (try have hqq_0 : w.heap.size < w'.heap.size := by omega); (try have hqq_1 : w.heap.size + 1 < w'.heap.size := by omega); (try have hqq_2 : w.heap.size + 1 + 1 < w'.heap.size := by omega); (try have hqq_3 : w.heap.size + 1 + 1 + 1 < w'.heap.size := by omega); (try have hqq_4 : w.heap.size + 1 + 1 + 1 + 1 < w'.heap.size := by omega); (try have hqq_5 : w.heap.size + 1 + 1 + 1 + 1 + 1 < w'.heap.size := by omega); (try have hxq_1 : w1.heap.size < w'.heap.size := by omega); (try have hxq_2 : w2.heap.size < w'.heap.size := by omega); (try have hxq_3 : w3.heap.size < w'.heap.size := by omega); (try have hxq_4 : w4.heap.size < w'.heap.size := by omega); (try have hxq_5 : w5.heap.size < w'.heap.size := by omega); (try have hxq_6 : w6.heap.size < w'.heap.size := by omega); (try have hxq_7 : w7.heap.size < w'.heap.size := by omega)
      go_wp2_with fail
      exact hK.out _ _ ⟨u35, u36, u37, .bool true, .bool false, by simp only [Act.put, List.setIfInBounds_toArray, List.set_cons_zero, List.set_cons_succ], by (repeat' (first | (with_reducible exact Ext.refl _) | (with_reducible assumption) | (with_reducible refine Ext.alloc ?_ _) | (with_reducible refine Ext.set ?_ ?_ _) | (with_reducible refine Ext.drewN ?_ _) | (with_reducible refine Ext.drew ?_) | (with_reducible refine Ext.trans ?_ (by with_reducible assumption)) | go_size)), fun h => (p0 (by simpa using h)), fun h => (p1 (by simpa using h)), fun h => (p2 (by simpa using h)), fun _ => rfl, fun _ => rfl⟩
  intro S a w7 hS hI
  obtain ⟨u35, u36, u37, u38, u39, ha, hE7, p0, p1, p2, p3, p4⟩ := hI
  simp only [Act.put, List.setIfInBounds_toArray, List.set_cons_zero, List.set_cons_succ] at ha
  subst ha
  have r7_0 := p0 (hS 0 (by decide)); clear p0
  obtain rfl := r7_0
  have r7_1 := p1 (hS 1 (by decide)); clear p1
  obtain rfl := r7_1
  have r7_2 := p2 (hS 2 (by decide)); clear p2
  have r7_3 := p3 (hS 3 (by decide)); clear p3
  obtain rfl := r7_3
  have r7_4 := p4 (hS 4 (by decide)); clear p4
  obtain rfl := r7_4
  clear hS
  have hz7 := sz_of hE7; (try simp only [World.size_alloc, World.size_setCell, World.size_drew] at hz7); obtain ⟨hc7, hf7⟩ := bcell hE7; (try have hq7_0 : w.heap.size < w7.heap.size := by omega); (try have hq7_1 : w.heap.size + 1 < w7.heap.size := by omega); (try have hq7_2 : w.heap.size + 1 + 1 < w7.heap.size := by omega); (try have hq7_3 : w.heap.size + 1 + 1 + 1 < w7.heap.size := by omega); (try have hq7_4 : w.heap.size + 1 + 1 + 1 + 1 < w7.heap.size := by omega); (try have hq7_5 : w.heap.size + 1 + 1 + 1 + 1 + 1 < w7.heap.size := by omega); (try have hx7_1 : w1.heap.size < w7.heap.size := by omega); (try have hx7_2 : w2.heap.size < w7.heap.size := by omega); (try have hx7_3 : w3.heap.size < w7.heap.size := by omega); (try have hx7_4 : w4.heap.size < w7.heap.size := by omega); (try have hx7_5 : w5.heap.size < w7.heap.size := by omega); (try have hx7_6 : w6.heap.size < w7.heap.size := by omega)
  go_wp2_with fail
  refine wp_region_inv (by kernel_rfl) (by kernel_rfl) (fun a0 S a w' => ∃ u40 u41 u42 u43 u44 : Value, a = (((((a0.put (some 40) u40).put (some 41) u41).put (some 42) u42).put (some 43) u43).put (some 44) u44) ∧ Ext w7 w' ∧ (S 0 = true → u40 = .agg #[.slice A5 n5 c5, .slice B5 m5 d5, .int .i64 q.rule, .int .i64 q.at_]) ∧ (S 1 = true → u41 = .agg #[.slice A' n' c', .slice B' m' d', .int .i64 q.rule, .int .i64 q.at_]) ∧ (S 2 = true → RdDep w' u42 q) ∧ (S 3 = true → u43 = .bool true) ∧ (S 4 = true → u44 = .bool false)) ?_ ?_ ?_
  · intro S hS
    exact ⟨undef, undef, undef, undef, undef, by simp only [Act.put, List.setIfInBounds_toArray, List.set_cons_zero, List.set_cons_succ], Ext.drew (Ext.refl _), fun h => absurd ((hS 0 (by decide)).symm.trans h) (by decide), fun h => absurd ((hS 1 (by decide)).symm.trans h) (by decide), fun h => absurd ((hS 2 (by decide)).symm.trans h) (by decide), fun h => absurd ((hS 3 (by decide)).symm.trans h) (by decide), fun h => absurd ((hS 4 (by decide)).symm.trans h) (by decide)⟩
  · refine ⟨?_, ?_, ?_, ?_, ?_, trivial⟩
    · refine StepInv.plain rfl fun S a w' K hdep hI hK0 => ?_
      obtain ⟨u40, u41, u42, u43, u44, ha, hE', p0, p1, p2, p3, p4⟩ := hI
      simp only [Act.put, List.setIfInBounds_toArray, List.set_cons_zero, List.set_cons_succ] at ha
      subst ha
      have hK := Lib.hid hK0; clear hK0
      clear hdep
      obtain ⟨hc', hf'⟩ := bcell hE'; have hz' := sz_of hE'; (try have hqq_0 : w.heap.size < w'.heap.size := by omega); (try have hqq_1 : w.heap.size + 1 < w'.heap.size := by omega); (try have hqq_2 : w.heap.size + 1 + 1 < w'.heap.size := by omega); (try have hqq_3 : w.heap.size + 1 + 1 + 1 < w'.heap.size := by omega); (try have hqq_4 : w.heap.size + 1 + 1 + 1 + 1 < w'.heap.size := by omega); (try have hqq_5 : w.heap.size + 1 + 1 + 1 + 1 + 1 < w'.heap.size := by omega); (try have hxq_1 : w1.heap.size < w'.heap.size := by omega); (try have hxq_2 : w2.heap.size < w'.heap.size := by omega); (try have hxq_3 : w3.heap.size < w'.heap.size := by omega); (try have hxq_4 : w4.heap.size < w'.heap.size := by omega); (try have hxq_5 : w5.heap.size < w'.heap.size := by omega); (try have hxq_6 : w6.heap.size < w'.heap.size := by omega); (try have hxq_7 : w7.heap.size < w'.heap.size := by omega)
      go_wp2_with fail
      exact hK.out _ _ ⟨.agg #[.slice A5 n5 c5, .slice B5 m5 d5, .int .i64 q.rule, .int .i64 q.at_], u41, u42, u43, u44, by simp only [Act.put, List.setIfInBounds_toArray, List.set_cons_zero, List.set_cons_succ], by (repeat' (first | (with_reducible exact Ext.refl _) | (with_reducible assumption) | (with_reducible refine Ext.alloc ?_ _) | (with_reducible refine Ext.set ?_ ?_ _) | (with_reducible refine Ext.drewN ?_ _) | (with_reducible refine Ext.drew ?_) | (with_reducible refine Ext.trans ?_ (by with_reducible assumption)) | go_size)), fun _ => rfl, fun h => (p1 (by simpa using h)), fun h => (p2 (by simpa using h)), fun h => (p3 (by simpa using h)), fun h => (p4 (by simpa using h))⟩
    · refine StepInv.plain rfl fun S a w' K hdep hI hK0 => ?_
      obtain ⟨u40, u41, u42, u43, u44, ha, hE', p0, p1, p2, p3, p4⟩ := hI
      simp only [Act.put, List.setIfInBounds_toArray, List.set_cons_zero, List.set_cons_succ] at ha
      subst ha
      have hK := Lib.hid hK0; clear hK0
      clear hdep
      obtain ⟨hc', hf'⟩ := bcell hE'; have hz' := sz_of hE'; (try have hqq_0 : w.heap.size < w'.heap.size := by omega); (try have hqq_1 : w.heap.size + 1 < w'.heap.size := by omega); (try have hqq_2 : w.heap.size + 1 + 1 < w'.heap.size := by omega); (try have hqq_3 : w.heap.size + 1 + 1 + 1 < w'.heap.size := by omega); (try have hqq_4 : w.heap.size + 1 + 1 + 1 + 1 < w'.heap.size := by omega); (try have hqq_5 : w.heap.size + 1 + 1 + 1 + 1 + 1 < w'.heap.size := by omega); (try have hxq_1 : w1.heap.size < w'.heap.size := by omega); (try have hxq_2 : w2.heap.size < w'.heap.size := by omega); (try have hxq_3 : w3.heap.size < w'.heap.size := by omega); (try have hxq_4 : w4.heap.size < w'.heap.size := by omega); (try have hxq_5 : w5.heap.size < w'.heap.size := by omega); (try have hxq_6 : w6.heap.size < w'.heap.size := by omega); (try have hxq_7 : w7.heap.size < w'.heap.size := by omega)
      go_wp2_with fail
      exact hK.out _ _ ⟨u40, .agg #[.slice A' n' c', .slice B' m' d', .int .i64 q.rule, .int .i64 q.at_], u42, u43, u44, by simp only [Act.put, List.setIfInBounds_toArray, List.set_cons_zero, List.set_cons_succ], by (repeat' (first | (with_reducible exact Ext.refl _) | (with_reducible assumption) | (with_reducible refine Ext.alloc ?_ _) | (with_reducible refine Ext.set ?_ ?_ _) | (with_reducible refine Ext.drewN ?_ _) | (with_reducible refine Ext.drew ?_) | (with_reducible refine Ext.trans ?_ (by with_reducible assumption)) | go_size)), fun h => (p0 (by simpa using h)), fun _ => rfl, fun h => (p2 (by simpa using h)), fun h => (p3 (by simpa using h)), fun h => (p4 (by simpa using h))⟩
    · refine StepInv.plain rfl fun S a w' K hdep hI hK0 => ?_
      obtain ⟨u40, u41, u42, u43, u44, ha, hE', p0, p1, p2, p3, p4⟩ := hI
      simp only [Act.put, List.setIfInBounds_toArray, List.set_cons_zero, List.set_cons_succ] at ha
      subst ha
      have hK := Lib.hid hK0; clear hK0
      have d1 := p1 (hdep ⟨1, Ground.data⟩ (by simp) rfl)
      obtain rfl := d1
      clear hdep
      obtain ⟨hc', hf'⟩ := bcell hE'; have hz' := sz_of hE'; (try have hqq_0 : w.heap.size < w'.heap.size := by omega); (try have hqq_1 : w.heap.size + 1 < w'.heap.size := by omega); (try have hqq_2 : w.heap.size + 1 + 1 < w'.heap.size := by omega); (try have hqq_3 : w.heap.size + 1 + 1 + 1 < w'.heap.size := by omega); (try have hqq_4 : w.heap.size + 1 + 1 + 1 + 1 < w'.heap.size := by omega); (try have hqq_5 : w.heap.size + 1 + 1 + 1 + 1 + 1 < w'.heap.size := by omega); (try have hxq_1 : w1.heap.size < w'.heap.size := by omega); (try have hxq_2 : w2.heap.size < w'.heap.size := by omega); (try have hxq_3 : w3.heap.size < w'.heap.size := by omega); (try have hxq_4 : w4.heap.size < w'.heap.size := by omega); (try have hxq_5 : w5.heap.size < w'.heap.size := by omega); (try have hxq_6 : w6.heap.size < w'.heap.size := by omega); (try have hxq_7 : w7.heap.size < w'.heap.size := by omega)
      go_wp2_with (go_at_call 17; (with_reducible refine (c_toDepPair (RI.ext HA'.out (by (repeat' (first | (with_reducible exact Ext.refl _) | (with_reducible assumption) | (with_reducible refine Ext.alloc ?_ _) | (with_reducible refine Ext.set ?_ ?_ _) | (with_reducible refine Ext.drewN ?_ _) | (with_reducible refine Ext.drew ?_) | (with_reducible refine Ext.trans ?_ (by with_reducible assumption)) | go_size)))) (RI.ext HB'.out (by (repeat' (first | (with_reducible exact Ext.refl _) | (with_reducible assumption) | (with_reducible refine Ext.alloc ?_ _) | (with_reducible refine Ext.set ?_ ?_ _) | (with_reducible refine Ext.drewN ?_ _) | (with_reducible refine Ext.drew ?_) | (with_reducible refine Ext.trans ?_ (by with_reducible assumption)) | go_size))))).mono ?_); intro e w'' hr; obtain ⟨v, rfl, hr, hE''⟩ := hr.out)
      exact hK.out _ _ ⟨u40, .agg #[.slice A' n' c', .slice B' m' d', .int .i64 q.rule, .int .i64 q.at_], v, u43, u44, by simp only [Act.put, List.setIfInBounds_toArray, List.set_cons_zero, List.set_cons_succ], by (repeat' (first | (with_reducible exact Ext.refl _) | (with_reducible assumption) | (with_reducible refine Ext.alloc ?_ _) | (with_reducible refine Ext.set ?_ ?_ _) | (with_reducible refine Ext.drewN ?_ _) | (with_reducible refine Ext.drew ?_) | (with_reducible refine Ext.trans ?_ (by with_reducible assumption)) | go_size)), fun h => (p0 (by simpa using h)), fun _ => rfl, fun _ => hr, fun h => (p3 (by simpa using h)), fun h => (p4 (by simpa using h))⟩
    · refine StepInv.plain rfl fun S a w' K hdep hI hK0 => ?_
      obtain ⟨u40, u41, u42, u43, u44, ha, hE', p0, p1, p2, p3, p4⟩ := hI
      simp only [Act.put, List.setIfInBounds_toArray, List.set_cons_zero, List.set_cons_succ] at ha
      subst ha
      have hK := Lib.hid hK0; clear hK0
      have d0 := p0 (hdep ⟨0, Ground.data⟩ (by simp) rfl)
      obtain rfl := d0
      have d2 := p2 (hdep ⟨2, Ground.data⟩ (by simp) rfl)
      clear hdep
      obtain ⟨hc', hf'⟩ := bcell hE'; have hz' := sz_of hE'; (try have hqq_0 : w.heap.size < w'.heap.size := by omega); (try have hqq_1 : w.heap.size + 1 < w'.heap.size := by omega); (try have hqq_2 : w.heap.size + 1 + 1 < w'.heap.size := by omega); (try have hqq_3 : w.heap.size + 1 + 1 + 1 < w'.heap.size := by omega); (try have hqq_4 : w.heap.size + 1 + 1 + 1 + 1 < w'.heap.size := by omega); (try have hqq_5 : w.heap.size + 1 + 1 + 1 + 1 + 1 < w'.heap.size := by omega); (try have hxq_1 : w1.heap.size < w'.heap.size := by omega); (try have hxq_2 : w2.heap.size < w'.heap.size := by omega); (try have hxq_3 : w3.heap.size < w'.heap.size := by omega); (try have hxq_4 : w4.heap.size < w'.heap.size := by omega); (try have hxq_5 : w5.heap.size < w'.heap.size := by omega); (try have hxq_6 : w6.heap.size < w'.heap.size := by omega); (try have hxq_7 : w7.heap.size < w'.heap.size := by omega)
      go_wp2_with (go_at_call 19; (with_reducible refine (c_eqDepPair_self (RdDep.mk (RI.ext HR5.out (by (repeat' (first | (with_reducible exact Ext.refl _) | (with_reducible assumption) | (with_reducible refine Ext.alloc ?_ _) | (with_reducible refine Ext.set ?_ ?_ _) | (with_reducible refine Ext.drewN ?_ _) | (with_reducible refine Ext.drew ?_) | (with_reducible refine Ext.trans ?_ (by with_reducible assumption)) | go_size)))) (RI.ext HS5.out (by (repeat' (first | (with_reducible exact Ext.refl _) | (with_reducible assumption) | (with_reducible refine Ext.alloc ?_ _) | (with_reducible refine Ext.set ?_ ?_ _) | (with_reducible refine Ext.drewN ?_ _) | (with_reducible refine Ext.drew ?_) | (with_reducible refine Ext.trans ?_ (by with_reducible assumption)) | go_size))))) d2).mono ?_); rintro e w'' ⟨rfl, hE''⟩)
      exact hK.out _ _ ⟨.agg #[.slice A5 n5 c5, .slice B5 m5 d5, .int .i64 q.rule, .int .i64 q.at_], u41, u42, .bool true, u44, by simp only [Act.put, List.setIfInBounds_toArray, List.set_cons_zero, List.set_cons_succ], by (repeat' (first | (with_reducible exact Ext.refl _) | (with_reducible assumption) | (with_reducible refine Ext.alloc ?_ _) | (with_reducible refine Ext.set ?_ ?_ _) | (with_reducible refine Ext.drewN ?_ _) | (with_reducible refine Ext.drew ?_) | (with_reducible refine Ext.trans ?_ (by with_reducible assumption)) | go_size)), fun _ => rfl, fun h => (p1 (by simpa using h)), fun _ => d2.ext (by (repeat' (first | (with_reducible exact Ext.refl _) | (with_reducible assumption) | (with_reducible refine Ext.alloc ?_ _) | (with_reducible refine Ext.set ?_ ?_ _) | (with_reducible refine Ext.drewN ?_ _) | (with_reducible refine Ext.drew ?_) | (with_reducible refine Ext.trans ?_ (by with_reducible assumption)) | go_size))), fun _ => rfl, fun h => (p4 (by simpa using h))⟩
    · refine StepInv.plain rfl fun S a w' K hdep hI hK0 => ?_
      obtain ⟨u40, u41, u42, u43, u44, ha, hE', p0, p1, p2, p3, p4⟩ := hI
      simp only [Act.put, List.setIfInBounds_toArray, List.set_cons_zero, List.set_cons_succ] at ha
      subst ha
      have hK := Lib.hid hK0; clear hK0
      have d3 := p3 (hdep ⟨3, Ground.data⟩ (by simp) rfl)
      obtain rfl := d3
      clear hdep
      obtain ⟨hc', hf'⟩ := bcell hE'; have hz' := sz_of hE'; (try have hqq_0 : w.heap.size < w'.heap.size := by omega); (try have hqq_1 : w.heap.size + 1 < w'.heap.size := by omega); (try have hqq_2 : w.heap.size + 1 + 1 < w'.heap.size := by omega); (try have hqq_3 : w.heap.size + 1 + 1 + 1 < w'.heap.size := by omega); (try have hqq_4 : w.heap.size + 1 + 1 + 1 + 1 < w'.heap.size := by omega); (try have hqq_5 : w.heap.size + 1 + 1 + 1 + 1 + 1 < w'.heap.size := by omega); (try have hxq_1 : w1.heap.size < w'.heap.size := by omega); (try have hxq_2 : w2.heap.size < w'.heap.size := by omega); (try have hxq_3 : w3.heap.size < w'.heap.size := by omega); (try have hxq_4 : w4.heap.size < w'.heap.size := by omega); (try have hxq_5 : w5.heap.size < w'.heap.size := by omega); (try have hxq_6 : w6.heap.size < w'.heap.size := by omega); (try have hxq_7 : w7.heap.size < w'.heap.size := by omega)
      go_wp2_with fail
      exact hK.out _ _ ⟨u40, u41, u42, .bool true, .bool false, by simp only [Act.put, List.setIfInBounds_toArray, List.set_cons_zero, List.set_cons_succ], by (repeat' (first | (with_reducible exact Ext.refl _) | (with_reducible assumption) | (with_reducible refine Ext.alloc ?_ _) | (with_reducible refine Ext.set ?_ ?_ _) | (with_reducible refine Ext.drewN ?_ _) | (with_reducible refine Ext.drew ?_) | (with_reducible refine Ext.trans ?_ (by with_reducible assumption)) | go_size)), fun h => (p0 (by simpa using h)), fun h => (p1 (by simpa using h)), fun h => (p2 (by simpa using h)), fun _ => rfl, fun _ => rfl⟩
  intro S a w8 hS hI
  obtain ⟨u40, u41, u42, u43, u44, ha, hE8, p0, p1, p2, p3, p4⟩ := hI
  simp only [Act.put, List.setIfInBounds_toArray, List.set_cons_zero, List.set_cons_succ] at ha
  subst ha
  have r8_0 := p0 (hS 0 (by decide)); clear p0
  obtain rfl := r8_0
  have r8_1 := p1 (hS 1 (by decide)); clear p1
  obtain rfl := r8_1
  have r8_2 := p2 (hS 2 (by decide)); clear p2
  have r8_3 := p3 (hS 3 (by decide)); clear p3
  obtain rfl := r8_3
  have r8_4 := p4 (hS 4 (by decide)); clear p4
  obtain rfl := r8_4
  clear hS
  have hz8 := sz_of hE8; (try simp only [World.size_alloc, World.size_setCell, World.size_drew] at hz8); obtain ⟨hc8, hf8⟩ := bcell hE8; (try have hq8_0 : w.heap.size < w8.heap.size := by omega); (try have hq8_1 : w.heap.size + 1 < w8.heap.size := by omega); (try have hq8_2 : w.heap.size + 1 + 1 < w8.heap.size := by omega); (try have hq8_3 : w.heap.size + 1 + 1 + 1 < w8.heap.size := by omega); (try have hq8_4 : w.heap.size + 1 + 1 + 1 + 1 < w8.heap.size := by omega); (try have hq8_5 : w.heap.size + 1 + 1 + 1 + 1 + 1 < w8.heap.size := by omega); (try have hx8_1 : w1.heap.size < w8.heap.size := by omega); (try have hx8_2 : w2.heap.size < w8.heap.size := by omega); (try have hx8_3 : w3.heap.size < w8.heap.size := by omega); (try have hx8_4 : w4.heap.size < w8.heap.size := by omega); (try have hx8_5 : w5.heap.size < w8.heap.size := by omega); (try have hx8_6 : w6.heap.size < w8.heap.size := by omega); (try have hx8_7 : w7.heap.size < w8.heap.size := by omega)
  go_wp2_with fail
  go_ret
  exact ⟨rfl, by (repeat' (first | (with_reducible exact Ext.refl _) | (with_reducible assumption) | (with_reducible refine Ext.alloc ?_ _) | (with_reducible refine Ext.set ?_ ?_ _) | (with_reducible refine Ext.drewN ?_ _) | (with_reducible refine Ext.drew ?_) | (with_reducible refine Ext.trans ?_ (by with_reducible assumption)) | go_size))⟩

set_option maxRecDepth 100000 in
theorem lifted (os : Os) (started : os.Started) (H : Type) (enc : TypeId × Value → H) :
    ReturnsInHanded {} Try.checked os 3 .any (Rows.fnExactSameDepSpec.pre6 enc Try.prog Try.f3 Rows.fnExactSameDepRow.domain false) (Rows.fnExactSameDepSpec.post enc Try.prog Try.f3 false true false false) := by
  refine returnsInHanded_of_change (C := Try.checked) own started (by kernel_rfl) Try.func3
    (ChangeSpec.witness6 (enc := enc) (C := Try.checked) false ⟨#[], #[.agg #[.slice none 0 0, .slice none 0 0, .int .i64 0, .int .i64 0], .agg #[.slice none 0 0, .slice none 0 0, .int .i64 0, .int .i64 0]], []⟩ 8 (by kernel_rfl) (by kernel_rfl) (by kernel_rfl) (by kernel_rfl)) ?_
  intro W base args ds gs before hval0 hW hcnd _
  have hval : ∀ (j : Nat) t v, Try.f3.params[j]? = some t → args[j]? = some v → Value.okWide Try.prog W .any base t v := hval0
  have hW' := hW
  obtain ⟨p, q, hA0, hV, rfl, hfz, hnd⟩ := hW
  have hA : DataW.TrodAll enc Try.prog W 0 (fun _ => true) true Try.f3.params.toList args.toList ds p := hA0
  rw [Try.params3] at hA hval
  obtain ⟨v0, vs0, d0, ds0, p0, q0, hargs, rfl, rfl, h0, r0⟩ := trodAll_cons hA
  obtain ⟨v1, vs1, d1, ds1, p1, q1, rfl, rfl, rfl, h1, r1⟩ := trodAll_cons r0
  obtain ⟨rfl, rfl, rfl⟩ := trodAll_nil r1
  obtain rfl : args = #[v0, v1] := by cases args; simp_all
  obtain ⟨rfl, rfl⟩ := trodVars_none hV
  have k0 := h0
  have lt0 : ∀ x ∈ p0, x.block < W.heap.size := by obtain ⟨m, hm⟩ := k0; exact DataW.trod_lt m _ _ _ hm
  obtain ⟨x0, w0⟩ := raw_Dep (hval 0 24 v0 rfl rfl) h0
  have k1 := h1
  have lt1 : ∀ x ∈ p1, x.block < W.heap.size := by obtain ⟨m, hm⟩ := k1; exact DataW.trod_lt m _ _ _ hm
  obtain ⟨x1, w1⟩ := raw_Dep (hval 1 24 v1 rfl rfl) h1
  clear hA0 hval0
  refine (walk w0 w1).mono fun e W' ⟨he, bel⟩ => ?_
  subst he
  exact ⟨_, rfl, _, _, _, [], _, [], hW', trodAll_mk1 (shut_bool Try.underlying4 _), (trodAll_cons_mk (Below.trod laidOut (by kernel_rfl) (of_decide_eq_true (by kernel_rfl)) k0 bel lt0) (trodAll_cons_mk (Below.trod laidOut (by kernel_rfl) (of_decide_eq_true (by kernel_rfl)) k1 bel lt1) trodAll_mk0)), rfl, bel.frame _, fun h => by cases h⟩

theorem over : Rows.fnExactSameDepRow.holds Try.pinned (OpenSpec.ofChange Rows.fnExactSameDepSpec) :=
  OpenClaim.holds_of_wide 3 Try.f3 rfl rfl rfl rfl rfl rfl rfl ⟨rfl, rfl, rfl, rfl, rfl⟩ rfl rfl rfl rfl rfl (by kernel_rfl) Try.func3 (by kernel_rfl)
    (of_decide_eq_true (by kernel_rfl)) (by unfold Func.isWrapper; first | (rw [if_pos (by decide +kernel)]; kernel_rfl) | (rw [if_neg (by decide +kernel)]; exact ⟨rfl, rfl⟩))
    (fun os started H enc _ => lifted os started H enc)

theorem proved : Rows.FnExactSameDepSaid := over

end Go.Proofs.Ytknjfeoijcelgaa.FnExactSameDep
