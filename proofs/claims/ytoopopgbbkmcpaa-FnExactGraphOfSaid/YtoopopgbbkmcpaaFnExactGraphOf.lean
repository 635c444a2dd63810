/- Proved: for every input the law FnExactGraphOf returns true, does not panic, and each argument reads afterwards as it read before. Conditions: none. -/
import Derived.Test.YtoopopgbbkmcpaaRegion
import Derived.Test.YtoopopgbbkmcpaaOpenT
import Derived.Test.YtoopopgbbkmcpaaGrX
import Derived.Test.YtoopopgbbkmcpaaOpenSy
import Derived.Test.YtoopopgbbkmcpaaMarkSy
-- rd: RdSyK RawSy
namespace Go.Proofs.Ytoopopgbbkmcpaa.FnExactGraphOf
open Go.ChangeShapes Go.WideShapes Go.ChangeAt Go.RowKit
set_option linter.unusedSimpArgs false
set_option linter.unusedVariables false
set_option linter.constructorNameAsVariable false

set_option maxRecDepth 100000 in
set_option maxHeartbeats 4000000 in
theorem walk {v0 : Value} {x0 : Sy} {w : World} (h0 : RawSy w v0 x0) :
    Calls Try.prog 4 #[v0] w fun e w' => e = .returned (.bool true) ∧ Ext w w' := by
  obtain ⟨PA0, pn0, pc0, PB0, pm0, pd0, rfl, ha0, hb0⟩ := h0
  have HJ0 := Lib.hid ha0
  have HJ0b := Lib.hid hb0
  have HL0 := Lib.hid ha0.1
  have HL0b := Lib.hid hb0.1
  clear ha0 hb0
  have b0 : -1 ≤ szSy (1048576) x0 ∧ szSy (1048576) x0 ≤ 1048576 := szSy_bd _ _ ⟨by decide, by decide⟩
  go_enter Try.func4, Try.ntmps4
  go_wp2_with fail
  (with_reducible refine (c_szSystem (by (first | (first | (with_reducible exact RawI.mk (RJ.ext (Hid.out (by with_reducible assumption)) (by exact extX)))) | (with_reducible exact RawSy.mk (RJ.ext (Hid.out (by with_reducible assumption)) (by exact extX)) (RRJ.ext (Hid.out (by with_reducible assumption)) (by exact extX))) | (with_reducible exact RawSig.mk (RJ.ext (Hid.out (by with_reducible assumption)) (by exact extX))))) (by omega) (by omega)).mono ?_); rintro e w1 ⟨rfl, hE1⟩; have hz1 := sz_of hE1; (try simp only [World.size_alloc, World.size_setCell, World.size_drew] at hz1); obtain ⟨hc1, hf1⟩ := bcell hE1; (try have hq1_0 : w.heap.size < w1.heap.size := by omega); (try have hq1_1 : w.heap.size + 1 < w1.heap.size := by omega); (try have hq1_2 : w.heap.size + 1 + 1 < w1.heap.size := by omega); (try have hq1_3 : w.heap.size + 1 + 1 + 1 < w1.heap.size := by omega); (try have hq1_4 : w.heap.size + 1 + 1 + 1 + 1 < w1.heap.size := by omega); (try have hq1_5 : w.heap.size + 1 + 1 + 1 + 1 + 1 < w1.heap.size := by omega)
  go_wp2_with fail
  · go_ret; exact ⟨rfl, by exact extX⟩
  have q0 : 0 ≤ szSy (1048576) x0 := by first | (with_reducible assumption) | omega
  have H0 := Lib.hid (HJ0.out.ri (by have := szSy_ok (by omega) q0; have := HL0.out.1; omega))
  have H0b := Lib.hid (HJ0b.out.rr (by have := (szSy_ok (by omega) q0).2.1; have := HL0b.out.1; omega) (fun r hr => by have := (szSy_ok (by omega) q0).2.2 r hr; omega))
  go_wp2_with fail
  (with_reducible refine (c_toSystem (by (first | (first | (with_reducible exact RdI.mk (RI.ext (Hid.out (by with_reducible assumption)) (by exact extX))) | (with_reducible exact RdI.ext (by with_reducible assumption) (by exact extX))) | (with_reducible exact RdSyK.mk (by (first | (with_reducible exact RI.ext (Hid.out (by with_reducible assumption)) (by exact extX)))) (RR.ext (Hid.out (by with_reducible assumption)) (by exact extX))) | (with_reducible exact RdSyK.ext (by with_reducible assumption) (by exact extX)) | (with_reducible exact RdSig.mk (by (first | (with_reducible exact RI.ext (Hid.out (by with_reducible assumption)) (by exact extX))))) | (with_reducible exact RdSig.ext (by with_reducible assumption) (by exact extX))))).mono ?_); rintro e w2 ⟨A2, n2, c2, B2, m2, rfl, hR2, hS2, hE2⟩; have HR2 := Lib.hid hR2; have HS2 := Lib.hid hS2; clear hR2 hS2; have hz2 := sz_of hE2; (try simp only [World.size_alloc, World.size_setCell, World.size_drew] at hz2); obtain ⟨hc2, hf2⟩ := bcell hE2; (try have hq2_0 : w.heap.size < w2.heap.size := by omega); (try have hq2_1 : w.heap.size + 1 < w2.heap.size := by omega); (try have hq2_2 : w.heap.size + 1 + 1 < w2.heap.size := by omega); (try have hq2_3 : w.heap.size + 1 + 1 + 1 < w2.heap.size := by omega); (try have hq2_4 : w.heap.size + 1 + 1 + 1 + 1 < w2.heap.size := by omega); (try have hq2_5 : w.heap.size + 1 + 1 + 1 + 1 + 1 < w2.heap.size := by omega); (try have hx2_1 : w1.heap.size < w2.heap.size := by omega)
  go_wp2_with fail
  (with_reducible refine (c_sGraphOf (s := x0) (by (first | (first | (with_reducible exact RdI.mk (RI.ext (Hid.out (by with_reducible assumption)) (by exact extX))) | (with_reducible exact RdI.ext (by with_reducible assumption) (by exact extX))) | (with_reducible exact RdSyK.mk (by (first | (with_reducible exact RI.ext (Hid.out (by with_reducible assumption)) (by exact extX)))) (RR.ext (Hid.out (by with_reducible assumption)) (by exact extX))) | (with_reducible exact RdSyK.ext (by with_reducible assumption) (by exact extX)) | (with_reducible exact RdSig.mk (by (first | (with_reducible exact RI.ext (Hid.out (by with_reducible assumption)) (by exact extX))))) | (with_reducible exact RdSig.ext (by with_reducible assumption) (by exact extX))))).mono ?_)
  rintro e w3 ⟨A3, n3, c3, rfl, hR3, hE3⟩
  have HR3 := Lib.hid hR3
  clear hR3
  have hz3 := sz_of hE3; (try simp only [World.size_alloc, World.size_setCell, World.size_drew] at hz3); obtain ⟨hc3, hf3⟩ := bcell hE3; (try have hq3_0 : w.heap.size < w3.heap.size := by omega); (try have hq3_1 : w.heap.size + 1 < w3.heap.size := by omega); (try have hq3_2 : w.heap.size + 1 + 1 < w3.heap.size := by omega); (try have hq3_3 : w.heap.size + 1 + 1 + 1 < w3.heap.size := by omega); (try have hq3_4 : w.heap.size + 1 + 1 + 1 + 1 < w3.heap.size := by omega); (try have hq3_5 : w.heap.size + 1 + 1 + 1 + 1 + 1 < w3.heap.size := by omega); (try have hx3_1 : w1.heap.size < w3.heap.size := by omega); (try have hx3_2 : w2.heap.size < w3.heap.size := by omega)
  go_wp2_with fail
  (with_reducible refine (c_toSystemO (by (first | (first | (with_reducible exact RdI.mk (RI.ext (Hid.out (by with_reducible assumption)) (by exact extX))) | (with_reducible exact RdI.ext (by with_reducible assumption) (by exact extX))) | (with_reducible exact RdSyK.mk (by (first | (with_reducible exact RI.ext (Hid.out (by with_reducible assumption)) (by exact extX)))) (RR.ext (Hid.out (by with_reducible assumption)) (by exact extX))) | (with_reducible exact RdSyK.ext (by with_reducible assumption) (by exact extX)) | (with_reducible exact RdSig.mk (by (first | (with_reducible exact RI.ext (Hid.out (by with_reducible assumption)) (by exact extX))))) | (with_reducible exact RdSig.ext (by with_reducible assumption) (by exact extX))))).mono ?_)
  rintro e w4 ⟨A4, n4, c4, B4, m4, rfl, hR4, hS4, hF4, hG4, hN4, hD4, hE4⟩
  have HR4 := Lib.hid hR4
  have HS4 := Lib.hid hS4
  have HF4 := Lib.hid hF4
  have HG4 := Lib.hid hG4
  have HN4 := Lib.hid hN4
  have HD4 := Lib.hid hD4
  clear hR4 hS4 hF4 hG4 hN4 hD4
  have hz4 := sz_of hE4; (try simp only [World.size_alloc, World.size_setCell, World.size_drew] at hz4); obtain ⟨hc4, hf4⟩ := bcell hE4; (try have hq4_0 : w.heap.size < w4.heap.size := by omega); (try have hq4_1 : w.heap.size + 1 < w4.heap.size := by omega); (try have hq4_2 : w.heap.size + 1 + 1 < w4.heap.size := by omega); (try have hq4_3 : w.heap.size + 1 + 1 + 1 < w4.heap.size := by omega); (try have hq4_4 : w.heap.size + 1 + 1 + 1 + 1 < w4.heap.size := by omega); (try have hq4_5 : w.heap.size + 1 + 1 + 1 + 1 + 1 < w4.heap.size := by omega); (try have hx4_1 : w1.heap.size < w4.heap.size := by omega); (try have hx4_2 : w2.heap.size < w4.heap.size := by omega); (try have hx4_3 : w3.heap.size < w4.heap.size := by omega)
  go_wp2_with fail
  (with_reducible refine (c_iGraphOf (s := x0) (by (first | (first | (with_reducible exact RdI.mk (RI.ext (Hid.out (by with_reducible assumption)) (by exact extX))) | (with_reducible exact RdI.ext (by with_reducible assumption) (by exact extX))) | (with_reducible exact RdSyK.mk (by (first | (with_reducible exact RI.ext (Hid.out (by with_reducible assumption)) (by exact extX)))) (RR.ext (Hid.out (by with_reducible assumption)) (by exact extX))) | (with_reducible exact RdSyK.ext (by with_reducible assumption) (by exact extX)) | (with_reducible exact RdSig.mk (by (first | (with_reducible exact RI.ext (Hid.out (by with_reducible assumption)) (by exact extX))))) | (with_reducible exact RdSig.ext (by with_reducible assumption) (by exact extX))))).mono ?_)
  rintro e w5 ⟨A5, n5, rfl, hO5, hE5⟩
  have HO5 := Lib.hid (hO5.lower (B' := w4.heap.size) (by go_size))
  have HR5 := Lib.hid hO5.rsi
  have hn5 := hO5.2.1
  clear hO5
  have hz5 := sz_of hE5; (try simp only [World.size_alloc, World.size_setCell, World.size_drew] at hz5); obtain ⟨hc5, hf5⟩ := bcell hE5; (try have hq5_0 : w.heap.size < w5.heap.size := by omega); (try have hq5_1 : w.heap.size + 1 < w5.heap.size := by omega); (try have hq5_2 : w.heap.size + 1 + 1 < w5.heap.size := by omega); (try have hq5_3 : w.heap.size + 1 + 1 + 1 < w5.heap.size := by omega); (try have hq5_4 : w.heap.size + 1 + 1 + 1 + 1 < w5.heap.size := by omega); (try have hq5_5 : w.heap.size + 1 + 1 + 1 + 1 + 1 < w5.heap.size := by omega); (try have hx5_1 : w1.heap.size < w5.heap.size := by omega); (try have hx5_2 : w2.heap.size < w5.heap.size := by omega); (try have hx5_3 : w3.heap.size < w5.heap.size := by omega); (try have hx5_4 : w4.heap.size < w5.heap.size := by omega)
  go_wp2_with fail
  (with_reducible refine (c_eqInt64SS_self (xss := grV x0) (RdSS.mk (RSI.ext HR5.out (by exact extX))) (RdSS.mk (RSI.ext HR3.out (by exact extX)))).mono ?_); rintro e w6 ⟨rfl, hE6⟩; have hz6 := sz_of hE6; (try simp only [World.size_alloc, World.size_setCell, World.size_drew] at hz6); obtain ⟨hc6, hf6⟩ := bcell hE6; (try have hq6_0 : w.heap.size < w6.heap.size := by omega); (try have hq6_1 : w.heap.size + 1 < w6.heap.size := by omega); (try have hq6_2 : w.heap.size + 1 + 1 < w6.heap.size := by omega); (try have hq6_3 : w.heap.size + 1 + 1 + 1 < w6.heap.size := by omega); (try have hq6_4 : w.heap.size + 1 + 1 + 1 + 1 < w6.heap.size := by omega); (try have hq6_5 : w.heap.size + 1 + 1 + 1 + 1 + 1 < w6.heap.size := by omega); (try have hx6_1 : w1.heap.size < w6.heap.size := by omega); (try have hx6_2 : w2.heap.size < w6.heap.size := by omega); (try have hx6_3 : w3.heap.size < w6.heap.size := by omega); (try have hx6_4 : w4.heap.size < w6.heap.size := by omega); (try have hx6_5 : w5.heap.size < w6.heap.size := by omega)
  go_wp2_with fail
  refine wp_region_inv (by kernel_rfl) (by kernel_rfl) (fun a0 S a w' => ∃ u27 u28 u29 u30 u31 : Value, a = (((((a0.put (some 27) u27).put (some 28) u28).put (some 29) u29).put (some 30) u30).put (some 31) u31) ∧ Ext w6 w' ∧ (S 0 = true → u27 = .agg #[.slice A4 n4 c4, .slice B4 m4 m4]) ∧ (S 1 = true → u28 = .agg #[.slice PA0 pn0 pc0, .slice PB0 pm0 pd0]) ∧ (S 2 = true → RdSyC w' u29 x0) ∧ (S 3 = true → u30 = .bool true) ∧ (S 4 = true → u31 = .bool false)) ?_ ?_ ?_
  · intro S hS
    exact ⟨undef, undef, undef, undef, undef, by simp only [Act.put, List.setIfInBounds_toArray, List.set_cons_zero, List.set_cons_succ], Ext.drew (Ext.refl _), fun h => absurd ((hS 0 (by decide)).symm.trans h) (by decide), fun h => absurd ((hS 1 (by decide)).symm.trans h) (by decide), fun h => absurd ((hS 2 (by decide)).symm.trans h) (by decide), fun h => absurd ((hS 3 (by decide)).symm.trans h) (by decide), fun h => absurd ((hS 4 (by decide)).symm.trans h) (by decide)⟩
  · refine ⟨?_, ?_, ?_, ?_, ?_, trivial⟩
    · refine StepInv.plain rfl fun S a w' K hdep hI hK0 => ?_
      obtain ⟨u27, u28, u29, u30, u31, ha, hE', p0, p1, p2, p3, p4⟩ := hI
      simp only [Act.put, List.setIfInBounds_toArray, List.set_cons_zero, List.set_cons_succ] at ha
      subst ha
      have hK := Lib.hid hK0; clear hK0
      clear hdep
      obtain ⟨hc', hf'⟩ := bcell hE'; have hz' := sz_of hE'; (try have hqq_0 : w.heap.size < w'.heap.size := by omega); (try have hqq_1 : w.heap.size + 1 < w'.heap.size := by omega); (try have hqq_2 : w.heap.size + 1 + 1 < w'.heap.size := by omega); (try have hqq_3 : w.heap.size + 1 + 1 + 1 < w'.heap.size := by omega); (try have hqq_4 : w.heap.size + 1 + 1 + 1 + 1 < w'.heap.size := by omega); (try have hqq_5 : w.heap.size + 1 + 1 + 1 + 1 + 1 < w'.heap.size := by omega); (try have hxq_1 : w1.heap.size < w'.heap.size := by omega); (try have hxq_2 : w2.heap.size < w'.heap.size := by omega); (try have hxq_3 : w3.heap.size < w'.heap.size := by omega); (try have hxq_4 : w4.heap.size < w'.heap.size := by omega); (try have hxq_5 : w5.heap.size < w'.heap.size := by omega); (try have hxq_6 : w6.heap.size < w'.heap.size := by omega); (try have hxq_7 : w7.heap.size < w'.heap.size := by omega)
      go_wp2_with fail
      exact hK.out _ _ ⟨.agg #[.slice A4 n4 c4, .slice B4 m4 m4], u28, u29, u30, u31, by simp only [Act.put, List.setIfInBounds_toArray, List.set_cons_zero, List.set_cons_succ], by exact extX, fun _ => rfl, fun h => (p1 (by simpa using h)), fun h => (p2 (by simpa using h)), fun h => (p3 (by simpa using h)), fun h => (p4 (by simpa using h))⟩
    · refine StepInv.plain rfl fun S a w' K hdep hI hK0 => ?_
      obtain ⟨u27, u28, u29, u30, u31, ha, hE', p0, p1, p2, p3, p4⟩ := hI
      simp only [Act.put, List.setIfInBounds_toArray, List.set_cons_zero, List.set_cons_succ] at ha
      subst ha
      have hK := Lib.hid hK0; clear hK0
      clear hdep
      obtain ⟨hc', hf'⟩ := bcell hE'; have hz' := sz_of hE'; (try have hqq_0 : w.heap.size < w'.heap.size := by omega); (try have hqq_1 : w.heap.size + 1 < w'.heap.size := by omega); (try have hqq_2 : w.heap.size + 1 + 1 < w'.heap.size := by omega); (try have hqq_3 : w.heap.size + 1 + 1 + 1 < w'.heap.size := by omega); (try have hqq_4 : w.heap.size + 1 + 1 + 1 + 1 < w'.heap.size := by omega); (try have hqq_5 : w.heap.size + 1 + 1 + 1 + 1 + 1 < w'.heap.size := by omega); (try have hxq_1 : w1.heap.size < w'.heap.size := by omega); (try have hxq_2 : w2.heap.size < w'.heap.size := by omega); (try have hxq_3 : w3.heap.size < w'.heap.size := by omega); (try have hxq_4 : w4.heap.size < w'.heap.size := by omega); (try have hxq_5 : w5.heap.size < w'.heap.size := by omega); (try have hxq_6 : w6.heap.size < w'.heap.size := by omega); (try have hxq_7 : w7.heap.size < w'.heap.size := by omega)
      go_wp2_with fail
      exact hK.out _ _ ⟨u27, .agg #[.slice PA0 pn0 pc0, .slice PB0 pm0 pd0], u29, u30, u31, by simp only [Act.put, List.setIfInBounds_toArray, List.set_cons_zero, List.set_cons_succ], by exact extX, fun h => (p0 (by simpa using h)), fun _ => rfl, fun h => (p2 (by simpa using h)), fun h => (p3 (by simpa using h)), fun h => (p4 (by simpa using h))⟩
    · refine StepInv.plain rfl fun S a w' K hdep hI hK0 => ?_
      obtain ⟨u27, u28, u29, u30, u31, ha, hE', p0, p1, p2, p3, p4⟩ := hI
      simp only [Act.put, List.setIfInBounds_toArray, List.set_cons_zero, List.set_cons_succ] at ha
      subst ha
      have hK := Lib.hid hK0; clear hK0
      have d1 := p1 (hdep ⟨1, Ground.data⟩ (by simp) rfl)
      obtain rfl := d1
      clear hdep
      obtain ⟨hc', hf'⟩ := bcell hE'; have hz' := sz_of hE'; (try have hqq_0 : w.heap.size < w'.heap.size := by omega); (try have hqq_1 : w.heap.size + 1 < w'.heap.size := by omega); (try have hqq_2 : w.heap.size + 1 + 1 < w'.heap.size := by omega); (try have hqq_3 : w.heap.size + 1 + 1 + 1 < w'.heap.size := by omega); (try have hqq_4 : w.heap.size + 1 + 1 + 1 + 1 < w'.heap.size := by omega); (try have hqq_5 : w.heap.size + 1 + 1 + 1 + 1 + 1 < w'.heap.size := by omega); (try have hxq_1 : w1.heap.size < w'.heap.size := by omega); (try have hxq_2 : w2.heap.size < w'.heap.size := by omega); (try have hxq_3 : w3.heap.size < w'.heap.size := by omega); (try have hxq_4 : w4.heap.size < w'.heap.size := by omega); (try have hxq_5 : w5.heap.size < w'.heap.size := by omega); (try have hxq_6 : w6.heap.size < w'.heap.size := by omega); (try have hxq_7 : w7.heap.size < w'.heap.size := by omega)
      go_wp2_with (go_at_call 9; (with_reducible refine (c_toSystem (by (first | (first | (with_reducible exact RdI.mk (RI.ext (Hid.out (by with_reducible assumption)) (by exact extX))) | (with_reducible exact RdI.ext (by with_reducible assumption) (by exact extX))) | (with_reducible exact RdSyK.mk (by (first | (with_reducible exact RI.ext (Hid.out (by with_reducible assumption)) (by exact extX)))) (RR.ext (Hid.out (by with_reducible assumption)) (by exact extX))) | (with_reducible exact RdSyK.ext (by with_reducible assumption) (by exact extX)) | (with_reducible exact RdSig.mk (by (first | (with_reducible exact RI.ext (Hid.out (by with_reducible assumption)) (by exact extX))))) | (with_reducible exact RdSig.ext (by with_reducible assumption) (by exact extX))))).mono ?_); intro e w'' hr; obtain ⟨v, rfl, hr, hE''⟩ := hr.out)
      exact hK.out _ _ ⟨u27, .agg #[.slice PA0 pn0 pc0, .slice PB0 pm0 pd0], v, u30, u31, by simp only [Act.put, List.setIfInBounds_toArray, List.set_cons_zero, List.set_cons_succ], by exact extX, fun h => (p0 (by simpa using h)), fun _ => rfl, fun _ => hr, fun h => (p3 (by simpa using h)), fun h => (p4 (by simpa using h))⟩
    · refine StepInv.plain rfl fun S a w' K hdep hI hK0 => ?_
      obtain ⟨u27, u28, u29, u30, u31, ha, hE', p0, p1, p2, p3, p4⟩ := hI
      simp only [Act.put, List.setIfInBounds_toArray, List.set_cons_zero, List.set_cons_succ] at ha
      subst ha
      have hK := Lib.hid hK0; clear hK0
      have d0 := p0 (hdep ⟨0, Ground.data⟩ (by simp) rfl)
      obtain rfl := d0
      have d2 := p2 (hdep ⟨2, Ground.data⟩ (by simp) rfl)
      clear hdep
      obtain ⟨hc', hf'⟩ := bcell hE'; have hz' := sz_of hE'; (try have hqq_0 : w.heap.size < w'.heap.size := by omega); (try have hqq_1 : w.heap.size + 1 < w'.heap.size := by omega); (try have hqq_2 : w.heap.size + 1 + 1 < w'.heap.size := by omega); (try have hqq_3 : w.heap.size + 1 + 1 + 1 < w'.heap.size := by omega); (try have hqq_4 : w.heap.size + 1 + 1 + 1 + 1 < w'.heap.size := by omega); (try have hqq_5 : w.heap.size + 1 + 1 + 1 + 1 + 1 < w'.heap.size := by omega); (try have hxq_1 : w1.heap.size < w'.heap.size := by omega); (try have hxq_2 : w2.heap.size < w'.heap.size := by omega); (try have hxq_3 : w3.heap.size < w'.heap.size := by omega); (try have hxq_4 : w4.heap.size < w'.heap.size := by omega); (try have hxq_5 : w5.heap.size < w'.heap.size := by omega); (try have hxq_6 : w6.heap.size < w'.heap.size := by omega); (try have hxq_7 : w7.heap.size < w'.heap.size := by omega)
      go_wp2_with (go_at_call 12; (with_reducible refine (c_eqSystem_self (by (first | (first | (with_reducible exact RdI.mk (RI.ext (Hid.out (by with_reducible assumption)) (by exact extX))) | (with_reducible exact RdI.ext (by with_reducible assumption) (by exact extX))) | (with_reducible exact RdSyK.mk (by (first | (with_reducible exact RI.ext (Hid.out (by with_reducible assumption)) (by exact extX)))) (RR.ext (Hid.out (by with_reducible assumption)) (by exact extX))) | (with_reducible exact RdSyK.ext (by with_reducible assumption) (by exact extX)) | (with_reducible exact RdSig.mk (by (first | (with_reducible exact RI.ext (Hid.out (by with_reducible assumption)) (by exact extX))))) | (with_reducible exact RdSig.ext (by with_reducible assumption) (by exact extX)))) (by (first | (first | (with_reducible exact RdI.mk (RI.ext (Hid.out (by with_reducible assumption)) (by exact extX))) | (with_reducible exact RdI.ext (by with_reducible assumption) (by exact extX))) | (with_reducible exact RdSyK.mk (by (first | (with_reducible exact RI.ext (Hid.out (by with_reducible assumption)) (by exact extX)))) (RR.ext (Hid.out (by with_reducible assumption)) (by exact extX))) | (with_reducible exact RdSyK.ext (by with_reducible assumption) (by exact extX)) | (with_reducible exact RdSig.mk (by (first | (with_reducible exact RI.ext (Hid.out (by with_reducible assumption)) (by exact extX))))) | (with_reducible exact RdSig.ext (by with_reducible assumption) (by exact extX))))).mono ?_); rintro e w'' ⟨rfl, hE''⟩)
      exact hK.out _ _ ⟨.agg #[.slice A4 n4 c4, .slice B4 m4 m4], u28, u29, .bool true, u31, by simp only [Act.put, List.setIfInBounds_toArray, List.set_cons_zero, List.set_cons_succ], by exact extX, fun _ => rfl, fun h => (p1 (by simpa using h)), fun _ => d2.ext (by exact extX), fun _ => rfl, fun h => (p4 (by simpa using h))⟩
    · refine StepInv.plain rfl fun S a w' K hdep hI hK0 => ?_
      obtain ⟨u27, u28, u29, u30, u31, ha, hE', p0, p1, p2, p3, p4⟩ := hI
      simp only [Act.put, List.setIfInBounds_toArray, List.set_cons_zero, List.set_cons_succ] at ha
      subst ha
      have hK := Lib.hid hK0; clear hK0
      have d3 := p3 (hdep ⟨3, Ground.data⟩ (by simp) rfl)
      obtain rfl := d3
      clear hdep
      obtain ⟨hc', hf'⟩ := bcell hE'; have hz' := sz_of hE'; (try have hqq_0 : w.heap.size < w'.heap.size := by omega); (try have hqq_1 : w.heap.size + 1 < w'.heap.size := by omega); (try have hqq_2 : w.heap.size + 1 + 1 < w'.heap.size := by omega); (try have hqq_3 : w.heap.size + 1 + 1 + 1 < w'.heap.size := by omega); (try have hqq_4 : w.heap.size + 1 + 1 + 1 + 1 < w'.heap.size := by omega); (try have hqq_5 : w.heap.size + 1 + 1 + 1 + 1 + 1 < w'.heap.size := by omega); (try have hxq_1 : w1.heap.size < w'.heap.size := by omega); (try have hxq_2 : w2.heap.size < w'.heap.size := by omega); (try have hxq_3 : w3.heap.size < w'.heap.size := by omega); (try have hxq_4 : w4.heap.size < w'.heap.size := by omega); (try have hxq_5 : w5.heap.size < w'.heap.size := by omega); (try have hxq_6 : w6.heap.size < w'.heap.size := by omega); (try have hxq_7 : w7.heap.size < w'.heap.size := by omega)
      go_wp2_with fail
      exact hK.out _ _ ⟨u27, u28, u29, .bool true, .bool false, by simp only [Act.put, List.setIfInBounds_toArray, List.set_cons_zero, List.set_cons_succ], by exact extX, fun h => (p0 (by simpa using h)), fun h => (p1 (by simpa using h)), fun h => (p2 (by simpa using h)), fun _ => rfl, fun _ => rfl⟩
  intro S a w7 hS hI
  obtain ⟨u27, u28, u29, u30, u31, ha, hE7, p0, p1, p2, p3, p4⟩ := hI
  simp only [Act.put, List.setIfInBounds_toArray, List.set_cons_zero, List.set_cons_succ] at ha
  subst ha
  have r7_0 := p0 (hS 0 (by decide)); clear p0
  obtain rfl := r7_0
  have r7_1 := p1 (hS 1 (by decide)); clear p1
  obtain rfl := r7_1
  have r7_2 := p2 (hS 2 (by decide)); clear p2
  have r7_3 := p3 (hS 3 (by decide)); clear p3
  obtain rfl := r7_3
  have r7_4 := p4 (hS 4 (by decide)); clear p4
  obtain rfl := r7_4
  clear hS
  have hz7 := sz_of hE7; (try simp only [World.size_alloc, World.size_setCell, World.size_drew] at hz7); obtain ⟨hc7, hf7⟩ := bcell hE7; (try have hq7_0 : w.heap.size < w7.heap.size := by omega); (try have hq7_1 : w.heap.size + 1 < w7.heap.size := by omega); (try have hq7_2 : w.heap.size + 1 + 1 < w7.heap.size := by omega); (try have hq7_3 : w.heap.size + 1 + 1 + 1 < w7.heap.size := by omega); (try have hq7_4 : w.heap.size + 1 + 1 + 1 + 1 < w7.heap.size := by omega); (try have hq7_5 : w.heap.size + 1 + 1 + 1 + 1 + 1 < w7.heap.size := by omega); (try have hx7_1 : w1.heap.size < w7.heap.size := by omega); (try have hx7_2 : w2.heap.size < w7.heap.size := by omega); (try have hx7_3 : w3.heap.size < w7.heap.size := by omega); (try have hx7_4 : w4.heap.size < w7.heap.size := by omega); (try have hx7_5 : w5.heap.size < w7.heap.size := by omega); (try have hx7_6 : w6.heap.size < w7.heap.size := by omega)
  go_wp2_with fail
  have HF4b := Lib.hid (HF4.out.same (Same.ext (by exact extX : Ext w4 w7)))
  have HG4b := Lib.hid (HG4.out.ext (by exact extX : Ext w4 w7))
  (with_reducible refine (c_markSystem (lo := w3.heap.size) (hi := w4.heap.size) HF4b.out HG4b.out HN4.out (fun b o s e => by have := HD4.out b o s e; omega) (by omega) (by omega)).mono ?_)
  rintro e w8 ⟨k8, rfl, ⟨hk8, hk8'⟩, hT8⟩
  have hm4 := HG4.out.1
  have T8p := Lib.hid hT8
  have hz8 := hT8.size
  clear hT8
  (try have hq8_0 : w.heap.size < w8.heap.size := by omega); (try have hq8_1 : w.heap.size + 1 < w8.heap.size := by omega); (try have hq8_2 : w.heap.size + 1 + 1 < w8.heap.size := by omega); (try have hq8_3 : w.heap.size + 1 + 1 + 1 < w8.heap.size := by omega); (try have hq8_4 : w.heap.size + 1 + 1 + 1 + 1 < w8.heap.size := by omega); (try have hq8_5 : w.heap.size + 1 + 1 + 1 + 1 + 1 < w8.heap.size := by omega); (try have hx8_1 : w1.heap.size < w8.heap.size := by omega); (try have hx8_2 : w2.heap.size < w8.heap.size := by omega); (try have hx8_3 : w3.heap.size < w8.heap.size := by omega); (try have hx8_4 : w4.heap.size < w8.heap.size := by omega); (try have hx8_5 : w5.heap.size < w8.heap.size := by omega); (try have hx8_6 : w6.heap.size < w8.heap.size := by omega); (try have hx8_7 : w7.heap.size < w8.heap.size := by omega)
  have y0 : w8.cell? ⟨w.heap.size, 0, none⟩ = some (.slice PA0 pn0 pc0) := T8p.out.keep (Ext.keep (by exact extX : Ext (w.alloc (.cells #[.slice PA0 pn0 pc0, .slice PB0 pm0 pd0] 27)) w7) (by simp [go_sem])) (.inl (by omega))
  have y1 : w8.cell? ⟨w.heap.size, 1, none⟩ = some (.slice PB0 pm0 pd0) := T8p.out.keep (Ext.keep (by exact extX : Ext (w.alloc (.cells #[.slice PA0 pn0 pc0, .slice PB0 pm0 pd0] 27)) w7) (by simp [go_sem])) (.inl (by omega))
  have HO5b := Lib.hid (GrV.turn (GrV.ext HO5.out (by exact extX : Ext w5 w7)) T8p.out (Nat.le_refl _))
  have hE8w : Ext w w8 := T8p.out.toExt (by exact extX) (by omega)
  have hE8s : Ext w3 w8 := T8p.out.toExt (by exact extX) (by omega)
  go_wp2_with fail
  (with_reducible refine (c_eqInt64SS_self (xss := grV x0) (RdSS.mk HO5b.out.rsi) (RdSS.mk (RSI.ext HR3.out hE8s))).mono ?_); rintro e w9 ⟨rfl, hE9⟩; have hz9 := sz_of hE9; (try simp only [World.size_alloc, World.size_setCell, World.size_drew] at hz9); obtain ⟨hc9, hf9⟩ := bcell hE9; (try have hq9_0 : w.heap.size < w9.heap.size := by omega); (try have hq9_1 : w.heap.size + 1 < w9.heap.size := by omega); (try have hq9_2 : w.heap.size + 1 + 1 < w9.heap.size := by omega); (try have hq9_3 : w.heap.size + 1 + 1 + 1 < w9.heap.size := by omega); (try have hq9_4 : w.heap.size + 1 + 1 + 1 + 1 < w9.heap.size := by omega); (try have hq9_5 : w.heap.size + 1 + 1 + 1 + 1 + 1 < w9.heap.size := by omega); (try have hx9_1 : w1.heap.size < w9.heap.size := by omega); (try have hx9_2 : w2.heap.size < w9.heap.size := by omega); (try have hx9_3 : w3.heap.size < w9.heap.size := by omega); (try have hx9_4 : w4.heap.size < w9.heap.size := by omega); (try have hx9_5 : w5.heap.size < w9.heap.size := by omega); (try have hx9_6 : w6.heap.size < w9.heap.size := by omega); (try have hx9_7 : w7.heap.size < w9.heap.size := by omega); (try have hx9_8 : w8.heap.size < w9.heap.size := by omega)
  go_wp2_with fail
  (with_reducible refine (c_markInt64SS (lo := w4.heap.size) (hi := w9.heap.size) (GrV.ext HO5b.out (by exact extX : Ext w8 w9)) (Nat.le_refl _) (by omega) (by omega)).mono ?_)
  rintro e w10 ⟨k10, rfl, hM10, hT10⟩
  have hk10 := hM10.bd (by omega)
  have HM10 := Lib.hid hM10
  have T10p := Lib.hid hT10
  have hz10 := hT10.size
  clear hM10 hT10
  (try have hq10_0 : w.heap.size < w10.heap.size := by omega); (try have hq10_1 : w.heap.size + 1 < w10.heap.size := by omega); (try have hq10_2 : w.heap.size + 1 + 1 < w10.heap.size := by omega); (try have hq10_3 : w.heap.size + 1 + 1 + 1 < w10.heap.size := by omega); (try have hq10_4 : w.heap.size + 1 + 1 + 1 + 1 < w10.heap.size := by omega); (try have hq10_5 : w.heap.size + 1 + 1 + 1 + 1 + 1 < w10.heap.size := by omega); (try have hx10_1 : w1.heap.size < w10.heap.size := by omega); (try have hx10_2 : w2.heap.size < w10.heap.size := by omega); (try have hx10_3 : w3.heap.size < w10.heap.size := by omega); (try have hx10_4 : w4.heap.size < w10.heap.size := by omega); (try have hx10_5 : w5.heap.size < w10.heap.size := by omega); (try have hx10_6 : w6.heap.size < w10.heap.size := by omega); (try have hx10_7 : w7.heap.size < w10.heap.size := by omega); (try have hx10_8 : w8.heap.size < w10.heap.size := by omega); (try have hx10_9 : w9.heap.size < w10.heap.size := by omega)
  have z0 : w10.cell? ⟨w.heap.size, 0, none⟩ = some (.slice PA0 pn0 pc0) := T10p.out.keep (Ext.keep hE9 y0) (.inl (by omega))
  have z1 : w10.cell? ⟨w.heap.size, 1, none⟩ = some (.slice PB0 pm0 pd0) := T10p.out.keep (Ext.keep hE9 y1) (.inl (by omega))
  have hE10w : Ext w w10 := T10p.out.toExt (Ext.trans hE8w hE9) (by omega)
  have hE10s : Ext w3 w10 := T10p.out.toExt (Ext.trans hE8s hE9) (by omega)
  clear hE8w hE8s HO5b
  go_wp2_with fail
  (with_reducible refine (c_heldInt64SS HM10.out (by omega) (by omega)).mono ?_); rintro e w11 ⟨rfl, hE11⟩; have hz11 := sz_of hE11; (try simp only [World.size_alloc, World.size_setCell, World.size_drew] at hz11); obtain ⟨hc11, hf11⟩ := bcell hE11; (try have hq11_0 : w.heap.size < w11.heap.size := by omega); (try have hq11_1 : w.heap.size + 1 < w11.heap.size := by omega); (try have hq11_2 : w.heap.size + 1 + 1 < w11.heap.size := by omega); (try have hq11_3 : w.heap.size + 1 + 1 + 1 < w11.heap.size := by omega); (try have hq11_4 : w.heap.size + 1 + 1 + 1 + 1 < w11.heap.size := by omega); (try have hq11_5 : w.heap.size + 1 + 1 + 1 + 1 + 1 < w11.heap.size := by omega); (try have hx11_1 : w1.heap.size < w11.heap.size := by omega); (try have hx11_2 : w2.heap.size < w11.heap.size := by omega); (try have hx11_3 : w3.heap.size < w11.heap.size := by omega); (try have hx11_4 : w4.heap.size < w11.heap.size := by omega); (try have hx11_5 : w5.heap.size < w11.heap.size := by omega); (try have hx11_6 : w6.heap.size < w11.heap.size := by omega); (try have hx11_7 : w7.heap.size < w11.heap.size := by omega); (try have hx11_8 : w8.heap.size < w11.heap.size := by omega); (try have hx11_9 : w9.heap.size < w11.heap.size := by omega); (try have hx11_10 : w10.heap.size < w11.heap.size := by omega)
  have e11 : (k10 != k10) = false := by simp
  have hn10 : ¬ k10 < 0 := by omega
  go_wp2_with fail
  (with_reducible refine (c_toSystem (by (first | (first | (with_reducible exact RdI.mk (RI.ext (Hid.out (by with_reducible assumption)) (by exact extX))) | (with_reducible exact RdI.ext (by with_reducible assumption) (by exact extX))) | (with_reducible exact RdSyK.mk (by (first | (with_reducible exact RI.ext (Hid.out (by with_reducible assumption)) (by exact extX)))) (RR.ext (Hid.out (by with_reducible assumption)) (by exact extX))) | (with_reducible exact RdSyK.ext (by with_reducible assumption) (by exact extX)) | (with_reducible exact RdSig.mk (by (first | (with_reducible exact RI.ext (Hid.out (by with_reducible assumption)) (by exact extX))))) | (with_reducible exact RdSig.ext (by with_reducible assumption) (by exact extX))))).mono ?_); rintro e w12 ⟨A12, n12, c12, B12, m12, rfl, hR12, hS12, hE12⟩; have HR12 := Lib.hid hR12; have HS12 := Lib.hid hS12; clear hR12 hS12; have hz12 := sz_of hE12; (try simp only [World.size_alloc, World.size_setCell, World.size_drew] at hz12); obtain ⟨hc12, hf12⟩ := bcell hE12; (try have hq12_0 : w.heap.size < w12.heap.size := by omega); (try have hq12_1 : w.heap.size + 1 < w12.heap.size := by omega); (try have hq12_2 : w.heap.size + 1 + 1 < w12.heap.size := by omega); (try have hq12_3 : w.heap.size + 1 + 1 + 1 < w12.heap.size := by omega); (try have hq12_4 : w.heap.size + 1 + 1 + 1 + 1 < w12.heap.size := by omega); (try have hq12_5 : w.heap.size + 1 + 1 + 1 + 1 + 1 < w12.heap.size := by omega); (try have hx12_1 : w1.heap.size < w12.heap.size := by omega); (try have hx12_2 : w2.heap.size < w12.heap.size := by omega); (try have hx12_3 : w3.heap.size < w12.heap.size := by omega); (try have hx12_4 : w4.heap.size < w12.heap.size := by omega); (try have hx12_5 : w5.heap.size < w12.heap.size := by omega); (try have hx12_6 : w6.heap.size < w12.heap.size := by omega); (try have hx12_7 : w7.heap.size < w12.heap.size := by omega); (try have hx12_8 : w8.heap.size < w12.heap.size := by omega); (try have hx12_9 : w9.heap.size < w12.heap.size := by omega); (try have hx12_10 : w10.heap.size < w12.heap.size := by omega); (try have hx12_11 : w11.heap.size < w12.heap.size := by omega)
  go_wp2_with fail
  (with_reducible refine (c_iGraphOf (s := x0) (by (first | (first | (with_reducible exact RdI.mk (RI.ext (Hid.out (by with_reducible assumption)) (by exact extX))) | (with_reducible exact RdI.ext (by with_reducible assumption) (by exact extX))) | (with_reducible exact RdSyK.mk (by (first | (with_reducible exact RI.ext (Hid.out (by with_reducible assumption)) (by exact extX)))) (RR.ext (Hid.out (by with_reducible assumption)) (by exact extX))) | (with_reducible exact RdSyK.ext (by with_reducible assumption) (by exact extX)) | (with_reducible exact RdSig.mk (by (first | (with_reducible exact RI.ext (Hid.out (by with_reducible assumption)) (by exact extX))))) | (with_reducible exact RdSig.ext (by with_reducible assumption) (by exact extX))))).mono ?_)
  rintro e w13 ⟨A13, n13, rfl, hO13, hE13⟩
  have HR13 := Lib.hid hO13.rsi
  clear hO13
  have hz13 := sz_of hE13; (try simp only [World.size_alloc, World.size_setCell, World.size_drew] at hz13); obtain ⟨hc13, hf13⟩ := bcell hE13; (try have hq13_0 : w.heap.size < w13.heap.size := by omega); (try have hq13_1 : w.heap.size + 1 < w13.heap.size := by omega); (try have hq13_2 : w.heap.size + 1 + 1 < w13.heap.size := by omega); (try have hq13_3 : w.heap.size + 1 + 1 + 1 < w13.heap.size := by omega); (try have hq13_4 : w.heap.size + 1 + 1 + 1 + 1 < w13.heap.size := by omega); (try have hq13_5 : w.heap.size + 1 + 1 + 1 + 1 + 1 < w13.heap.size := by omega); (try have hx13_1 : w1.heap.size < w13.heap.size := by omega); (try have hx13_2 : w2.heap.size < w13.heap.size := by omega); (try have hx13_3 : w3.heap.size < w13.heap.size := by omega); (try have hx13_4 : w4.heap.size < w13.heap.size := by omega); (try have hx13_5 : w5.heap.size < w13.heap.size := by omega); (try have hx13_6 : w6.heap.size < w13.heap.size := by omega); (try have hx13_7 : w7.heap.size < w13.heap.size := by omega); (try have hx13_8 : w8.heap.size < w13.heap.size := by omega); (try have hx13_9 : w9.heap.size < w13.heap.size := by omega); (try have hx13_10 : w10.heap.size < w13.heap.size := by omega); (try have hx13_11 : w11.heap.size < w13.heap.size := by omega); (try have hx13_12 : w12.heap.size < w13.heap.size := by omega)
  go_wp2_with fail
  (with_reducible refine (c_eqInt64SS_self (xss := grV x0) (RdSS.mk (RSI.ext HR13.out (by exact extX))) (RdSS.mk (RSI.ext HR3.out (by exact extX)))).mono ?_); rintro e w14 ⟨rfl, hE14⟩; have hz14 := sz_of hE14; (try simp only [World.size_alloc, World.size_setCell, World.size_drew] at hz14); obtain ⟨hc14, hf14⟩ := bcell hE14; (try have hq14_0 : w.heap.size < w14.heap.size := by omega); (try have hq14_1 : w.heap.size + 1 < w14.heap.size := by omega); (try have hq14_2 : w.heap.size + 1 + 1 < w14.heap.size := by omega); (try have hq14_3 : w.heap.size + 1 + 1 + 1 < w14.heap.size := by omega); (try have hq14_4 : w.heap.size + 1 + 1 + 1 + 1 < w14.heap.size := by omega); (try have hq14_5 : w.heap.size + 1 + 1 + 1 + 1 + 1 < w14.heap.size := by omega); (try have hx14_1 : w1.heap.size < w14.heap.size := by omega); (try have hx14_2 : w2.heap.size < w14.heap.size := by omega); (try have hx14_3 : w3.heap.size < w14.heap.size := by omega); (try have hx14_4 : w4.heap.size < w14.heap.size := by omega); (try have hx14_5 : w5.heap.size < w14.heap.size := by omega); (try have hx14_6 : w6.heap.size < w14.heap.size := by omega); (try have hx14_7 : w7.heap.size < w14.heap.size := by omega); (try have hx14_8 : w8.heap.size < w14.heap.size := by omega); (try have hx14_9 : w9.heap.size < w14.heap.size := by omega); (try have hx14_10 : w10.heap.size < w14.heap.size := by omega); (try have hx14_11 : w11.heap.size < w14.heap.size := by omega); (try have hx14_12 : w12.heap.size < w14.heap.size := by omega); (try have hx14_13 : w13.heap.size < w14.heap.size := by omega)
  go_wp2_with fail
  (with_reducible refine (c_heldInt64SS (MarkedG.ext HM10.out (by exact extX)) (by omega) (by omega)).mono ?_); rintro e w15 ⟨rfl, hE15⟩; have hz15 := sz_of hE15; (try simp only [World.size_alloc, World.size_setCell, World.size_drew] at hz15); obtain ⟨hc15, hf15⟩ := bcell hE15; (try have hq15_0 : w.heap.size < w15.heap.size := by omega); (try have hq15_1 : w.heap.size + 1 < w15.heap.size := by omega); (try have hq15_2 : w.heap.size + 1 + 1 < w15.heap.size := by omega); (try have hq15_3 : w.heap.size + 1 + 1 + 1 < w15.heap.size := by omega); (try have hq15_4 : w.heap.size + 1 + 1 + 1 + 1 < w15.heap.size := by omega); (try have hq15_5 : w.heap.size + 1 + 1 + 1 + 1 + 1 < w15.heap.size := by omega); (try have hx15_1 : w1.heap.size < w15.heap.size := by omega); (try have hx15_2 : w2.heap.size < w15.heap.size := by omega); (try have hx15_3 : w3.heap.size < w15.heap.size := by omega); (try have hx15_4 : w4.heap.size < w15.heap.size := by omega); (try have hx15_5 : w5.heap.size < w15.heap.size := by omega); (try have hx15_6 : w6.heap.size < w15.heap.size := by omega); (try have hx15_7 : w7.heap.size < w15.heap.size := by omega); (try have hx15_8 : w8.heap.size < w15.heap.size := by omega); (try have hx15_9 : w9.heap.size < w15.heap.size := by omega); (try have hx15_10 : w10.heap.size < w15.heap.size := by omega); (try have hx15_11 : w11.heap.size < w15.heap.size := by omega); (try have hx15_12 : w12.heap.size < w15.heap.size := by omega); (try have hx15_13 : w13.heap.size < w15.heap.size := by omega); (try have hx15_14 : w14.heap.size < w15.heap.size := by omega)
  go_wp2_with fail
  go_ret
  exact ⟨rfl, by exact extX⟩

set_option maxRecDepth 100000 in
theorem lifted (os : Os) (started : os.Started) (H : Type) (enc : TypeId × Value → H) :
    ReturnsInHanded {} Try.checked os 4 .any (Rows.fnExactGraphOfSpec.pre6 enc Try.prog Try.f4 Rows.fnExactGraphOfRow.domain false) (Rows.fnExactGraphOfSpec.post enc Try.prog Try.f4 false true false false) := by
  refine returnsInHanded_of_change (C := Try.checked) own started (by kernel_rfl) Try.func4
    (ChangeSpec.witness6 (enc := enc) (C := Try.checked) false ⟨#[], #[.agg #[.slice none 0 0, .slice none 0 0]], []⟩ 8 (by kernel_rfl) (by kernel_rfl) (by kernel_rfl) (by kernel_rfl)) ?_
  intro W base args ds gs before hval0 hW hcnd _
  have hval : ∀ (j : Nat) t v, Try.f4.params[j]? = some t → args[j]? = some v → Value.okWide Try.prog W .any base t v := hval0
  have hW' := hW
  obtain ⟨p, q, hA0, hV, rfl, hfz, hnd⟩ := hW
  have hA : DataW.TrodAll enc Try.prog W 0 (fun _ => true) true Try.f4.params.toList args.toList ds p := hA0
  rw [Try.params4] at hA hval
  obtain ⟨v0, vs0, d0, ds0, p0, q0, hargs, rfl, rfl, h0, r0⟩ := trodAll_cons hA
  obtain ⟨rfl, rfl, rfl⟩ := trodAll_nil r0
  obtain rfl : args = #[v0] := by cases args; simp_all
  obtain ⟨rfl, rfl⟩ := trodVars_none hV
  have k0 := h0
  have lt0 : ∀ x ∈ p0, x.block < W.heap.size := by obtain ⟨m, hm⟩ := k0; exact DataW.trod_lt m _ _ _ hm
  obtain ⟨x0, w0⟩ := raw_Sy (hval 0 27 v0 rfl rfl) h0
  clear hA0 hval0
  refine (walk w0).mono fun e W' ⟨he, bel⟩ => ?_
  subst he
  exact ⟨_, rfl, _, _, _, [], _, [], hW', trodAll_mk1 (shut_bool Try.underlying4 _), (trodAll_cons_mk (Below.trod laidOut (by kernel_rfl) (of_decide_eq_true (by kernel_rfl)) k0 bel lt0) trodAll_mk0), rfl, bel.frame _, fun h => by cases h⟩

theorem over : Rows.fnExactGraphOfRow.holds Try.pinned (OpenSpec.ofChange Rows.fnExactGraphOfSpec) :=
  OpenClaim.holds_of_wide 4 Try.f4 rfl rfl rfl rfl rfl rfl rfl ⟨rfl, rfl, rfl, rfl, rfl⟩ rfl rfl rfl rfl rfl (by kernel_rfl) Try.func4 (by kernel_rfl)
    (of_decide_eq_true (by kernel_rfl)) (by unfold Func.isWrapper; first | (rw [if_pos (by decide +kernel)]; kernel_rfl) | (rw [if_neg (by decide +kernel)]; exact ⟨rfl, rfl⟩))
    (fun os started H enc _ => lifted os started H enc)

theorem proved : Rows.FnExactGraphOfSaid := over

end Go.Proofs.Ytoopopgbbkmcpaa.FnExactGraphOf
