/- Several texts in one: CoP, CoR, CoT, CoS, CoU, CoQ. -/
import Derived.Test.YtdlgjhngndpgoaaQ31
import Derived.Test.YtdlgjhngndpgoaaQ17
import Derived.Test.YtdlgjhngndpgoaaQ09
namespace Go.Proofs.Ytdlgjhngndpgoaa
open Go.Conc Go.ChangeShapes Go.WideShapes Go.ChangeAt Go.RowKit
set_option linter.unusedVariables false
set_option linter.unusedSimpArgs false
set_option maxRecDepth 100000
def Lc (v0 : World) (x0 : Sy) (PA0 : Option Addr) (pn0 pc0 : Nat) (PB0 : Option Addr) (pm0 pd0 : Nat) (a : Act) (v : World) : Prop :=
  a.tmps.size = 96 ∧ Hx v0 v ∧ ∃ q1 A4 n4 c4 A7 n7 c7, a.tmps[1]? = some (.pointer (some ⟨q1, 0, none⟩)) ∧ v.cell? ⟨q1, 0, none⟩ = some (.slice PA0 pn0 pc0) ∧ v.cell? ⟨q1, 1, none⟩ = some (.slice PB0 pm0 pd0) ∧
    a.tmps[4]? = some (.slice A4 n4 c4) ∧ a.tmps[5]? = some (.bool (ansF true x0).isSome) ∧ RI v A4 n4 ((ansF true x0).getD []) ∧ a.tmps[7]? = some (.slice A7 n7 c7) ∧ RI v A7 n7 (marks 1 n7) ∧ n7 ≤ 4194304 ∧ a.tmps[10]? = some (.int .i64 (1 + n7)) ∧
    RI v0 PA0 pn0 x0.ar ∧ RR false v0 PB0 pm0 x0.rs
set_option maxHeartbeats 4000000 in
theorem chunkB {v0 w : World} {x0 : Sy} {PA0 PB0 : Option Addr} {pn0 pc0 pm0 pd0 : Nat} {a : Act} (h : Lb v0 x0 PA0 pn0 pc0 PB0 pm0 pd0 a w) (hd : a.defers = []) :
    wpS Try.prog [lw7, lw8, lw9, lw10, lw11, lw12, lw13, lw14, lw15, lw16, lw17] (fun e a' v' => (e = .normal ∧ Lc v0 x0 PA0 pn0 pc0 PB0 pm0 pd0 a' v') ∨ (e = .ret ∧ a'.tmps.size = 96 ∧ a'.tmps[2]? = some (.bool true) ∧ Hx v0 v')) a w := by
  obtain ⟨⟨hsz, hH, q1, A4, n4, c4, q6, A5, n5, c5, B5, m5, lo, hi, e1, bx0, bx1, e4, e5, hA4, e6, by0, by1, hA5, hB5, hF5, hG5, hN5, hD5, hq1v, ⟨hq1, hlh⟩, hq6, hq6w, hA4lo, hP1, hP2⟩, q6', BB, y, z, e6', hqB, hBw, e7, e8, A7, n7, c7, rfl, rfl, hO7⟩ := h
  obtain rfl : q6' = q6 := by rw [e6] at e6'; cases e6'; rfl
  clear e6'
  obtain ⟨oo, hoo⟩ : ∃ oo, oo = ansF true x0 := ⟨_, rfl⟩
  rw [← hoo] at e5 hA4 e8 hO7
  have HOO := Lib.hid hoo.symm
  clear hoo
  obtain ⟨bb, hbb⟩ : ∃ bb, bb = oo.isSome := ⟨_, rfl⟩
  rw [← hbb] at e5 e8
  have HBB := Lib.hid hbb
  clear hbb
  obtain ⟨tm, df⟩ := a
  simp only at hd hsz e1 e4 e5 e6 e7 e8
  subst hd
  obtain ⟨tv0, tv1, tv2, tv3, tv4, tv5, tv6, tv7, tv8, tv9, tv10, tv11, tv12, tv13, tv14, tv15, tv16, tv17, tv18, tv19, tv20, tv21, tv22, tv23, tv24, tv25, tv26, tv27, tv28, tv29, tv30, tv31, tv32, tv33, tv34, tv35, tv36, tv37, tv38, tv39, tv40, tv41, tv42, tv43, tv44, tv45, tv46, tv47, tv48, tv49, tv50, tv51, tv52, tv53, tv54, tv55, tv56, tv57, tv58, tv59, tv60, tv61, tv62, tv63, tv64, tv65, tv66, tv67, tv68, tv69, tv70, tv71, tv72, tv73, tv74, tv75, tv76, tv77, tv78, tv79, tv80, tv81, tv82, tv83, tv84, tv85, tv86, tv87, tv88, tv89, tv90, tv91, tv92, tv93, tv94, tv95, hTm⟩ := lit96 hsz
  subst hTm
  simp at e1 e4 e5 e6 e7 e8
  subst e1; subst e4; subst e5; subst e6; subst e7; subst e8
  have HH := Lib.hid hH
  have HR4 := Lib.hid hA4
  have HR5 := Lib.hid hA5
  have HS5 := Lib.hid hB5
  have HF5 := Lib.hid hF5
  have HG5 := Lib.hid hG5
  have HN5 := Lib.hid hN5
  have HD5 := Lib.hid hD5
  have HL4 := Lib.hid hA4lo
  have HO7 := Lib.hid hO7
  have HZ := Lib.hid (And.intro hP1 hP2)
  have H0 := Lib.hid (hP1.hx hH)
  have H0b := Lib.hid (hP2.hx hH)
  clear hA4 hA5 hB5 hF5 hG5 hN5 hD5 hA4lo hO7 hP1 hP2 hH hsz
  refine wpS_cons ?_
  simp only [lw7, bodyW, Try.f4, Option.getD_some]
  go_wp2_with fail
  (with_reducible refine (c_eqInt64S_self (RdI.mk HO7.out.ri) (RdI.mk HR4.out)).mono ?_); rintro e w1 ⟨rfl, hE1⟩; have hz1 := sz_of hE1; (try simp only [World.size_alloc, World.size_setCell, World.size_drew] at hz1); obtain ⟨hc1, hf1⟩ := bcell hE1; (try have hq1_0 : w.heap.size < w1.heap.size := by omega); (try have hq1_1 : w.heap.size + 1 < w1.heap.size := by omega); (try have hq1_2 : w.heap.size + 1 + 1 < w1.heap.size := by omega); (try have hq1_3 : w.heap.size + 1 + 1 + 1 < w1.heap.size := by omega); (try have hq1_4 : w.heap.size + 1 + 1 + 1 + 1 < w1.heap.size := by omega); (try have hq1_5 : w.heap.size + 1 + 1 + 1 + 1 + 1 < w1.heap.size := by omega)
  go_wp2_with fail
  refine wpS_cons ?_
  simp only [lw8, bodyW, Try.f4, Option.getD_some]
  have bp0 := Ext.keep hE1 bx0
  have bp1 := Ext.keep hE1 bx1
  have bp2 := Ext.keep hE1 by0
  have bp3 := Ext.keep hE1 by1
  go_wp2_with fail
  refine wp_region_inv (by kernel_rfl) (by kernel_rfl) (fun a0 S a w' => ∃ u41 u42 u43 u44 u45 : Value, a = (((((a0.put (some 41) u41).put (some 42) u42).put (some 43) u43).put (some 44) u44).put (some 45) u45) ∧ Ext w1 w' ∧ (S 0 = true → u41 = .agg #[.slice A5 n5 c5, .slice B5 m5 m5]) ∧ (S 1 = true → u42 = .agg #[.slice PA0 pn0 pc0, .slice PB0 pm0 pd0]) ∧ (S 2 = true → RdSyC w' u43 x0) ∧ (S 3 = true → u44 = .bool true) ∧ (S 4 = true → u45 = .bool false)) ?_ ?_ ?_
  · intro S hS
    exact ⟨tv41, tv42, tv43, tv44, tv45, by simp only [Act.put, List.setIfInBounds_toArray, List.set_cons_zero, List.set_cons_succ], Ext.drew (Ext.refl _), fun h => absurd ((hS 0 (by decide)).symm.trans h) (by decide), fun h => absurd ((hS 1 (by decide)).symm.trans h) (by decide), fun h => absurd ((hS 2 (by decide)).symm.trans h) (by decide), fun h => absurd ((hS 3 (by decide)).symm.trans h) (by decide), fun h => absurd ((hS 4 (by decide)).symm.trans h) (by decide)⟩
  · refine ⟨?_, ?_, ?_, ?_, ?_, trivial⟩
    · refine StepInv.plain rfl fun S a w' K hdep hI hK0 => ?_
      obtain ⟨u41, u42, u43, u44, u45, ha, hE', p0, p1, p2, p3, p4⟩ := hI
      simp only [Act.put, List.setIfInBounds_toArray, List.set_cons_zero, List.set_cons_succ] at ha
      subst ha
      have hK := Lib.hid hK0; clear hK0
      clear hdep
      have k0 := Ext.keep hE' bp0; have k1 := Ext.keep hE' bp1; have k2 := Ext.keep hE' bp2; have k3 := Ext.keep hE' bp3
      go_wp2_with fail
      exact hK.out _ _ ⟨.agg #[.slice A5 n5 c5, .slice B5 m5 m5], u42, u43, u44, u45, by simp only [Act.put, List.setIfInBounds_toArray, List.set_cons_zero, List.set_cons_succ], by exact extX, fun _ => rfl, fun h => (p1 (by simpa using h)), fun h => (p2 (by simpa using h)), fun h => (p3 (by simpa using h)), fun h => (p4 (by simpa using h))⟩
    · refine StepInv.plain rfl fun S a w' K hdep hI hK0 => ?_
      obtain ⟨u41, u42, u43, u44, u45, ha, hE', p0, p1, p2, p3, p4⟩ := hI
      simp only [Act.put, List.setIfInBounds_toArray, List.set_cons_zero, List.set_cons_succ] at ha
      subst ha
      have hK := Lib.hid hK0; clear hK0
      clear hdep
      have k0 := Ext.keep hE' bp0; have k1 := Ext.keep hE' bp1; have k2 := Ext.keep hE' bp2; have k3 := Ext.keep hE' bp3
      go_wp2_with fail
      exact hK.out _ _ ⟨u41, .agg #[.slice PA0 pn0 pc0, .slice PB0 pm0 pd0], u43, u44, u45, by simp only [Act.put, List.setIfInBounds_toArray, List.set_cons_zero, List.set_cons_succ], by exact extX, fun h => (p0 (by simpa using h)), fun _ => rfl, fun h => (p2 (by simpa using h)), fun h => (p3 (by simpa using h)), fun h => (p4 (by simpa using h))⟩
    · refine StepInv.plain rfl fun S a w' K hdep hI hK0 => ?_
      obtain ⟨u41, u42, u43, u44, u45, ha, hE', p0, p1, p2, p3, p4⟩ := hI
      simp only [Act.put, List.setIfInBounds_toArray, List.set_cons_zero, List.set_cons_succ] at ha
      subst ha
      have hK := Lib.hid hK0; clear hK0
      have d1 := p1 (hdep ⟨1, Ground.data⟩ (by simp) rfl)
      obtain rfl := d1
      clear hdep
      have k0 := Ext.keep hE' bp0; have k1 := Ext.keep hE' bp1; have k2 := Ext.keep hE' bp2; have k3 := Ext.keep hE' bp3
      go_wp2_with (go_at_call 17; (with_reducible refine (c_toSystem (by (first | (first | (with_reducible exact RdI.mk (RI.ext (Hid.out (by with_reducible assumption)) (by exact extX))) | (with_reducible exact RdI.ext (by with_reducible assumption) (by exact extX))) | (with_reducible exact RdSyK.mk (by (first | (with_reducible exact RI.ext (Hid.out (by with_reducible assumption)) (by exact extX)))) (RR.ext (Hid.out (by with_reducible assumption)) (by exact extX))) | (with_reducible exact RdSyK.ext (by with_reducible assumption) (by exact extX)) | (with_reducible exact RdSig.mk (by (first | (with_reducible exact RI.ext (Hid.out (by with_reducible assumption)) (by exact extX))))) | (with_reducible exact RdSig.ext (by with_reducible assumption) (by exact extX))))).mono ?_); intro e w'' hr; obtain ⟨v, rfl, hr, hE''⟩ := hr.out)
      exact hK.out _ _ ⟨u41, .agg #[.slice PA0 pn0 pc0, .slice PB0 pm0 pd0], v, u44, u45, by simp only [Act.put, List.setIfInBounds_toArray, List.set_cons_zero, List.set_cons_succ], by exact extX, fun h => (p0 (by simpa using h)), fun _ => rfl, fun _ => hr, fun h => (p3 (by simpa using h)), fun h => (p4 (by simpa using h))⟩
    · refine StepInv.plain rfl fun S a w' K hdep hI hK0 => ?_
      obtain ⟨u41, u42, u43, u44, u45, ha, hE', p0, p1, p2, p3, p4⟩ := hI
      simp only [Act.put, List.setIfInBounds_toArray, List.set_cons_zero, List.set_cons_succ] at ha
      subst ha
      have hK := Lib.hid hK0; clear hK0
      have d0 := p0 (hdep ⟨0, Ground.data⟩ (by simp) rfl)
      obtain rfl := d0
      have d2 := p2 (hdep ⟨2, Ground.data⟩ (by simp) rfl)
      clear hdep
      have k0 := Ext.keep hE' bp0; have k1 := Ext.keep hE' bp1; have k2 := Ext.keep hE' bp2; have k3 := Ext.keep hE' bp3
      go_wp2_with (go_at_call 19; (with_reducible refine (c_eqSystem_self (by (first | (first | (with_reducible exact RdI.mk (RI.ext (Hid.out (by with_reducible assumption)) (by exact extX))) | (with_reducible exact RdI.ext (by with_reducible assumption) (by exact extX))) | (with_reducible exact RdSyK.mk (by (first | (with_reducible exact RI.ext (Hid.out (by with_reducible assumption)) (by exact extX)))) (RR.ext (Hid.out (by with_reducible assumption)) (by exact extX))) | (with_reducible exact RdSyK.ext (by with_reducible assumption) (by exact extX)) | (with_reducible exact RdSig.mk (by (first | (with_reducible exact RI.ext (Hid.out (by with_reducible assumption)) (by exact extX))))) | (with_reducible exact RdSig.ext (by with_reducible assumption) (by exact extX)))) (by (first | (first | (with_reducible exact RdI.mk (RI.ext (Hid.out (by with_reducible assumption)) (by exact extX))) | (with_reducible exact RdI.ext (by with_reducible assumption) (by exact extX))) | (with_reducible exact RdSyK.mk (by (first | (with_reducible exact RI.ext (Hid.out (by with_reducible assumption)) (by exact extX)))) (RR.ext (Hid.out (by with_reducible assumption)) (by exact extX))) | (with_reducible exact RdSyK.ext (by with_reducible assumption) (by exact extX)) | (with_reducible exact RdSig.mk (by (first | (with_reducible exact RI.ext (Hid.out (by with_reducible assumption)) (by exact extX))))) | (with_reducible exact RdSig.ext (by with_reducible assumption) (by exact extX))))).mono ?_); rintro e w'' ⟨rfl, hE''⟩)
      exact hK.out _ _ ⟨.agg #[.slice A5 n5 c5, .slice B5 m5 m5], u42, u43, .bool true, u45, by simp only [Act.put, List.setIfInBounds_toArray, List.set_cons_zero, List.set_cons_succ], by exact extX, fun _ => rfl, fun h => (p1 (by simpa using h)), fun _ => d2.ext (by exact extX), fun _ => rfl, fun h => (p4 (by simpa using h))⟩
    · refine StepInv.plain rfl fun S a w' K hdep hI hK0 => ?_
      obtain ⟨u41, u42, u43, u44, u45, ha, hE', p0, p1, p2, p3, p4⟩ := hI
      simp only [Act.put, List.setIfInBounds_toArray, List.set_cons_zero, List.set_cons_succ] at ha
      subst ha
      have hK := Lib.hid hK0; clear hK0
      have d3 := p3 (hdep ⟨3, Ground.data⟩ (by simp) rfl)
      obtain rfl := d3
      clear hdep
      have k0 := Ext.keep hE' bp0; have k1 := Ext.keep hE' bp1; have k2 := Ext.keep hE' bp2; have k3 := Ext.keep hE' bp3
      go_wp2_with fail
      exact hK.out _ _ ⟨u41, u42, u43, .bool true, .bool false, by simp only [Act.put, List.setIfInBounds_toArray, List.set_cons_zero, List.set_cons_succ], by exact extX, fun h => (p0 (by simpa using h)), fun h => (p1 (by simpa using h)), fun h => (p2 (by simpa using h)), fun _ => rfl, fun _ => rfl⟩
  intro S a w2 hS hI
  obtain ⟨u41, u42, u43, u44, u45, ha, hE2, p0, p1, p2, p3, p4⟩ := hI
  simp only [Act.put, List.setIfInBounds_toArray, List.set_cons_zero, List.set_cons_succ] at ha
  subst ha
  have r2_0 := p0 (hS 0 (by decide)); clear p0
  obtain rfl := r2_0
  have r2_1 := p1 (hS 1 (by decide)); clear p1
  obtain rfl := r2_1
  have r2_2 := p2 (hS 2 (by decide)); clear p2
  have r2_3 := p3 (hS 3 (by decide)); clear p3
  obtain rfl := r2_3
  have r2_4 := p4 (hS 4 (by decide)); clear p4
  obtain rfl := r2_4
  clear hS
  have hz2 := sz_of hE2; (try simp only [World.size_alloc, World.size_setCell, World.size_drew] at hz2); obtain ⟨hc2, hf2⟩ := bcell hE2; (try have hq2_0 : w.heap.size < w2.heap.size := by omega); (try have hq2_1 : w.heap.size + 1 < w2.heap.size := by omega); (try have hq2_2 : w.heap.size + 1 + 1 < w2.heap.size := by omega); (try have hq2_3 : w.heap.size + 1 + 1 + 1 < w2.heap.size := by omega); (try have hq2_4 : w.heap.size + 1 + 1 + 1 + 1 < w2.heap.size := by omega); (try have hq2_5 : w.heap.size + 1 + 1 + 1 + 1 + 1 < w2.heap.size := by omega); (try have hx2_1 : w1.heap.size < w2.heap.size := by omega)
  go_wp2_with fail
  refine wpS_cons ?_
  simp only [lw9, bodyW, Try.f4, Option.getD_some]
  go_wp2_with fail
  refine wpS_cons ?_
  simp only [lw10, bodyW, Try.f4, Option.getD_some]
  have s2 := Ext.keep (by exact extX : Ext w1 w2) bp2
  have s3 := Ext.keep (by exact extX : Ext w1 w2) bp3
  have hs2 : w.heap.size ≤ w2.heap.size := (by exact extX : Ext w w2).size
  go_wp2_with fail
  have HF5b := Lib.hid (HF5.out.same (Same.ext (by exact extX : Ext w w2)))
  have HG5b := Lib.hid (HG5.out.ext (by exact extX : Ext w w2))
  (with_reducible refine (c_markSystem (lo := lo) (hi := hi) HF5b.out HG5b.out HN5.out (fun b o s e => by have := HD5.out b o s e; omega) (by omega) (by omega)).mono ?_)
  rintro e w3 ⟨k3, rfl, ⟨hk3, hk3'⟩, hT3⟩
  have hm5 := HG5.out.1
  have HT3 := Lib.hid hT3
  have hz3 := hT3.size
  have r0 := hT3.keep (Ext.keep (by exact extX : Ext w1 w2) bp0) (.inl hq1)
  have r1 := hT3.keep (Ext.keep (by exact extX : Ext w1 w2) bp1) (.inl hq1)
  have HR4c := Lib.hid (show RI w3 A4 n4 (oo.getD []) from by
    rcases HL4.out with h | h
    · exact ⟨HR4.out.1, fun h2 => by omega⟩
    · exact RI.turn (RI.ext HR4.out (by exact extX : Ext w w2)) hT3 (fun g o s e => .inl (h g o s e)))
  have HO7c := Lib.hid (OwI.turn (OwI.ext HO7.out (by exact extX : Ext w w2)) hT3 (fun g o s e => by have := HO7.out.bd g o s e; right; omega))
  have HHc := Lib.hid (show Hx v0 w3 from by
    have h2 : Hx v0 w2 := HH.out.trans (Hx.ext (by exact extX : Ext w w2))
    exact ⟨Nat.le_trans h2.1 hT3.size, fun k hk => (hT3.block k (Nat.lt_of_lt_of_le hk h2.1) (.inl (by omega))).trans (h2.2 k hk)⟩)
  clear hT3
  go_wp2_with fail
  refine wpS_cons ?_
  simp only [lw11, bodyW, Try.f4, Option.getD_some]
  go_wp2_with fail
  (with_reducible refine (c_eqInt64S_self (RdI.mk HO7c.out.ri) (RdI.mk HR4c.out)).mono ?_); rintro e w4 ⟨rfl, hE4⟩; have hz4 := sz_of hE4; (try simp only [World.size_alloc, World.size_setCell, World.size_drew] at hz4); obtain ⟨hc4, hf4⟩ := bcell hE4; (try have hq4_0 : w.heap.size < w4.heap.size := by omega); (try have hq4_1 : w.heap.size + 1 < w4.heap.size := by omega); (try have hq4_2 : w.heap.size + 1 + 1 < w4.heap.size := by omega); (try have hq4_3 : w.heap.size + 1 + 1 + 1 < w4.heap.size := by omega); (try have hq4_4 : w.heap.size + 1 + 1 + 1 + 1 < w4.heap.size := by omega); (try have hq4_5 : w.heap.size + 1 + 1 + 1 + 1 + 1 < w4.heap.size := by omega); (try have hx4_1 : w1.heap.size < w4.heap.size := by omega); (try have hx4_2 : w2.heap.size < w4.heap.size := by omega); (try have hx4_3 : w3.heap.size < w4.heap.size := by omega)
  go_wp2_with fail
  refine wpS_cons ?_
  simp only [lw12, bodyW, Try.f4, Option.getD_some]
  go_wp2_with fail
  refine wpS_cons ?_
  simp only [lw13, bodyW, Try.f4, Option.getD_some]
  go_wp2_with fail
  (with_reducible refine (c_markInts (OwI.ext HO7c.out hE4) (by omega) (by omega)).mono ?_)
  rintro e w5 ⟨rfl, hO5, hG5'⟩
  have HR7 := Lib.hid (OwI.ri hO5)
  have hn7 := hO5.le
  have T5 : Turn BB w4.heap.size w4 w5 := Turn.of_only hG5' fun g o s e => by have := (OwI.ext HO7c.out hE4).bd g o s e; exact this
  have hw34 := hE4.size
  have u0 := T5.keep (Ext.keep hE4 r0) (.inl (by omega))
  have u1 := T5.keep (Ext.keep hE4 r1) (.inl (by omega))
  have HR4d := Lib.hid (show RI w5 A4 n4 (oo.getD []) from by
    rcases HL4.out with h | h
    · exact ⟨HR4.out.1, fun h2 => by omega⟩
    · exact RI.turn (RI.ext HR4c.out hE4) T5 (fun g o s e => .inl (by have := h g o s e; omega)))
  have HHd := Lib.hid (show Hx v0 w5 from by
    have h2 : Hx v0 w4 := HHc.out.trans (Hx.ext hE4)
    exact ⟨Nat.le_trans h2.1 T5.size, fun k hk => (T5.block k (Nat.lt_of_lt_of_le hk h2.1) (.inl (by omega))).trans (h2.2 k hk)⟩)
  clear hO5 hG5' T5
  go_wp2_with fail
  refine wpS_cons ?_
  simp only [lw14, bodyW, Try.f4, Option.getD_some]
  go_wp2_with fail
  refine wpS_cons ?_
  simp only [lw15, bodyW, Try.f4, Option.getD_some]
  go_wp2_with fail
  (with_reducible refine (c_heldInts (k := 1) HR7.out (by omega) (by omega)).mono ?_)
  rintro e w6 ⟨rfl, rfl⟩
  have e16 : ((1 + (n7 : Int)) != (1 + (n7 : Int))) = false := by simp
  go_wp2_with fail
  refine wpS_cons ?_
  simp only [lw16, bodyW, Try.f4, Option.getD_some]
  go_wp2_with fail
  refine wpS_cons ?_
  simp only [lw17, bodyW, Try.f4, Option.getD_some]
  go_wp2_with fail
  refine wpS_nil ?_
  exact .inl ⟨rfl, rfl, HHd.out, q1, A4, n4, c4, A7, n7, c7, rfl, u0, u1, rfl, by rw [HOO.out, ← HBB.out]; rfl, by rw [HOO.out]; exact HR4d.out, rfl, HR7.out, hn7, rfl, HZ.out.1, HZ.out.2⟩
end Go.Proofs.Ytdlgjhngndpgoaa
namespace Go.Proofs.Ytdlgjhngndpgoaa
open Go.Conc
set_option linter.unusedVariables false
set_option linter.unusedSimpArgs false
section
variable {P : Program} {c : Nat} {z : Value} {ι : Type} {V : ι → Value → Nat → World → Prop} {Fin Fin' : Set_ → Goroutine → World → Prop} {Post : Value → World → Prop}
theorem mstop_mono (h : ∀ O g w, Fin O g w → Fin' O g w) : ∀ (rs : List ι) O g w, MStop P c z V Fin rs O g w → MStop P c z V Fin' rs O g w
  | [], O, g, w, k => ⟨k.1, fun w2 hr => h _ _ _ (k.2 w2 hr)⟩
  | r :: rs, O, g, w, k => ⟨k.1, fun w2 x b hr hb hV => (k.2 w2 x b hr hb hV).mono (mstop_mono h rs)⟩
theorem atgo_mono (h : ∀ O g w, Fin O g w → Fin' O g w) {O : Set_} {g : Goroutine} {w : World} (k : AtGo_ P c Fin O g w) : AtGo_ P c Fin' O g w := by
  obtain ⟨k1, g', child, ι, V, rs, z, k2, k3, k4, k5⟩ := k
  exact ⟨k1, g', child, ι, V, rs, z, k2, k3, k4.mono (mstop_mono h rs), k5⟩
theorem atmk_mono (h : ∀ O g w, Fin O g w → Fin' O g w) {O : Set_} {g : Goroutine} {w : World} (k : AtMk_ P Fin O g w) : AtMk_ P Fin' O g w := by
  obtain ⟨k1, g', k2, O', k3, k4⟩ := k
  exact ⟨k1, g', k2, O', k3, k4.mono fun _ _ _ => atgo_mono h⟩
theorem scrS_mono (O : Set_) (g : Goroutine) (w : World) (h : ScrS P Post 0 O g w) : ScrS P Post 1 O g w :=
  h.imp id (atmk_mono fun _ _ _ k => Co.mono (Stop := fun _ g w => AtEnd_ P Post g w) k fun _ _ _ => .inl)
theorem offs_scr (kk : Nat) : Offs (ScrS P Post kk) := fun O g w of h => h.imp (fun h => h) fun h => h
theorem offs_end : Offs (fun _ g w => AtEnd_ P Post g w) := fun O g w of h => h
end
end Go.Proofs.Ytdlgjhngndpgoaa
namespace Go.Proofs.Ytdlgjhngndpgoaa
open Go.Conc
set_option linter.unusedVariables false
set_option linter.unusedSimpArgs false
section
variable {P : Program} {L : Lim} {O0 O : Set_} {β0 β γ : Bl} {v0 v w0 w v' w' w1 : World}
def RetC (P : Program) (f : FuncId) (R : Value → World → Prop) (g : Goroutine) (v : World) : Prop :=
  ∃ fr x fn, g = G fr [trap P] ∧ fr.fn = f ∧ P.funcs[f]? = some fn ∧ fr.mode = .returning ∧ fr.defers = [] ∧ fr.kind = .normal ∧ (∃ τ d, (results fn fr.tmps).run P (reW v τ d) = .ok x (reW v τ d)) ∧ R x v
theorem leave_stepC {main : Bool} {fr c : Frame} {cs : List Frame} {fn : Func} {x : Value} {of : Option (Array CommCase × CommShape)} {u u' : World} (hf : P.funcs[fr.fn]? = some fn) (hm : fr.mode = .returning) (hd : fr.defers = []) (hk : fr.kind = .normal)
    (hr : (results fn fr.tmps).run P u = .ok x u') : stepG P main { frame := fr, callers := c :: cs, status := .running, dying := none, offers := of } u = .go (G (c.finish x) cs) u' (seen P fr.fn ((results fn fr.tmps).events P u #[])) := by
  have hh : (results fn fr.tmps).runT P u #[] = (.ok x u', (results fn fr.tmps).events P u #[]) := by
    rw [Sem.runT_eq, hr]
  simp only [stepG, hm, unwind, hd, hf, hh, doReturn, hk, GStep.after]
  rfl
theorem co_enterC (hP : PL P L) (hg : P.globals.size ≤ L.g) (hF : FnsOK P L) {main : Bool} {Stop : Set_ → Goroutine → World → Prop} {f : FuncId} (hf : L.fn f) {as1 bs : Array Value} (hv : VsRel L β as1 bs) (hW : WRel L β v w) (hn : Named O β)
    {R : Value → World → Prop} (hR : ∀ x v τ d, R x v → R x (reW v τ d)) (hC : ∀ τ d, Calls P f as1 (reW v τ d) fun e v' => ∃ x, e = .returned x ∧ R x v')
    {c : Frame} {cs : List Frame} (next : ∀ γ x y v' w' O', R x v' → VRel L γ x y → WRel L γ v' w' → Named O' γ → Acc O β v w O' γ v' w' → Co P main Stop O' (G (c.finish y) cs) w') :
    Co P main Stop O (G (Frame.enter P f bs .normal) (c :: cs)) w := by
  obtain ⟨fn, code, hfn, hbody, hcode⟩ := hF.body f hf
  have hG : GRel P L [] (c :: cs) β (G (Frame.enter P f as1 .normal) [trap P]) (G (Frame.enter P f bs .normal) (c :: cs)) := ⟨enter_rel hF hf hv, .base, rfl, rfl, rfl, rfl⟩
  have hSre : ∀ g v τ d, RetC P f R g v → RetC P f R g (reW v τ d) := fun g v τ d ⟨fr, x, fn, h1, h2, h3, h4, h5, h6, ⟨τ0, d0, h7⟩, h8⟩ => ⟨fr, x, fn, h1, h2, h3, h4, h5, h6, ⟨τ0, d0, h7⟩, hR _ _ _ _ h8⟩
  have hSt : ∀ g v, RetC P f R g v → ¬ Doomed P g := fun g v ⟨fr, x, fn, h1, _, _, h4, _⟩ ht => by
    subst h1
    rcases ht.2.2 with ⟨h, _⟩ | ⟨⟨c, h⟩, _⟩
    · cases h
    · have h : fr.mode = _ := h
      rw [h4] at h; cases h
  have hrch : ∀ τ, Rch P (RetC P f R) (G (Frame.enter P f as1 .normal) [trap P]) (reW v τ 0) := fun τ => by
    obtain ⟨e, v', fr, ⟨x, rfl, hx⟩, hcomes, hfr, hm, hd, hk, fn', hfn', hres⟩ := hC τ 0 [trap P]
    obtain ⟨n, hn⟩ := hcomes
    exact rch_of_run hP hg hF hSt (g1 := G fr [trap P]) (v1 := v') ⟨fr, x, fn', rfl, hfr, hfr ▸ hfn', hm, hd, hk, ⟨v'.tape, v'.drawn, hres⟩, hx⟩ n _ _ (Mate.of hG hW τ 0) hn
  refine Tr.co hP hg hF (S := RetC P f R) (β0 := β) (v0 := v) (w0 := w) (O0 := O) (K := []) (rc := c :: cs) ?_ (bar hP hg hF hSre hSt hrch) hG hW hn (Acc.refl O β v w)
  rintro g v2 γ h w2 O2 ⟨fr, x, fn2, rfl, h2, h3, h4, h5, h6, ⟨τ0, d0, h7⟩, h8⟩ hG2 hW2 hn2 hA2
  have hcs : h.callers = c :: cs := hG2.cs.trap_inv
  have hfr := hG2.fr
  have hmode : h.frame.mode = .returning := by
    have := hfr.mode
    show h.frame.mode = _
    have e : (G fr [trap P]).frame.mode = .returning := h4
    rw [e] at this
    cases hm : h.frame.mode with
    | returning => rfl
    | run => rw [hm] at this; exact (this : False).elim
    | panicking _ => rw [hm] at this; exact (this : False).elim
  have hfn3 : P.funcs[h.frame.fn]? = some fn2 := by rw [← hfr.fn]; show P.funcs[fr.fn]? = _; rw [h2]; exact h3
  -- whatever the answers are, the results are the same
  have hall : ∀ τ d, (results fn2 fr.tmps).run P (reW v2 τ d) = .ok x (reW v2 τ d) := fun τ d => by
    have hW0 : WRel L γ (reW v2 τ0 d0) (reW w2 τ0 d0) := ⟨hW2.blk, hW2.inj, hW2.sv, hW2.sw⟩
    obtain ⟨n, hn⟩ := (rel_results (P := P) (L := L) fn2 hfr.tmps).shift hW0 (fun j q => rfl) (by
      show LiveR ((results fn2 fr.tmps).run P (reW v2 τ0 d0))
      rw [h7]; trivial)
    have h7' : (results fn2 (G fr [trap P]).frame.tmps).run P (reW v2 τ0 d0) = .ok x (reW v2 τ0 d0) := h7
    rw [h7'] at hn
    have e0 := hn τ0 d0 fun j _ q => rfl
    have e0' : (results fn2 (G fr [trap P]).frame.tmps).run P (reW v2 τ0 d0) = .ok x (reW v2 τ0 (d0 + n)) := e0
    rw [h7'] at e0'
    injection e0' with _ e0'
    have hn0 : d0 = d0 + n := congrArg World.drawn e0'
    obtain rfl : n = 0 := by omega
    exact hn τ d fun j hj => by omega
  obtain ⟨hfrm, hcall, hst, hdy, hof⟩ := h
  obtain rfl : hst = .running := hG2.sh
  obtain rfl : hdy = none := hG2.dh
  simp only at hcs
  subst hcs
  have key : ∀ w1, Ry O2 w2 w1 → ∃ δ y w' es, stepG P main { frame := hfrm, callers := c :: cs, status := .running, dying := none, offers := hof } w1 = .go (G (c.finish y) cs) w' es ∧ Foot L γ δ (reW v2 (nextT w1) 0) w1 (reW v2 (nextT w1) 0) w' ∧ (∀ e ∈ es, EvOk δ e) ∧ VRel L δ x y := fun w1 hr => by
    have hr2 := (rel_results (P := P) (L := L) fn2 hfr.tmps).run ((hW2.ry hn2 hr).re (nextT w1) 0) (agree_next v2 w1)
    have e1 : (results fn2 (G fr [trap P]).frame.tmps).run P (reW v2 (nextT w1) 0) = .ok x (reW v2 (nextT w1) 0) := hall _ _
    rw [e1] at hr2
    obtain ⟨δ, y, w', k1, k2, k3, k4⟩ := hr2
    exact ⟨δ, y, w', _, leave_stepC hfn3 hmode hfr.db hfr.kb k1, k2, fun e he => (k4 #[] e (seen_sub _ _ e he)).resolve_left (by simp), k3⟩
  refine .step rfl (fun w1 hr => ?_) fun w1 g2 w2' es2 hr e => ?_
  · obtain ⟨δ, y, w', es, h1, F, hE, _⟩ := key w1 hr
    exact ⟨_, w', es, h1, F.gu hn2 hE⟩
  · obtain ⟨δ, y, w', es, h1, F, hE, hxy⟩ := key w1 hr
    rw [h1] at e; cases e
    exact next δ x y _ _ _ (hR _ _ _ _ h8) hxy F.rel (F.named hn2) (((hA2.rely hr).re (nextT w1) 0).foot F)
end
section
variable {P : Program} {L : Lim} {main : Bool} {Stop : Set_ → Goroutine → World → Prop} {A : An} {b : Frame} {rc : List Frame} {k k' : List Item} {Φ Ψ : Act → World → Prop} {β γ : Bl} {ag a : Act}
theorem Wk.callC (X : Cx P L) (hk : b.kind ≠ .early) {ops : Array Oper} {i : Nat} {rest : List Nat} {o : Oper} {f : FuncId} {args : Array Operand} {ats : Array TypeId} (ho : ops[i]? = some o) (hop : o.op = .call { callee := .value (.func f), args, argTypes := ats }) (hg : o.guard = none) {d : Option Tmp} (hd : o.dst = d)
    (hf : L.fn f) (hx : ∀ x ∈ args.toList, XOK L x) (iΦ : Ins Φ) (iΨ : Ins Ψ)
    (h : ∀ a v, Φ a v → a.defers = [] → Calls P f (args.map a.eval) v fun e v' => ∃ x, e = .returned x ∧ Ψ (a.put d x) v')
    (hn : Wk P L main Stop A b rc (.inRegion ops rest :: k) Ψ) : Wk P L main Stop A b rc (.inRegion ops (i :: rest) :: k) Φ := by
  subst hd
  intro γ ag a v w O hp k2 k3 k4 k5 k6 k7
  obtain ⟨fn, hfn, hnm, hbd⟩ := X.pl.fn f hf
  have hwa : ∀ t, Region.wanted o (yielded ops t) = true := fun t => by simp [Region.wanted, hg]
  have hb' : fn.body.isNone = false := by cases h : fn.body <;> simp_all
  refine Co.one rfl (fun w1 => ?_) (co_enterC X.pl X.gl X.fn hf (act_evals k4 hx) k5 k6 (R := fun x v' => Ψ (ag.put o.dst x) v') (fun x v τ d hh => iΨ _ _ _ _ hh) (fun τ d => h _ _ (iΦ _ _ _ _ hp) k2) (c := b.at a (.inRegion ops (i :: rest) :: k)) (cs := rc) fun γ' x y v' w' O' hq hv hW hN hA => ?_)
  · rw [stepG_enter ho (hwa _) hk (run_call_body hop hfn hnm hb')]
    have : listed P b.fn a o w1 = #[] := by unfold listed; rw [events_call_body hop hfn hnm hb']; exact seen_none P _
    rw [this]
  · rw [Frame.finish_at, ho]
    exact hn _ _ _ _ _ _ hq (by rw [put_defers, k2]) (by rw [put_defers, k3]) ((k4.mono hA.le).put _ hv) hW hN (k7.trans hA)
end
end Go.Proofs.Ytdlgjhngndpgoaa
namespace Go.Proofs.Ytdlgjhngndpgoaa
open Go.Conc Go.RowKit
set_option linter.unusedVariables false
set_option linter.unusedSimpArgs false
set_option maxRecDepth 100000
section
variable {v0 v v' : World} {x0 : Sy} {PA0 PB0 : Option Addr} {pn0 pc0 pm0 pd0 : Nat} {a : Act}
theorem Lc.hx (h : Lc v0 x0 PA0 pn0 pc0 PB0 pm0 pd0 a v) (k : Hx v v') : Lc v0 x0 PA0 pn0 pc0 PB0 pm0 pd0 a v' := by
  obtain ⟨h0, h1, q1, A4, n4, c4, A7, n7, c7, k1, k2, k3, k4, k5, k6, k7, k8, k9⟩ := h
  exact ⟨h0, h1.trans k, q1, A4, n4, c4, A7, n7, c7, k1, k.keep k2, k.keep k3, k4, k5, k6.hx k, k7, k8.hx k, k9⟩
theorem Lc.put {t : Nat} {x : Value} (h : Lc v0 x0 PA0 pn0 pc0 PB0 pm0 pd0 a v) (h1 : t ≠ 1) (h4 : t ≠ 4) (h5 : t ≠ 5) (h7 : t ≠ 7) (h10 : t ≠ 10) : Lc v0 x0 PA0 pn0 pc0 PB0 pm0 pd0 (a.put (some t) x) v := by
  obtain ⟨e0, e1, q1, A4, n4, c4, A7, n7, c7, k1, k2, k3, k4, k5, k6, k7, k8, k9, k10, k11⟩ := h
  exact ⟨by rw [put_size, e0], e1, q1, A4, n4, c4, A7, n7, c7, by rw [put_get, if_neg h1, k1], k2, k3, by rw [put_get, if_neg h4, k4], by rw [put_get, if_neg h5, k5], k6, by rw [put_get, if_neg h7, k7], k8, k9, by rw [put_get, if_neg h10, k10], k11⟩
theorem Lc.ins : Ins (Lc v0 x0 PA0 pn0 pc0 PB0 pm0 pd0) := fun a v τ d h => h
def Ld (v0 : World) (x0 : Sy) (PA0 : Option Addr) (pn0 pc0 : Nat) (PB0 : Option Addr) (pm0 pd0 : Nat) (a : Act) (v : World) : Prop :=
  Lc v0 x0 PA0 pn0 pc0 PB0 pm0 pd0 a v ∧ ∃ B x y, a.tmps[12]? = some x ∧ a.tmps[13]? = some y ∧ Own7 x0 B x y v
end
theorem run_ld42 (a : Act) (w : World) (o : Oper) (q n c m d : Nat) (A B : Option Addr) (hop : o.op = .load 42 (.tmp 1)) (hx : a.eval (.tmp 1) = .pointer (some ⟨q, 0, none⟩)) (h : w.cell? ⟨q, 0, none⟩ = some (.slice A n c)) (h1 : w.cell? ⟨q, 1, none⟩ = some (.slice B m d)) : (execOp a.eval o).run Try.prog w = .ok (.value (.agg #[.slice A n c, .slice B m d])) w := by
  simp only [Act.eval, Array.getD_eq_getD_getElem?] at hx
  unfold execOp
  simp only [hop]
  simp [go_sem, hx, h, h1]
section
variable {m : Nat} {A : An} {Post : Value → World → Prop} {K : Nat} {StA : Set_ → Goroutine → World → Prop} {x0 : Sy} {PA0 PB0 : Option Addr} {pn0 pc0 pm0 pd0 : Nat} {k : List Item}
theorem law18 (hSo : Offs StA) (hoS : Offs (ScrS Try.prog Post K)) (hK : Script_ Try.prog Post K = Co Try.prog true StA) (hmono : ∀ O g w, StA O g w → ScrS Try.prog Post K O g w)
    (hn : Wk Try.prog (LM m) true StA A (base 4) [] k (Ld A.v x0 PA0 pn0 pc0 PB0 pm0 pd0)) : Wk Try.prog (LM m) true (ScrS Try.prog Post K) A (base 4) [] (.code lw18 :: k) (Lc A.v x0 PA0 pn0 pc0 PB0 pm0 pd0) := by
  simp only [lw18, bodyW, Try.f4, Option.getD_some]
  refine Wk.reg (l := [0, 1, 2, 3, 4, 5, 6, 7]) rfl ?_
  refine Wk.op (X m) bWe rfl (d := some 74) rfl (xtmp (m := m) 1) Lc.ins (Ψ := fun a v => Lc A.v x0 PA0 pn0 pc0 PB0 pm0 pd0 a v ∧ a.tmps[74]? = some (.agg #[.slice PA0 pn0 pc0, .slice PB0 pm0 pd0])) (fun a v h _ => ?_) ?_
  · have h' := h
    obtain ⟨h0, h1, q1, A4, n4, c4, A7, n7, c7, k1, k2, k3, _⟩ := h
    exact ⟨by rfl, .inl ⟨_, _, run_ld42 a v _ q1 _ _ _ _ _ _ rfl (eval_tmp k1) k2 k3, h'.put (by decide) (by decide) (by decide) (by decide) (by decide), by rw [put_get, if_pos rfl, if_pos (by rw [h0]; decide)]⟩⟩
  refine Wk.callC (X m) bWe rfl rfl rfl (d := some 75) rfl (by show fnB _ = true; kernel_rfl) (fun x hx => by simp at hx; subst hx; exact trivial) (fun a v τ d h => h) (Ψ := fun a v => Lc A.v x0 PA0 pn0 pc0 PB0 pm0 pd0 a v ∧ ∃ A5 n5 c5 B5 m5 d5, a.tmps[75]? = some (Value.agg #[Value.slice A5 n5 c5, Value.slice B5 m5 d5]) ∧ RI v A5 n5 x0.ar ∧ RR true v B5 m5 x0.rs) (fun a v τ d h => h) (fun a v h hd => ?_) ?_
  · obtain ⟨hL, h74⟩ := h
    have he : (#[Operand.tmp 74].map a.eval) = #[.agg #[.slice PA0 pn0 pc0, .slice PB0 pm0 pd0]] := by simp [eval_tmp h74]
    rw [he]
    have hH := hL.2.1
    have hz := hL.1
    have hP : RI A.v PA0 pn0 x0.ar ∧ RR false A.v PB0 pm0 x0.rs := by
      obtain ⟨_, _, _, _, _, _, _, _, _, _, _, _, _, _, _, _, _, _, _, h1, h2⟩ := hL
      exact ⟨h1, h2⟩
    refine (c_toSystem (RdSyK.mk (hP.1.hx hH) (hP.2.hx hH))).mono fun e v' h => ?_
    obtain ⟨x, rfl, ⟨A5, n5, c5, B5, m5, d5, rfl, h1, h2⟩, hE⟩ := h.out
    exact ⟨_, rfl, (hL.hx (Hx.ext hE)).put (by decide) (by decide) (by decide) (by decide) (by decide), A5, n5, c5, B5, m5, d5, by rw [put_get, if_pos rfl, if_pos (by rw [hz]; decide)], h1, h2⟩
  intro γ ag a v w O hp k2 k3 k4 k5 k6 k7
  obtain ⟨hLa, A5, n5, c5, B5, m5, d5, h28, hri, hrr⟩ := hp
  refine co_into bWe rfl rfl rfl Try.func9 (by rfl) (c := bodyQ) rfl (fun x hx => by simp at hx; subst hx; exact trivial) k2 k3 k4 k5 k6 ?_
  refine (fr_wk (A := ⟨O, γ, v, w⟩) (s := x0) hSo hoS hK hmono ?_).mono fun a' v' h => ?_
  · intro γ2 x y v2 w2 O2 hout hxy hW2 hN2 hA2
    rw [Frame.finish_at]
    obtain ⟨y0, y1, rfl⟩ := hout.pair
    have hH := hout.1
    have hO7 := own7 (x0 := x0) hout.2
    have hz : ag.tmps.size = 96 := hLa.1
    refine Wk.use (Φ := fun a v' => Lc A.v x0 PA0 pn0 pc0 PB0 pm0 pd0 a v' ∧ a.tmps[76]? = some (.tuple #[y0, y1]) ∧ Own7 x0 v.heap.size y0 y1 v') (ag := ag.put (some 76) (.tuple #[y0, y1])) ⟨(hLa.hx hH).put (by decide) (by decide) (by decide) (by decide) (by decide), by rw [put_get, if_pos rfl, if_pos (by rw [hz]; decide)], hO7⟩ (by rw [put_defers, k2]) (by rw [put_defers, k3]) ((k4.mono hA2.le).put _ hxy) hW2 hN2 (k7.trans hA2) ?_
    clear hout hxy hO7 hH hLa
    refine Wk.mv (X m) bWe rfl (.inl rfl) rfl (d := some 73) rfl (xtmp 76) (Ψ := fun a v' => Lc A.v x0 PA0 pn0 pc0 PB0 pm0 pd0 a v' ∧ a.tmps[73]? = some (.tuple #[y0, y1]) ∧ Own7 x0 v.heap.size y0 y1 v') (fun a v h => ⟨h.1.put (by decide) (by decide) (by decide) (by decide) (by decide), by rw [put_get, if_pos rfl, if_pos (by rw [h.1.1]; decide), eval_tmp h.2.1], h.2.2⟩) ?_
    refine Wk.op (X m) bWe rfl (d := some 77) rfl (xtmp (m := m) 73) (fun a v τ d h => h) (Ψ := fun a v' => (Lc A.v x0 PA0 pn0 pc0 PB0 pm0 pd0 a v' ∧ a.tmps[73]? = some (.tuple #[y0, y1]) ∧ Own7 x0 v.heap.size y0 y1 v') ∧ a.tmps[77]? = some y0) (fun a v h _ => ⟨by rfl, .inl ⟨_, _, run_ex7 a v _ y0 y1 0 73 rfl (eval_tmp h.2.1) (by decide), ⟨h.1.put (by decide) (by decide) (by decide) (by decide) (by decide), by rw [put_get, if_neg (by decide), h.2.1], h.2.2⟩, by rw [put_get, if_pos rfl, if_pos (by rw [h.1.1]; decide)]; rfl⟩⟩) ?_
    refine Wk.op (X m) bWe rfl (d := some 78) rfl (xtmp (m := m) 73) (fun a v τ d h => h) (Ψ := fun a v' => (Lc A.v x0 PA0 pn0 pc0 PB0 pm0 pd0 a v' ∧ Own7 x0 v.heap.size y0 y1 v') ∧ a.tmps[77]? = some y0 ∧ a.tmps[78]? = some y1) (fun a v h _ => ⟨by rfl, .inl ⟨_, _, run_ex7 a v _ y0 y1 1 73 rfl (eval_tmp h.1.2.1) (by decide), ⟨h.1.1.put (by decide) (by decide) (by decide) (by decide) (by decide), h.1.2.2⟩, by rw [put_get, if_neg (by decide), h.2], by rw [put_get, if_pos rfl, if_pos (by rw [h.1.1.1]; decide)]; rfl⟩⟩) ?_
    refine Wk.mv (X m) bWe rfl (.inr rfl) rfl (d := some 12) rfl (xtmp 77) (Ψ := fun a v' => (Lc A.v x0 PA0 pn0 pc0 PB0 pm0 pd0 a v' ∧ Own7 x0 v.heap.size y0 y1 v') ∧ a.tmps[12]? = some y0 ∧ a.tmps[78]? = some y1) (fun a v h => ⟨⟨h.1.1.put (by decide) (by decide) (by decide) (by decide) (by decide), h.1.2⟩, by rw [put_get, if_pos rfl, if_pos (by rw [h.1.1.1]; decide), eval_tmp h.2.1], by rw [put_get, if_neg (by decide), h.2.2]⟩) ?_
    refine Wk.mv (X m) bWe rfl (.inr rfl) rfl (d := some 13) rfl (xtmp 78) (Ψ := Ld A.v x0 PA0 pn0 pc0 PB0 pm0 pd0) (fun a v' h => ⟨h.1.1.put (by decide) (by decide) (by decide) (by decide) (by decide), v.heap.size, y0, y1, by rw [put_get, if_neg (by decide), h.2.1], by rw [put_get, if_pos rfl, if_pos (by rw [h.1.1.1]; decide), eval_tmp h.2.2], h.1.2⟩) (Wk.regionEnd hn)
  · obtain ⟨rfl, rfl⟩ := h
    refine ⟨A5, n5, c5, B5, m5, d5, ?_, hri, hrr, Hx.refl _⟩
    have e : (#[Operand.tmp 75].map ag.eval) = #[.agg #[.slice A5 n5 c5, .slice B5 m5 d5]] := by simp [eval_tmp h28]
    show Act.mk (_ ++ _) [] = _
    rw [e]
    simp [litQ, Try.ntmps9]
end
end Go.Proofs.Ytdlgjhngndpgoaa
namespace Go.Proofs.Ytdlgjhngndpgoaa
open Go.Conc Go.ChangeShapes Go.WideShapes Go.ChangeAt Go.RowKit
set_option linter.unusedVariables false
set_option linter.unusedSimpArgs false
set_option maxRecDepth 100000
set_option maxHeartbeats 4000000 in
theorem chunkC {v0 w : World} {x0 : Sy} {PA0 PB0 : Option Addr} {pn0 pc0 pm0 pd0 : Nat} {a : Act} (h : Ld v0 x0 PA0 pn0 pc0 PB0 pm0 pd0 a w) (hd : a.defers = []) :
    lwC.wp Try.prog (fun e a' v' => (e = .normal ∧ False) ∨ (e = .ret ∧ a'.tmps.size = 96 ∧ a'.tmps[2]? = some (.bool true) ∧ Hx v0 v')) a w := by
  obtain ⟨⟨hsz, hH, q1, A4, n4, c4, A7, n7, c7, e1, bx0, bx1, e4, e5, hA4, e7, hA7, hn7, e10, hP1, hP2⟩, BB, y, z, e12, e13, A12, n12, c12, rfl, rfl, hO12⟩ := h
  obtain ⟨oo, hoo⟩ : ∃ oo, oo = ansF true x0 := ⟨_, rfl⟩
  rw [← hoo] at e5 hA4 e13 hO12
  obtain ⟨bb, hbb⟩ : ∃ bb, bb = oo.isSome := ⟨_, rfl⟩
  rw [← hbb] at e5 e13
  clear hoo hbb
  obtain ⟨tm, df⟩ := a
  simp only at hd hsz e1 e4 e5 e7 e10 e12 e13
  subst hd
  obtain ⟨tv0, tv1, tv2, tv3, tv4, tv5, tv6, tv7, tv8, tv9, tv10, tv11, tv12, tv13, tv14, tv15, tv16, tv17, tv18, tv19, tv20, tv21, tv22, tv23, tv24, tv25, tv26, tv27, tv28, tv29, tv30, tv31, tv32, tv33, tv34, tv35, tv36, tv37, tv38, tv39, tv40, tv41, tv42, tv43, tv44, tv45, tv46, tv47, tv48, tv49, tv50, tv51, tv52, tv53, tv54, tv55, tv56, tv57, tv58, tv59, tv60, tv61, tv62, tv63, tv64, tv65, tv66, tv67, tv68, tv69, tv70, tv71, tv72, tv73, tv74, tv75, tv76, tv77, tv78, tv79, tv80, tv81, tv82, tv83, tv84, tv85, tv86, tv87, tv88, tv89, tv90, tv91, tv92, tv93, tv94, tv95, hTm⟩ := lit96 hsz
  subst hTm
  simp at e1 e4 e5 e7 e10 e12 e13
  subst e1; subst e4; subst e5; subst e7; subst e10; subst e12; subst e13
  have HH := Lib.hid hH
  have HR4 := Lib.hid hA4
  have HR7 := Lib.hid hA7
  have HO12 := Lib.hid hO12
  clear hA4 hA7 hO12 hH hsz hP1 hP2 bx0 bx1
  simp only [lwC, bodyW, Try.f4, Option.getD_some]
  go_wp2_with fail
  (with_reducible refine (c_eqInt64S_self (RdI.mk HO12.out.ri) (RdI.mk HR4.out)).mono ?_); rintro e w1 ⟨rfl, hE1⟩; have hz1 := sz_of hE1; (try simp only [World.size_alloc, World.size_setCell, World.size_drew] at hz1); obtain ⟨hc1, hf1⟩ := bcell hE1; (try have hq1_0 : w.heap.size < w1.heap.size := by omega); (try have hq1_1 : w.heap.size + 1 < w1.heap.size := by omega); (try have hq1_2 : w.heap.size + 1 + 1 < w1.heap.size := by omega); (try have hq1_3 : w.heap.size + 1 + 1 + 1 < w1.heap.size := by omega); (try have hq1_4 : w.heap.size + 1 + 1 + 1 + 1 < w1.heap.size := by omega); (try have hq1_5 : w.heap.size + 1 + 1 + 1 + 1 + 1 < w1.heap.size := by omega)
  go_wp2_with fail
  (with_reducible refine (c_heldInts (k := 1) (RI.ext HR7.out hE1) (by omega) (by omega)).mono ?_)
  rintro e w2 ⟨rfl, rfl⟩
  have e16 : ((1 + (n7 : Int)) != (1 + (n7 : Int))) = false := by simp
  go_wp2_with fail
  exact HH.out.trans (Hx.ext hE1)
end Go.Proofs.Ytdlgjhngndpgoaa
namespace Go.Proofs.Ytdlgjhngndpgoaa
open Go.Conc
set_option linter.unusedVariables false
set_option linter.unusedSimpArgs false
section
variable {P : Program} {L : Lim} {Stop : Set_ → Goroutine → World → Prop} {A : An} {b : Frame} {Φ : Act → World → Prop} {Post : Value → World → Prop}
theorem stepG_done {fn : Func} {a : Act} {todo : List Item} {v : Value} {w : World} (hn : b.kind = .normal) (hi : P.inits.idxOf? b.fn = none) (hd : a.defers = []) (hf : P.funcs[b.fn]? = some fn) (hr : ∀ u es, (results fn a.tmps).runT P u es = (.ok v u, es)) :
    stepG P true (G { b.at a todo with mode := .returning } []) w = .ended (.done v) w #[] := by
  have hh := hr w #[]
  simp only [G, stepG, unwind, Frame.at, hd, hf, hh, doReturn, hn, GStep.after, seen_nil, hi, Bool.not_true, Bool.false_eq_true, if_false]
  rfl
theorem WkR.done {fn : Func} (hb : b.kind = .normal) (hi : P.inits.idxOf? b.fn = none) (hf : P.funcs[b.fn]? = some fn) (hT : TmpRes fn) (hStop : ∀ O g w, AtEnd_ P Post g w → Stop O g w) {R : Value → World → Prop} (hR : ∀ a v, Φ a v → ∃ x, (∀ u, (results fn a.tmps).run P u = .ok x u) ∧ R x v)
    (post : ∀ γ x y v w O, R x v → VRel L γ x y → WRel L γ v w → Named O γ → Acc A.O A.β A.v A.w O γ v w → Post y w) : WkR P L true Stop A b [] Φ := by
  intro γ ag a v w O todo hp k2 k3 k4 k5 k6 k7
  obtain ⟨x, hx, hq⟩ := hR _ _ hp
  obtain ⟨y, hy⟩ := tmpRes_run (P := P) hT a.tmps
  refine .stop fun w1 hr1 => hStop _ _ _ ⟨rfl, y, stepG_done hb hi k3 hf hy, ?_⟩
  have hW := k5.ry k6 hr1
  have hxy : VRel L γ x y := by
    have hr := (rel_results (P := P) (L := L) fn k4).run (hW.re (nextT w1) 0) (agree_next v w1)
    have e2 : (results fn a.tmps).run P w1 = .ok y w1 := by
      have := hy w1 #[]
      rw [Sem.runT_eq] at this
      exact (Prod.mk.inj this).1
    rw [hx] at hr
    obtain ⟨δ, y2, w3, q1, q2, q3, q4⟩ := hr
    rw [e2] at q1
    cases q1
    refine VRel.mono (fun k z e => ?_) q3
    rcases q2.new k z e with e | ⟨_, e2⟩
    · exact e
    · obtain ⟨o, p, h1, _⟩ := q2.rel.blk k z e
      have := lt_of_heap h1
      have h9 : (reW v (nextT w1) 0).heap.size ≤ k := e2
      omega
  exact post γ x y v w1 O hq hxy hW k6 (k7.rely hr1)
end
end Go.Proofs.Ytdlgjhngndpgoaa
