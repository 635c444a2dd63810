/- The reference's path orders: l13Why, l13Bag. -/
import Derived.Test.YtejmlbcafemieaaLpsW
namespace Go.Proofs.Ytejmlbcafemieaa
open Go.RowKit
set_option linter.unusedSimpArgs false
set_option linter.unusedVariables false

def flagN (W : Tm → Tm → Nat) (t s : Tm) : Nat := if 0 < W t s then 1 else 0
theorem Told.flag {v : Int} {W : Tm → Tm → Nat} {t s : Tm} (h : v = (flagN W t s : Int)) : Told v (W t s) := by
  subst h; unfold flagN Told
  split <;> omega
theorem SC.H.out {Y : SC} {w : World} {V : Nat → Nat → Int} {F : Tm → Tm → Nat} (h : Y.H w V) (hP : Y.P) (hF : Filled Y F V 0 0) : (0 < Y.k ∧ 0 < Y.m) ∧ w.cell? ⟨Y.wb, 0, none⟩ = some (.slice (some ⟨Y.row 0, 0, none⟩) Y.m Y.m) ∧ w.cell? ⟨Y.row 0, 0, none⟩ = some (.int .i64 (F (subT Y.ar Y.t 0) (subT Y.ar Y.s 0) : Int)) := by
  have hk : 0 < Y.k := by rw [← h.s.len]; exact hP.ts.2.1.1
  have hm : 0 < Y.m := by rw [← h.t.len]; exact hP.tt.2.1.1
  refine ⟨⟨hk, hm⟩, h.wy 0 hk, ?_⟩
  rw [h.v 0 0 hk hm, hF 0 0 hP.ts.2.1.1 hP.tt.2.1.1 (by omega)]
set_option maxRecDepth 100000 in
set_option maxHeartbeats 8000000 in
theorem c_l13Why {ar rk s t : List Int} {A : Option Addr} {n c : Nat} {R : Option Addr} {rn rc : Nat} {B : Option Addr} {m d : Nat} {D : Option Addr} {k l : Nat} {w : World} (hs : SigP ar) (hrl : rk.length = ar.length) (ht : TermP ar t) (hss : TermP ar s)
    (ha : RI w A n ar) (hr : RI w R rn rk) (hB : RI w B m t) (hD : RI w D k s) (hmd : m ≤ d ∧ d ≤ 9223372036854775807) (hkl : k ≤ l ∧ l ≤ 9223372036854775807) :
    Calls Try.prog 52 #[.agg #[.slice A n c], .slice R rn rc, .slice D k l, .slice B m d] w fun e w' => e = .returned (.int .i64 (lpoW (rkF rk) true (subT ar t 0) (subT ar s 0) : Int)) ∧ Ext w w' := by
  have hm60 : m ≤ 60 := by rw [← hB.len]; exact ht.2.1.2
  have hk60 : k ≤ 60 := by rw [← hD.len]; exact hss.2.1.2
  have HA := Lib.hid ha
  have HR := Lib.hid hr
  have HB := Lib.hid hB
  have HD := Lib.hid hD
  have HS := Lib.hid hs
  have HT := Lib.hid ht
  have HSS := Lib.hid hss
  have HRL := Lib.hid hrl
  have HMD := Lib.hid hmd
  have HKL := Lib.hid hkl
  clear ha hr hB hD hs hrl ht hss hmd hkl
  go_enter Try.func52, Try.ntmps52
  go_wp2_with fail
  (with_reducible refine (c_l13Make HS.out HRL.out HT.out HSS.out (RI.ext HA.out (by (repeat' (first | (with_reducible exact Ext.refl _) | (with_reducible assumption) | (with_reducible refine Ext.alloc ?_ _) | (with_reducible refine Ext.set ?_ ?_ _) | (with_reducible refine Ext.drewN ?_ _) | (with_reducible refine Ext.drew ?_) | (with_reducible refine Ext.trans ?_ (by with_reducible assumption)) | go_size)))) (RI.ext HR.out (by (repeat' (first | (with_reducible exact Ext.refl _) | (with_reducible assumption) | (with_reducible refine Ext.alloc ?_ _) | (with_reducible refine Ext.set ?_ ?_ _) | (with_reducible refine Ext.drewN ?_ _) | (with_reducible refine Ext.drew ?_) | (with_reducible refine Ext.trans ?_ (by with_reducible assumption)) | go_size)))) (RI.ext HB.out (by (repeat' (first | (with_reducible exact Ext.refl _) | (with_reducible assumption) | (with_reducible refine Ext.alloc ?_ _) | (with_reducible refine Ext.set ?_ ?_ _) | (with_reducible refine Ext.drewN ?_ _) | (with_reducible refine Ext.drew ?_) | (with_reducible refine Ext.trans ?_ (by with_reducible assumption)) | go_size)))) (RI.ext HD.out (by (repeat' (first | (with_reducible exact Ext.refl _) | (with_reducible assumption) | (with_reducible refine Ext.alloc ?_ _) | (with_reducible refine Ext.set ?_ ?_ _) | (with_reducible refine Ext.drewN ?_ _) | (with_reducible refine Ext.drew ?_) | (with_reducible refine Ext.trans ?_ (by with_reducible assumption)) | go_size)))) HMD.out HKL.out).mono ?_)
  rintro e w1 ⟨Y, rfl, hP, hH, ⟨rfl, rfl, rfl, rfl⟩, hrow, hE1⟩
  obtain rfl : k = Y.k := by rw [← HD.out.len, hH.s.len]
  obtain rfl : m = Y.m := by rw [← HB.out.len, hH.t.len]
  have hE1w : Ext w w1 := Ext.trans (by (repeat' (first | (with_reducible exact Ext.refl _) | (with_reducible assumption) | (with_reducible refine Ext.alloc ?_ _) | (with_reducible refine Ext.set ?_ ?_ _) | (with_reducible refine Ext.drewN ?_ _) | (with_reducible refine Ext.drew ?_) | (with_reducible refine Ext.trans ?_ (by with_reducible assumption)) | go_size))) hE1
  have HP := Lib.hid hP
  have HROW := Lib.hid (show ∀ i, i < Y.k → w.heap.size ≤ Y.row i from fun i hi => by have := hrow i hi; simp [go_sem] at this; omega)
  have HH := Lib.hid hH
  obtain ⟨F, hF⟩ : ∃ F, F = lpoW (rkF Y.rk) true := ⟨_, rfl⟩
  have HF := Lib.hid hF
  clear hP hH hrow hF hE1
  go_wp2_with fail
  go_loopw [10] (fun jv wr => ∃ p : Nat, jv = .int .i64 ((p : Int) - 1) ∧ p ≤ Y.m ∧ Hid (∃ V, Y.H wr V ∧ Filled Y F V 0 p) ∧ Ext w wr) (fun jv _ => (intOf jv + 1).toNat)
  case atStart => exact ⟨Y.m, rfl, Nat.le_refl _, Lib.hid ⟨_, HH.out, fun a b ha hb hab => by rw [HH.out.t.len] at hb; omega⟩, hE1w⟩
  case round =>
    obtain ⟨p, rfl, hp, hV, hE⟩ := hrel
    cases p with
    | zero =>
      obtain ⟨V, h1, h2⟩ := hV.out
      obtain ⟨⟨q1, q2⟩, q3, q4⟩ := h1.out HP.out h2
      have c6 := h1.c6
      go_wp2
      go_ret
      exact ⟨ret_int (by rw [HF.out]), hE⟩
    | succ j =>
      obtain ⟨wj, rfl⟩ : ∃ wj : World, wj = wr := ⟨_, rfl⟩
      have hj1 : ((j + 1 : Nat) : Int) - 1 = (j : Int) := by omega
      have hj0 : (0 : Int) ≤ (j : Int) := by omega
      have hjm : (j : Int) < (Y.m : Int) := by omega
      rw [hj1]
      clear hj1
      go_wp2_with fail
      go_loopw [11] (fun iv wr => ∃ r : Nat, iv = .int .i64 ((r : Int) - 1) ∧ r ≤ Y.k ∧ Hid (∃ V, Y.H wr V ∧ Filled Y F V r j) ∧ Ext w wr) (fun iv _ => (intOf iv + 1).toNat)
      case atStart => exact ⟨Y.k, rfl, Nat.le_refl _, Lib.hid (by obtain ⟨V, h1, h2⟩ := hV.out; exact ⟨V, h1, by have := h2.next; rw [h1.s.len] at this; exact this⟩), hE⟩
      case round =>
        obtain ⟨r, rfl, hr, hV2, hE2⟩ := hrel
        cases r with
        | zero =>
          go_wp2
          go_roundw
          case rel => exact ⟨j, by first | rfl | (congr 1; omega), by omega, hV2, hE2⟩
          case measure => simp only [intOf]; omega
        | succ i =>
          have hi1 : ((i + 1 : Nat) : Int) - 1 = (i : Int) := by omega
          have hi0 : (0 : Int) ≤ (i : Int) := by omega
          have hik : (i : Int) < (Y.k : Int) := by omega
          rw [hi1]
          clear hi1
          obtain ⟨V, h1, h2⟩ := hV2.out
          have hil : i < Y.s.length := by rw [h1.s.len]; omega
          have hjl : j < Y.t.length := by rw [h1.t.len]; omega
          obtain ⟨⟨y, ss⟩, hsi⟩ : ∃ u, subT Y.ar Y.s i = u := ⟨_, rfl⟩
          obtain ⟨⟨x, us⟩, htj⟩ : ∃ u, subT Y.ar Y.t j = u := ⟨_, rfl⟩
          have hA : Y.At i j y ss x us := ⟨hil, hjl, hsi, htj⟩
          have HA2 := Lib.hid hA
          have HV := Lib.hid h1
          have HFI := Lib.hid h2
          have c6 := h1.c6
          have cw := h1.wy i (by omega)
          have hi' : i < Y.k := by omega
          have hj' : j < Y.m := by omega
          have hft1 : ∀ k a, us[k]? = some a → V i (pl j us k) = (F a (.node y ss) : Int) := fun k a ha => by
            obtain ⟨g1, g2⟩ := hA.pt HP.out ha
            exact h2.at_ hil g1 hsi g2 (.inl pl_lt)
          have hft2 : ∀ k b, ss[k]? = some b → V (pl i ss k) j = (F (.node x us) b : Int) := fun k b hb => by
            obtain ⟨g1, g2⟩ := hA.ps HP.out hb
            exact h2.at_ g1 hjl g2 htj (.inr ⟨rfl, pl_lt⟩)
          have hft3 : ∀ k q a b, us[k]? = some a → ss[q]? = some b → V (pl i ss q) (pl j us k) = (F a b : Int) := fun k q a b ha hb => by
            obtain ⟨g1, g2⟩ := hA.pt HP.out ha
            obtain ⟨g3, g4⟩ := hA.ps HP.out hb
            exact h2.at_ g3 g1 g4 g2 (.inl pl_lt)
          have HT1 := Lib.hid hft1
          have HT2 := Lib.hid hft2
          have HT3 := Lib.hid hft3
          have HSI := Lib.hid hsi
          have HTJ := Lib.hid htj
          clear h1 h2 hA hsi htj hil hjl hft1 hft2 hft3 hV2
          obtain ⟨r0, hr0⟩ : ∃ r0, lpoB (rkF Y.rk) true F (.node x us) (.node y ss) = r0 := ⟨_, rfl⟩
          have HR0 := Lib.hid hr0
          have HRF := Lib.hid (show F (.node x us) (.node y ss) = r0 by rw [← hr0, HF.out]; exact lpoW_eq _ _ _ _)
          clear hr0
          go_wp2_with fail
          refine wp_only (R := fun (a0 : Act) (a8 : Act) (w9 : World) => a8 = (((((((((((((a0.put (some 31) (.pointer (some ⟨Y.g, 0, none⟩))).put (some 32) (.pointer (some ⟨Y.g, 0, none⟩))).put (some 33) (.pointer (some ⟨Y.g, 6, none⟩))).put (some 34) (.slice (some ⟨Y.wb, 0, none⟩) Y.k Y.wc)).put (some 35) (.int .i64 (i : Int))).put (some 36) (.pointer (some ⟨Y.wb, i, none⟩))).put (some 37) (.slice (some ⟨Y.row i, 0, none⟩) Y.m Y.m)).put (some 38) (.int .i64 (j : Int))).put (some 39) (.pointer (some ⟨Y.g, 0, none⟩))).put (some 40) (.int .i64 (i : Int))).put (some 41) (.int .i64 (j : Int))).put (some 42) (.int .i64 (r0 : Int))).put (some 43) (.pointer (some ⟨Y.row i, j, none⟩))) ∧ Y.H w9 (putV V i j (r0 : Int)) ∧ Ext w w9) ?_ (fun a8 w9 hR => ?_)
          · refine wp_region_held_drew (S := (fun w' => w'.cell? ⟨Y.g, 6, none⟩ = some (.slice (some ⟨Y.wb, 0, none⟩) Y.k Y.wc) ∧ w'.cell? ⟨Y.wb, i, none⟩ = some (.slice (some ⟨Y.row i, 0, none⟩) Y.m Y.m))) (by kernel_rfl) (⟨c6, cw⟩) (fun hH => ?_)
            refine wpAnyH_take_dst (i := 0) (v := .pointer (some ⟨Y.g, 0, none⟩)) (d := some 31) rfl rfl (by kernel_rfl) (by kernel_rfl) (by kernel_rfl) (fun _ _ _ h => h) (Or.inl ⟨by rfl, ?_⟩) hH ?_
            · (intro w' hE'; (try dsimp only at hE'); obtain ⟨hs6, hsw⟩ := hE'; go_simp; try with_reducible rfl)
            try simp only [Act.put, List.setIfInBounds_toArray, List.set_cons_zero, List.set_cons_succ]
            refine wpAnyH_take_dst (i := 1) (v := .pointer (some ⟨Y.g, 0, none⟩)) (d := some 32) rfl rfl (by kernel_rfl) (by kernel_rfl) (by kernel_rfl) (fun _ _ _ h => h) (Or.inl ⟨by rfl, ?_⟩) hH ?_
            · (intro w' hE'; (try dsimp only at hE'); obtain ⟨hs6, hsw⟩ := hE'; go_simp; try with_reducible rfl)
            try simp only [Act.put, List.setIfInBounds_toArray, List.set_cons_zero, List.set_cons_succ]
            refine wpAnyH_take_dst (i := 2) (v := .pointer (some ⟨Y.g, 6, none⟩)) (d := some 33) rfl rfl (by kernel_rfl) (by kernel_rfl) (by kernel_rfl) (fun _ _ _ h => h) (Or.inl ⟨by rfl, ?_⟩) hH ?_
            · (intro w' hE'; (try dsimp only at hE'); obtain ⟨hs6, hsw⟩ := hE'; go_simp; try with_reducible rfl)
            try simp only [Act.put, List.setIfInBounds_toArray, List.set_cons_zero, List.set_cons_succ]
            refine wpAnyH_take_dst (i := 3) (v := .slice (some ⟨Y.wb, 0, none⟩) Y.k Y.wc) (d := some 34) rfl rfl (by kernel_rfl) (by kernel_rfl) (by kernel_rfl) (fun _ _ _ h => h) (Or.inl ⟨by rfl, ?_⟩) hH ?_
            · (intro w' hE'; (try dsimp only at hE'); obtain ⟨hs6, hsw⟩ := hE'; go_simp; try with_reducible rfl)
            try simp only [Act.put, List.setIfInBounds_toArray, List.set_cons_zero, List.set_cons_succ]
            refine wpAnyH_take_dst (i := 4) (v := .int .i64 (i : Int)) (d := some 35) rfl rfl (by kernel_rfl) (by kernel_rfl) (by kernel_rfl) (fun _ _ _ h => h) (Or.inl ⟨by rfl, ?_⟩) hH ?_
            · (intro w' hE'; (try dsimp only at hE'); obtain ⟨hs6, hsw⟩ := hE'; go_simp; try with_reducible rfl)
            try simp only [Act.put, List.setIfInBounds_toArray, List.set_cons_zero, List.set_cons_succ]
            refine wpAnyH_take_dst (i := 5) (v := .pointer (some ⟨Y.wb, i, none⟩)) (d := some 36) rfl rfl (by kernel_rfl) (by kernel_rfl) (by kernel_rfl) (fun _ _ _ h => h) (Or.inl ⟨by rfl, ?_⟩) hH ?_
            · (intro w' hE'; (try dsimp only at hE'); obtain ⟨hs6, hsw⟩ := hE'; go_simp; try with_reducible rfl)
            try simp only [Act.put, List.setIfInBounds_toArray, List.set_cons_zero, List.set_cons_succ]
            refine wpAnyH_take_dst (i := 6) (v := .slice (some ⟨Y.row i, 0, none⟩) Y.m Y.m) (d := some 37) rfl rfl (by kernel_rfl) (by kernel_rfl) (by kernel_rfl) (fun _ _ _ h => h) (Or.inl ⟨by rfl, ?_⟩) hH ?_
            · (intro w' hE'; (try dsimp only at hE'); obtain ⟨hs6, hsw⟩ := hE'; go_simp; try with_reducible rfl)
            try simp only [Act.put, List.setIfInBounds_toArray, List.set_cons_zero, List.set_cons_succ]
            refine wpAnyH_take_dst (i := 7) (v := .int .i64 (j : Int)) (d := some 38) rfl rfl (by kernel_rfl) (by kernel_rfl) (by kernel_rfl) (fun _ _ _ h => h) (Or.inl ⟨by rfl, ?_⟩) hH ?_
            · (intro w' hE'; (try dsimp only at hE'); obtain ⟨hs6, hsw⟩ := hE'; go_simp; try with_reducible rfl)
            try simp only [Act.put, List.setIfInBounds_toArray, List.set_cons_zero, List.set_cons_succ]
            refine wpAnyH_take_dst (i := 8) (v := .pointer (some ⟨Y.g, 0, none⟩)) (d := some 39) rfl rfl (by kernel_rfl) (by kernel_rfl) (by kernel_rfl) (fun _ _ _ h => h) (Or.inl ⟨by rfl, ?_⟩) hH ?_
            · (intro w' hE'; (try dsimp only at hE'); obtain ⟨hs6, hsw⟩ := hE'; go_simp; try with_reducible rfl)
            try simp only [Act.put, List.setIfInBounds_toArray, List.set_cons_zero, List.set_cons_succ]
            refine wpAnyH_take_dst (i := 9) (v := .int .i64 (i : Int)) (d := some 40) rfl rfl (by kernel_rfl) (by kernel_rfl) (by kernel_rfl) (fun _ _ _ h => h) (Or.inl ⟨by rfl, ?_⟩) hH ?_
            · (intro w' hE'; (try dsimp only at hE'); obtain ⟨hs6, hsw⟩ := hE'; go_simp; try with_reducible rfl)
            try simp only [Act.put, List.setIfInBounds_toArray, List.set_cons_zero, List.set_cons_succ]
            refine wpAnyH_take_dst (i := 10) (v := .int .i64 (j : Int)) (d := some 41) rfl rfl (by kernel_rfl) (by kernel_rfl) (by kernel_rfl) (fun _ _ _ h => h) (Or.inl ⟨by rfl, ?_⟩) hH ?_
            · (intro w' hE'; (try dsimp only at hE'); obtain ⟨hs6, hsw⟩ := hE'; go_simp; try with_reducible rfl)
            try simp only [Act.put, List.setIfInBounds_toArray, List.set_cons_zero, List.set_cons_succ]
            refine wpAnyH_ready (rs := [11]) (by kernel_rfl) (by simp) ?_
            refine AllReadyH.cons rfl (fun K hK => ?_) AllReadyH.nil
            rw [if_pos (by rfl)]
            go_wp2_with fail
            (with_reducible refine (c_l13Reason (V := V) (W := F) HR0.out HP.out (HV.out.ext (Ext.drew (Ext.refl wr))) HA2.out (fun k a ha => .of (HT1.out k a ha)) (fun k b hb => .of (HT2.out k b hb)) (fun k a b ha hb => .of (HT3.out k k a b ha hb))).mono ?_)
            rintro e w9 ⟨rfl, hE9⟩
            refine hK.out _ _ (⟨Ext.keep hE9 hH.1, Ext.keep hE9 hH.2⟩) (fun hH9 => ?_)
            clear hK; have hH0 := hH; clear hH; have hH := hH9; clear hH9
            try simp only [Act.put, List.setIfInBounds_toArray, List.set_cons_zero, List.set_cons_succ]
            refine wpAnyH_take_dst (i := 12) (v := .pointer (some ⟨Y.row i, j, none⟩)) (d := some 43) rfl rfl (by kernel_rfl) (by kernel_rfl) (by kernel_rfl) (fun _ _ _ h => h) (Or.inl ⟨by rfl, ?_⟩) hH ?_
            · (intro w' hE'; (try dsimp only at hE'); obtain ⟨hs6, hsw⟩ := hE'; go_simp; try with_reducible rfl)
            try simp only [Act.put, List.setIfInBounds_toArray, List.set_cons_zero, List.set_cons_succ]
            refine wpAnyH_ready (rs := [13]) (by kernel_rfl) (by simp) ?_
            refine AllReadyH.cons rfl (fun K hK => ?_) AllReadyH.nil
            rw [if_pos (by rfl)]
            have h13 := (HV.out.ext (Ext.trans (Ext.drew (Ext.refl wr)) hE9)).v i j hi' hj'; have f13 := fun j => (HV.out.ext (Ext.trans (Ext.drew (Ext.refl wr)) hE9)).fr i j hi'; go_wp2_with fail
            refine hK.out _ _ (⟨((HV.out.ext (Ext.trans (Ext.drew (Ext.refl wr)) hE9)).put hi' (j := j) (r0 : Int)).c6, ((HV.out.ext (Ext.trans (Ext.drew (Ext.refl wr)) hE9)).put hi' (j := j) (r0 : Int)).wy i hi'⟩) (fun hH9 => ?_)
            clear hK; have hH0 := hH; clear hH; have hH := hH9; clear hH9
            try simp only [Act.put, List.setIfInBounds_toArray, List.set_cons_zero, List.set_cons_succ]
            refine wpAnyH_done (by kernel_rfl) ?_ _
            exact ⟨rfl, (HV.out.ext (Ext.trans (Ext.drew (Ext.refl wr)) hE9)).put hi' (r0 : Int), Ext.set (Ext.trans hE2 (Ext.trans (Ext.drew (Ext.refl wr)) hE9)) (HROW.out i hi') _⟩
          obtain ⟨ha, ⟨hH9, hE9⟩⟩ := hR
          simp only [Act.put, List.setIfInBounds_toArray, List.set_cons_zero, List.set_cons_succ] at ha
          subst ha
          have HN := Lib.hid (show Y.H w9 (putV V i j (r0 : Int)) ∧ Filled Y F (putV V i j (r0 : Int)) i j from ⟨hH9, HFI.out.step _ (by rw [HSI.out, HTJ.out, HRF.out])⟩)
          clear hH9
          go_wp2
          go_roundw
          case rel => exact ⟨i, by first | rfl | (congr 1; omega), by omega, Lib.hid ⟨_, HN.out⟩, hE9⟩
          case measure => simp only [intOf]; omega

end Go.Proofs.Ytejmlbcafemieaa
