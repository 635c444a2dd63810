/- Several texts in one: LpsB. -/
import Derived.Test.YtdlgjhngndpgoaaQ30
namespace Go.Proofs.Ytdlgjhngndpgoaa
open Go.RowKit
set_option linter.unusedSimpArgs false
set_option linter.unusedVariables false
def flB (b : Bool) : Int := if b = true then 1 else 0
theorem flB_eq {b : Bool} {W : Tm → Tm → Nat} {t s : Tm} (h : b = decide (0 < W t s)) : flB b = (flagN W t s : Int) := by
  unfold flB flagN
  rw [h]
  by_cases h0 : 0 < W t s
  · rw [if_pos h0, if_pos (decide_eq_true h0)]; rfl
  · rw [if_neg h0, if_neg (by rw [decide_eq_false h0]; decide)]; rfl
theorem c_l1Flag (b : Bool) {w : World} : Calls Try.prog 61 #[.bool b] w fun e w' => e = .returned (.int .i64 (flB b)) ∧ Ext w w' := by
  cases b with
  | true =>
    go_enter Try.func61, Try.ntmps61
    go_wp2
    go_ret
    exact ⟨rfl, Ext.refl _⟩
  | false =>
    go_enter Try.func61, Try.ntmps61
    go_wp2
    go_ret
    exact ⟨rfl, Ext.refl _⟩
theorem lq31 : (∀ (l : List Value) (i : Nat) (a : Value), l.toArray.setIfInBounds i a = (l.set i a).toArray) ∧ (∀ (x y : Value) (l : List Value), (x :: l).set 0 y = y :: l) ∧ (∀ (x y : Value) (l : List Value) (n : Nat), (x :: l).set (n + 1) y = x :: l.set n y) := ⟨fun l i a => by simp, fun _ _ _ => rfl, fun _ _ _ _ => rfl⟩
theorem z0q31 {p : Prop} (h : p := by (intro w' hE'; (try dsimp only at hE'); obtain ⟨hs6, hsw⟩ := hE'; go_simp; try with_reducible rfl)) : p := h
theorem z1q31 {p : Prop} (h : p := by (intro w hSw; (try dsimp only at hSw); go_split_ands; go_simp; try with_reducible rfl)) : p := h
set_option maxRecDepth 100000 in
set_option maxHeartbeats 8000000 in
theorem c_l13Bag {ar rk s t : List Int} {A : Option Addr} {n c : Nat} {R : Option Addr} {rn rc : Nat} {B : Option Addr} {m d : Nat} {D : Option Addr} {k l : Nat} {w : World} (hs : SigP ar) (hrl : rk.length = ar.length) (ht : TermP ar t) (hss : TermP ar s)
    (ha : RI w A n ar) (hr : RI w R rn rk) (hB : RI w B m t) (hD : RI w D k s) (hmd : m ≤ d ∧ d ≤ 9223372036854775807) (hkl : k ≤ l ∧ l ≤ 9223372036854775807) :
    Calls Try.prog 32 #[.agg #[.slice A n c], .slice R rn rc, .slice D k l, .slice B m d] w fun e w' => e = .returned (.bool (decide (0 < lpoW (rkF rk) false (subT ar t 0) (subT ar s 0)))) ∧ Ext w w' := by
  have hm60 : m ≤ 60 := by rw [← hB.len]; exact ht.2.1.2
  have hk60 : k ≤ 60 := by rw [← hD.len]; exact hss.2.1.2
  have HA := Lib.hid ha
  have HR := Lib.hid hr
  have HB := Lib.hid hB
  have HD := Lib.hid hD
  have HS := Lib.hid hs
  have HT := Lib.hid ht
  have HSS := Lib.hid hss
  have HRL := Lib.hid hrl
  have HMD := Lib.hid hmd
  have HKL := Lib.hid hkl
  clear ha hr hB hD hs hrl ht hss hmd hkl
  go_enter Try.func32, Try.ntmps32
  go_wp2_with fail
  (with_reducible refine (c_l13Make HS.out HRL.out HT.out HSS.out (RI.ext HA.out (by exact extX)) (RI.ext HR.out (by exact extX)) (RI.ext HB.out (by exact extX)) (RI.ext HD.out (by exact extX)) HMD.out HKL.out).mono ?_)
  rintro e w1 ⟨Y, rfl, hP, hH, ⟨rfl, rfl, rfl, rfl⟩, hrow, hE1⟩
  obtain rfl : k = Y.k := by rw [← HD.out.len, hH.s.len]
  obtain rfl : m = Y.m := by rw [← HB.out.len, hH.t.len]
  have hE1w : Ext w w1 := Ext.trans (by exact extX) hE1
  have HP := Lib.hid hP
  have HROW := Lib.hid (show ∀ i, i < Y.k → w.heap.size ≤ Y.row i from fun i hi => by have := hrow i hi; simp [go_sem] at this; omega)
  have HH := Lib.hid hH
  obtain ⟨F, hF⟩ : ∃ F, F = flagN (lpoW (rkF Y.rk) false) := ⟨_, rfl⟩
  have HF := Lib.hid hF
  clear hP hH hrow hF hE1
  go_wp2_with fail
  go_loopw [10] (fun jv wr => ∃ p : Nat, jv = .int .i64 ((p : Int) - 1) ∧ p ≤ Y.m ∧ Hid (∃ V, Y.H wr V ∧ Filled Y F V 0 p) ∧ Ext w wr) (fun jv _ => (intOf jv + 1).toNat)
  case atStart => exact ⟨Y.m, rfl, Nat.le_refl _, Lib.hid ⟨_, HH.out, fun a b ha hb hab => by rw [HH.out.t.len] at hb; omega⟩, hE1w⟩
  case round =>
    obtain ⟨p, rfl, hp, hV, hE⟩ := hrel
    cases p with
    | zero =>
      obtain ⟨V, h1, h2⟩ := hV.out
      obtain ⟨⟨q1, q2⟩, q3, q4⟩ := h1.out HP.out h2
      have c6 := h1.c6
      go_wp2
      go_ret
      exact ⟨ret_bool (by rw [HF.out]; unfold flagN; split <;> simp_all), hE⟩
    | succ j =>
      obtain ⟨wj, rfl⟩ : ∃ wj : World, wj = wr := ⟨_, rfl⟩
      have hj1 : ((j + 1 : Nat) : Int) - 1 = (j : Int) := by omega
      have hj0 : (0 : Int) ≤ (j : Int) := by omega
      have hjm : (j : Int) < (Y.m : Int) := by omega
      rw [hj1]
      clear hj1
      go_wp2_with fail
      go_loopw [11] (fun iv wr => ∃ r : Nat, iv = .int .i64 ((r : Int) - 1) ∧ r ≤ Y.k ∧ Hid (∃ V, Y.H wr V ∧ Filled Y F V r j) ∧ Ext w wr) (fun iv _ => (intOf iv + 1).toNat)
      case atStart => exact ⟨Y.k, rfl, Nat.le_refl _, Lib.hid (by obtain ⟨V, h1, h2⟩ := hV.out; exact ⟨V, h1, by have := h2.next; rw [h1.s.len] at this; exact this⟩), hE⟩
      case round =>
        obtain ⟨r, rfl, hr, hV2, hE2⟩ := hrel
        cases r with
        | zero =>
          go_wp2
          go_roundw
          case rel => exact ⟨j, by first | rfl | (congr 1; omega), by omega, hV2, hE2⟩
          case measure => simp only [intOf]; omega
        | succ i =>
          have hi1 : ((i + 1 : Nat) : Int) - 1 = (i : Int) := by omega
          have hi0 : (0 : Int) ≤ (i : Int) := by omega
          have hik : (i : Int) < (Y.k : Int) := by omega
          rw [hi1]
          clear hi1
          obtain ⟨V, h1, h2⟩ := hV2.out
          have hil : i < Y.s.length := by rw [h1.s.len]; omega
          have hjl : j < Y.t.length := by rw [h1.t.len]; omega
          obtain ⟨⟨y, ss⟩, hsi⟩ : ∃ u, subT Y.ar Y.s i = u := ⟨_, rfl⟩
          obtain ⟨⟨x, us⟩, htj⟩ : ∃ u, subT Y.ar Y.t j = u := ⟨_, rfl⟩
          have hA : Y.At i j y ss x us := ⟨hil, hjl, hsi, htj⟩
          have HA2 := Lib.hid hA
          have HV := Lib.hid h1
          have HFI := Lib.hid h2
          have c6 := h1.c6
          have cw := h1.wy i (by omega)
          have hi' : i < Y.k := by omega
          have hj' : j < Y.m := by omega
          have hft1 : ∀ k a, us[k]? = some a → V i (pl j us k) = (F a (.node y ss) : Int) := fun k a ha => by
            obtain ⟨g1, g2⟩ := hA.pt HP.out ha
            exact h2.at_ hil g1 hsi g2 (.inl pl_lt)
          have hft2 : ∀ k b, ss[k]? = some b → V (pl i ss k) j = (F (.node x us) b : Int) := fun k b hb => by
            obtain ⟨g1, g2⟩ := hA.ps HP.out hb
            exact h2.at_ g1 hjl g2 htj (.inr ⟨rfl, pl_lt⟩)
          have hft3 : ∀ k q a b, us[k]? = some a → ss[q]? = some b → V (pl i ss q) (pl j us k) = (F a b : Int) := fun k q a b ha hb => by
            obtain ⟨g1, g2⟩ := hA.pt HP.out ha
            obtain ⟨g3, g4⟩ := hA.ps HP.out hb
            exact h2.at_ g3 g1 g4 g2 (.inl pl_lt)
          have HT1 := Lib.hid hft1
          have HT2 := Lib.hid hft2
          have HT3 := Lib.hid hft3
          have HSI := Lib.hid hsi
          have HTJ := Lib.hid htj
          clear h1 h2 hA hsi htj hil hjl hft1 hft2 hft3 hV2
          obtain ⟨b8, o8, z8, rfl, hz8, hcy⟩ := RI.at_ (HD.out.ext hE2) hi'
          obtain ⟨b9, o9, z9, rfl, hz9, hcx⟩ := RI.at_ (HB.out.ext hE2) hj'
          obtain ⟨g1, rest1, g2⟩ := subT_ok HP.out.ts HA2.out.hi
          rw [HSI.out] at g2
          rw [at_of g2] at hz8; cases hz8
          obtain ⟨g3, rest2, g4⟩ := subT_ok HP.out.tt HA2.out.hj
          rw [HTJ.out] at g4
          rw [at_of g4] at hz9; cases hz9
          clear g1 g2 g3 g4
          obtain ⟨WW, hWW⟩ : ∃ WW, WW = lpoW (rkF Y.rk) false := ⟨_, rfl⟩
          have HWF := Lib.hid (show F = flagN WW by rw [HF.out, hWW])
          have HWE := Lib.hid (show WW (.node x us) (.node y ss) = lpoB (rkF Y.rk) false WW (.node x us) (.node y ss) by rw [hWW]; exact lpoW_eq _ _ _ _)
          have HWW := Lib.hid hWW
          rw [HWF.out] at HT1 HT2 HT3
          have hxn := arI_lt (Ok_node.1 (HA2.out.ok HP.out).2).1
          have hyn := arI_lt (Ok_node.1 (HA2.out.ok HP.out).1).1
          have hal : Y.ar.length = Y.n := HV.out.a.len
          have hrl : Y.rk.length = rn := HR.out.len
          have hra := HRL.out
          have hxn2 : x < (rn : Int) := by omega
          have hyn2 : y < (rn : Int) := by omega
          have HXY := Lib.hid (show x = y → us.length = ss.length from by
            rintro rfl
            have e1 := (Ok_node.1 (HA2.out.ok HP.out).1).1
            rw [(Ok_node.1 (HA2.out.ok HP.out).2).1] at e1
            injection e1 with e1)
          clear hWW hxn hyn hal hrl hra
          have hnd1 := HB.out.len
          have hdj : (j : Int) < (Y.m : Int) := hjm
          cases hag : argG WW us (.node y ss) with
          | true =>
            have HAG := Lib.hid hag
            have hx0 : 0 ≤ x := by
              rcases Int.lt_or_le x 0 with hx | hx
              · exfalso
                have e := (Ok_node.1 (HA2.out.ok HP.out).2).1
                unfold arI at e; rw [if_pos hx] at e
                have e2 : us.length = 0 := by injection e with e; exact e.symm
                rw [List.length_eq_zero_iff.1 e2] at hag
                cases hag
              · exact hx
            have HBB := Lib.hid (show true = decide (0 < WW (.node x us) (.node y ss)) by rw [HWE.out, lpoB_1 hx0 HAG.out]; rfl)
            clear hag
            by_cases hy0 : 0 ≤ y
            · have hd1 : decide (0 ≤ y) = true := by simpa using hy0
              have hd2 : decide (0 ≤ x) = true := by simpa using hx0
              go_wp2_with fail
              (with_reducible refine (c_l13Arg (V := V) (W := WW) HAG.out HP.out HV.out HA2.out (fun k a ha => .flag (HT1.out k a ha))).mono ?_)
              rintro e w2 ⟨rfl, hE2b⟩
              have hE5w : Ext w w2 := Ext.trans hE2 hE2b
              have HV5 := Lib.hid (HV.out.ext hE2b)
              have c6b := HV5.out.c6
              have cwb := HV5.out.wy i hi'
              go_wp2_with fail
              refine wp_only (R := fun (a0 : Act) (a8 : Act) (w9 : World) => a8 = (((((((((((a0.put (some 82) (.pointer (some ⟨Y.g, 0, none⟩))).put (some 83) (.pointer (some ⟨Y.g, 0, none⟩))).put (some 84) (.pointer (some ⟨Y.g, 6, none⟩))).put (some 85) (.slice (some ⟨Y.wb, 0, none⟩) Y.k Y.wc)).put (some 86) (.int .i64 (i : Int))).put (some 87) (.pointer (some ⟨Y.wb, i, none⟩))).put (some 88) (.slice (some ⟨Y.row i, 0, none⟩) Y.m Y.m)).put (some 89) (.int .i64 (j : Int))).put (some 90) (.bool true)).put (some 91) (.int .i64 (flB true))).put (some 92) (.pointer (some ⟨Y.row i, j, none⟩))) ∧ Y.H w9 (putV V i j (flB true)) ∧ Ext w w9) ?_ (fun a8 w9 hR => ?_)
              · refine wp_region_held_drew (S := (fun w' => w'.cell? ⟨Y.g, 6, none⟩ = some (.slice (some ⟨Y.wb, 0, none⟩) Y.k Y.wc) ∧ w'.cell? ⟨Y.wb, i, none⟩ = some (.slice (some ⟨Y.row i, 0, none⟩) Y.m Y.m))) (by kernel_rfl) (⟨c6b, cwb⟩) (fun hH => ?_)
                refine wpAnyH_take_dst (i := 0) (v := .pointer (some ⟨Y.g, 0, none⟩)) (d := some 82) rfl rfl (by kernel_rfl) (by kernel_rfl) (by kernel_rfl) (fun _ _ _ h => h) (Or.inl ⟨by rfl, ?_⟩) hH ?_
                · exact z0q31
                try simp only [Act.put, lq31]
                refine wpAnyH_take_dst (i := 1) (v := .pointer (some ⟨Y.g, 0, none⟩)) (d := some 83) rfl rfl (by kernel_rfl) (by kernel_rfl) (by kernel_rfl) (fun _ _ _ h => h) (Or.inl ⟨by rfl, ?_⟩) hH ?_
                · exact z0q31
                try simp only [Act.put, lq31]
                refine wpAnyH_take_dst (i := 2) (v := .pointer (some ⟨Y.g, 6, none⟩)) (d := some 84) rfl rfl (by kernel_rfl) (by kernel_rfl) (by kernel_rfl) (fun _ _ _ h => h) (Or.inl ⟨by rfl, ?_⟩) hH ?_
                · exact z0q31
                try simp only [Act.put, lq31]
                refine wpAnyH_take_dst (i := 3) (v := .slice (some ⟨Y.wb, 0, none⟩) Y.k Y.wc) (d := some 85) rfl rfl (by kernel_rfl) (by kernel_rfl) (by kernel_rfl) (fun _ _ _ h => h) (Or.inl ⟨by rfl, ?_⟩) hH ?_
                · exact z0q31
                try simp only [Act.put, lq31]
                refine wpAnyH_take_dst (i := 4) (v := .int .i64 (i : Int)) (d := some 86) rfl rfl (by kernel_rfl) (by kernel_rfl) (by kernel_rfl) (fun _ _ _ h => h) (Or.inl ⟨by rfl, ?_⟩) hH ?_
                · exact z0q31
                try simp only [Act.put, lq31]
                refine wpAnyH_take_dst (i := 5) (v := .pointer (some ⟨Y.wb, i, none⟩)) (d := some 87) rfl rfl (by kernel_rfl) (by kernel_rfl) (by kernel_rfl) (fun _ _ _ h => h) (Or.inl ⟨by rfl, ?_⟩) hH ?_
                · exact z0q31
                try simp only [Act.put, lq31]
                refine wpAnyH_take_dst (i := 6) (v := .slice (some ⟨Y.row i, 0, none⟩) Y.m Y.m) (d := some 88) rfl rfl (by kernel_rfl) (by kernel_rfl) (by kernel_rfl) (fun _ _ _ h => h) (Or.inl ⟨by rfl, ?_⟩) hH ?_
                · exact z0q31
                try simp only [Act.put, lq31]
                refine wpAnyH_take_dst (i := 7) (v := .int .i64 (j : Int)) (d := some 89) rfl rfl (by kernel_rfl) (by kernel_rfl) (by kernel_rfl) (fun _ _ _ h => h) (Or.inl ⟨by rfl, ?_⟩) hH ?_
                · exact z0q31
                try simp only [Act.put, lq31]
                refine wpAnyH_take_dst (i := 8) (v := .bool true) (d := some 90) rfl rfl (by kernel_rfl) (by kernel_rfl) (by kernel_rfl) (fun _ _ _ h => h) (Or.inl ⟨by rfl, ?_⟩) hH ?_
                · exact z0q31
                try simp only [Act.put, lq31]
                refine wpAnyH_ready (rs := [9]) (by kernel_rfl) (by simp) ?_
                refine AllReadyH.cons rfl (fun K hK => ?_) AllReadyH.nil
                rw [if_pos (by rfl)]
                go_wp2_with fail
                (with_reducible refine (c_l1Flag true).mono ?_)
                rintro e w9 ⟨rfl, hE9⟩
                refine hK.out _ _ (⟨Ext.keep hE9 hH.1, Ext.keep hE9 hH.2⟩) (fun hH9 => ?_)
                clear hK; have hH0 := hH; clear hH; have hH := hH9; clear hH9
                try simp only [Act.put, lq31]
                refine wpAnyH_take_dst (i := 10) (v := .pointer (some ⟨Y.row i, j, none⟩)) (d := some 92) rfl rfl (by kernel_rfl) (by kernel_rfl) (by kernel_rfl) (fun _ _ _ h => h) (Or.inl ⟨by rfl, ?_⟩) hH ?_
                · exact z0q31
                try simp only [Act.put, lq31]
                refine wpAnyH_ready (rs := [11]) (by kernel_rfl) (by simp) ?_
                refine AllReadyH.cons rfl (fun K hK => ?_) AllReadyH.nil
                rw [if_pos (by rfl)]
                have h13 := (HV5.out.ext (Ext.trans (Ext.drew (Ext.refl w2)) hE9)).v i j hi' hj'; have f13 := fun j => (HV5.out.ext (Ext.trans (Ext.drew (Ext.refl w2)) hE9)).fr i j hi'; go_wp2_with fail
                refine hK.out _ _ (⟨((HV5.out.ext (Ext.trans (Ext.drew (Ext.refl w2)) hE9)).put hi' (j := j) (flB true)).c6, ((HV5.out.ext (Ext.trans (Ext.drew (Ext.refl w2)) hE9)).put hi' (j := j) (flB true)).wy i hi'⟩) (fun hH9 => ?_)
                clear hK; have hH0 := hH; clear hH; have hH := hH9; clear hH9
                try simp only [Act.put, lq31]
                refine wpAnyH_done (by kernel_rfl) ?_ _
                exact ⟨rfl, (HV5.out.ext (Ext.trans (Ext.drew (Ext.refl w2)) hE9)).put hi' (flB true), Ext.set (Ext.trans hE5w (Ext.trans (Ext.drew (Ext.refl w2)) hE9)) (HROW.out i hi') _⟩
              obtain ⟨ha, ⟨hH9, hE9⟩⟩ := hR
              simp only [Act.put, lq31] at ha
              subst ha
              have HN := Lib.hid (show Y.H w9 (putV V i j (flB true)) ∧ Filled Y F (putV V i j (flB true)) i j from ⟨hH9, HFI.out.step _ (by rw [HSI.out, HTJ.out, HWF.out]; exact flB_eq HBB.out)⟩)
              clear hH9
              go_wp2
              go_roundw
              case rel => exact ⟨i, by first | rfl | (congr 1; omega), by omega, Lib.hid ⟨_, HN.out⟩, hE9⟩
              case measure => simp only [intOf]; omega
            · have hd1 : decide (0 ≤ y) = false := by simpa using hy0
              go_wp2_with fail
              (with_reducible refine (c_l13Arg (V := V) (W := WW) HAG.out HP.out HV.out HA2.out (fun k a ha => .flag (HT1.out k a ha))).mono ?_)
              rintro e w2 ⟨rfl, hE2b⟩
              have hE5w : Ext w w2 := Ext.trans hE2 hE2b
              have HV5 := Lib.hid (HV.out.ext hE2b)
              have c6b := HV5.out.c6
              have cwb := HV5.out.wy i hi'
              go_wp2_with fail
              refine wp_only (R := fun (a0 : Act) (a8 : Act) (w9 : World) => a8 = (((((((((((a0.put (some 82) (.pointer (some ⟨Y.g, 0, none⟩))).put (some 83) (.pointer (some ⟨Y.g, 0, none⟩))).put (some 84) (.pointer (some ⟨Y.g, 6, none⟩))).put (some 85) (.slice (some ⟨Y.wb, 0, none⟩) Y.k Y.wc)).put (some 86) (.int .i64 (i : Int))).put (some 87) (.pointer (some ⟨Y.wb, i, none⟩))).put (some 88) (.slice (some ⟨Y.row i, 0, none⟩) Y.m Y.m)).put (some 89) (.int .i64 (j : Int))).put (some 90) (.bool true)).put (some 91) (.int .i64 (flB true))).put (some 92) (.pointer (some ⟨Y.row i, j, none⟩))) ∧ Y.H w9 (putV V i j (flB true)) ∧ Ext w w9) ?_ (fun a8 w9 hR => ?_)
              · refine wp_region_held_drew (S := (fun w' => w'.cell? ⟨Y.g, 6, none⟩ = some (.slice (some ⟨Y.wb, 0, none⟩) Y.k Y.wc) ∧ w'.cell? ⟨Y.wb, i, none⟩ = some (.slice (some ⟨Y.row i, 0, none⟩) Y.m Y.m))) (by kernel_rfl) (⟨c6b, cwb⟩) (fun hH => ?_)
                refine wpAnyH_take_dst (i := 0) (v := .pointer (some ⟨Y.g, 0, none⟩)) (d := some 82) rfl rfl (by kernel_rfl) (by kernel_rfl) (by kernel_rfl) (fun _ _ _ h => h) (Or.inl ⟨by rfl, ?_⟩) hH ?_
                · exact z0q31
                try simp only [Act.put, lq31]
                refine wpAnyH_take_dst (i := 1) (v := .pointer (some ⟨Y.g, 0, none⟩)) (d := some 83) rfl rfl (by kernel_rfl) (by kernel_rfl) (by kernel_rfl) (fun _ _ _ h => h) (Or.inl ⟨by rfl, ?_⟩) hH ?_
                · exact z0q31
                try simp only [Act.put, lq31]
                refine wpAnyH_take_dst (i := 2) (v := .pointer (some ⟨Y.g, 6, none⟩)) (d := some 84) rfl rfl (by kernel_rfl) (by kernel_rfl) (by kernel_rfl) (fun _ _ _ h => h) (Or.inl ⟨by rfl, ?_⟩) hH ?_
                · exact z0q31
                try simp only [Act.put, lq31]
                refine wpAnyH_take_dst (i := 3) (v := .slice (some ⟨Y.wb, 0, none⟩) Y.k Y.wc) (d := some 85) rfl rfl (by kernel_rfl) (by kernel_rfl) (by kernel_rfl) (fun _ _ _ h => h) (Or.inl ⟨by rfl, ?_⟩) hH ?_
                · exact z0q31
                try simp only [Act.put, lq31]
                refine wpAnyH_take_dst (i := 4) (v := .int .i64 (i : Int)) (d := some 86) rfl rfl (by kernel_rfl) (by kernel_rfl) (by kernel_rfl) (fun _ _ _ h => h) (Or.inl ⟨by rfl, ?_⟩) hH ?_
                · exact z0q31
                try simp only [Act.put, lq31]
                refine wpAnyH_take_dst (i := 5) (v := .pointer (some ⟨Y.wb, i, none⟩)) (d := some 87) rfl rfl (by kernel_rfl) (by kernel_rfl) (by kernel_rfl) (fun _ _ _ h => h) (Or.inl ⟨by rfl, ?_⟩) hH ?_
                · exact z0q31
                try simp only [Act.put, lq31]
                refine wpAnyH_take_dst (i := 6) (v := .slice (some ⟨Y.row i, 0, none⟩) Y.m Y.m) (d := some 88) rfl rfl (by kernel_rfl) (by kernel_rfl) (by kernel_rfl) (fun _ _ _ h => h) (Or.inl ⟨by rfl, ?_⟩) hH ?_
                · exact z0q31
                try simp only [Act.put, lq31]
                refine wpAnyH_take_dst (i := 7) (v := .int .i64 (j : Int)) (d := some 89) rfl rfl (by kernel_rfl) (by kernel_rfl) (by kernel_rfl) (fun _ _ _ h => h) (Or.inl ⟨by rfl, ?_⟩) hH ?_
                · exact z0q31
                try simp only [Act.put, lq31]
                refine wpAnyH_take_dst (i := 8) (v := .bool true) (d := some 90) rfl rfl (by kernel_rfl) (by kernel_rfl) (by kernel_rfl) (fun _ _ _ h => h) (Or.inl ⟨by rfl, ?_⟩) hH ?_
                · exact z0q31
                try simp only [Act.put, lq31]
                refine wpAnyH_ready (rs := [9]) (by kernel_rfl) (by simp) ?_
                refine AllReadyH.cons rfl (fun K hK => ?_) AllReadyH.nil
                rw [if_pos (by rfl)]
                go_wp2_with fail
                (with_reducible refine (c_l1Flag true).mono ?_)
                rintro e w9 ⟨rfl, hE9⟩
                refine hK.out _ _ (⟨Ext.keep hE9 hH.1, Ext.keep hE9 hH.2⟩) (fun hH9 => ?_)
                clear hK; have hH0 := hH; clear hH; have hH := hH9; clear hH9
                try simp only [Act.put, lq31]
                refine wpAnyH_take_dst (i := 10) (v := .pointer (some ⟨Y.row i, j, none⟩)) (d := some 92) rfl rfl (by kernel_rfl) (by kernel_rfl) (by kernel_rfl) (fun _ _ _ h => h) (Or.inl ⟨by rfl, ?_⟩) hH ?_
                · exact z0q31
                try simp only [Act.put, lq31]
                refine wpAnyH_ready (rs := [11]) (by kernel_rfl) (by simp) ?_
                refine AllReadyH.cons rfl (fun K hK => ?_) AllReadyH.nil
                rw [if_pos (by rfl)]
                have h13 := (HV5.out.ext (Ext.trans (Ext.drew (Ext.refl w2)) hE9)).v i j hi' hj'; have f13 := fun j => (HV5.out.ext (Ext.trans (Ext.drew (Ext.refl w2)) hE9)).fr i j hi'; go_wp2_with fail
                refine hK.out _ _ (⟨((HV5.out.ext (Ext.trans (Ext.drew (Ext.refl w2)) hE9)).put hi' (j := j) (flB true)).c6, ((HV5.out.ext (Ext.trans (Ext.drew (Ext.refl w2)) hE9)).put hi' (j := j) (flB true)).wy i hi'⟩) (fun hH9 => ?_)
                clear hK; have hH0 := hH; clear hH; have hH := hH9; clear hH9
                try simp only [Act.put, lq31]
                refine wpAnyH_done (by kernel_rfl) ?_ _
                exact ⟨rfl, (HV5.out.ext (Ext.trans (Ext.drew (Ext.refl w2)) hE9)).put hi' (flB true), Ext.set (Ext.trans hE5w (Ext.trans (Ext.drew (Ext.refl w2)) hE9)) (HROW.out i hi') _⟩
              obtain ⟨ha, ⟨hH9, hE9⟩⟩ := hR
              simp only [Act.put, lq31] at ha
              subst ha
              have HN := Lib.hid (show Y.H w9 (putV V i j (flB true)) ∧ Filled Y F (putV V i j (flB true)) i j from ⟨hH9, HFI.out.step _ (by rw [HSI.out, HTJ.out, HWF.out]; exact flB_eq HBB.out)⟩)
              clear hH9
              go_wp2
              go_roundw
              case rel => exact ⟨i, by first | rfl | (congr 1; omega), by omega, Lib.hid ⟨_, HN.out⟩, hE9⟩
              case measure => simp only [intOf]; omega
          | false =>
            have HAG := Lib.hid hag
            clear hag
            by_cases hy0 : 0 ≤ y
            · have hd1 : decide (0 ≤ y) = true := by simpa using hy0
              by_cases hx0 : 0 ≤ x
              · have hd2 : decide (0 ≤ x) = true := by simpa using hx0
                obtain ⟨x0, rfl⟩ := Int.eq_ofNat_of_zero_le hx0
                obtain ⟨y0, rfl⟩ := Int.eq_ofNat_of_zero_le hy0
                have HREST := Lib.hid (HWE.out.trans ((lpoB_rest (by omega) HAG.out).trans (if_neg (by omega))))
                obtain ⟨b5, o5, zx, rfl, hzx, d7⟩ := RI.at_ HR.out (show x0 < rn by omega)
                obtain ⟨b7, o7, zy, e7, hzy, d8⟩ := RI.at_ HR.out (show y0 < rn by omega)
                cases e7
                have HKX := Lib.hid (show rkF Y.rk (x0 : Int) = zx by unfold rkF; rw [Int.toNat_natCast, List.getD_eq_getElem?_getD, hzx]; rfl)
                have HKY := Lib.hid (show rkF Y.rk (y0 : Int) = zy by unfold rkF; rw [Int.toNat_natCast, List.getD_eq_getElem?_getD, hzy]; rfl)
                clear hzx hzy
                by_cases hxy : x0 = y0
                · subst hxy
                  have hzz : zy = zx := by rw [d7] at d8; injection d8 with d8; injection d8 with _ d8; exact d8.symm
                  subst hzz
                  have HLEN := Lib.hid (HXY.out rfl)
                  have HR2 := Lib.hid (HREST.out.trans (if_pos rfl))
                  have hdl : decide (zy < zy) = false := by simp
                  have hxe : ((x0 : Int) == (x0 : Int)) = true := by simp
                  cases hbg : bagG WW us ss with
                  | true =>
                    have HBG := Lib.hid hbg
                    have HBB := Lib.hid (show true = decide (0 < WW (.node (x0 : Int) us) (.node (x0 : Int) ss)) by rw [HR2.out]; simp [hbg])
                    clear hbg
                    go_wp2_with fail
                    (with_reducible refine (c_l13Arg (V := V) (W := WW) HAG.out HP.out HV.out HA2.out (fun k a ha => .flag (HT1.out k a ha))).mono ?_)
                    rintro e w2 ⟨rfl, hE2b⟩
                    have hE5w : Ext w w2 := Ext.trans hE2 hE2b
                    have HV5 := Lib.hid (HV.out.ext hE2b)
                    have HV2 := HV5
                    have d71 := Ext.keep hE5w d7
                    have d81 := Ext.keep hE5w d8
                    go_wp2_with fail
                    refine wp_region_held_drew (S := (fun w' => Ext w2 w' ∧ w'.cell? ⟨b5, o5 + x0, none⟩ = some (.int .i64 zy) ∧ w'.cell? ⟨b5, o5 + x0, none⟩ = some (.int .i64 zy))) (by kernel_rfl) ?_ (fun hH => ?_)
                    · exact ⟨(Ext.refl w2).drew, d71, d81⟩
                    refine wpAnyH_take_dst (i := 0) (v := .int .i64 (x0 : Int)) (d := some 56) rfl rfl (by kernel_rfl) (by kernel_rfl) (by kernel_rfl) (fun _ _ _ h => h) (Or.inl ⟨by rfl, ?_⟩) hH ?_
                    · exact z1q31
                    try simp only [Act.put, lq31]
                    refine wpAnyH_take_dst (i := 1) (v := .int .i64 (x0 : Int)) (d := some 57) rfl rfl (by kernel_rfl) (by kernel_rfl) (by kernel_rfl) (fun _ _ _ h => h) (Or.inl ⟨by rfl, ?_⟩) hH ?_
                    · exact z1q31
                    try simp only [Act.put, lq31]
                    refine wpAnyH_take_dst (i := 2) (v := .bool true) (d := some 58) rfl rfl (by kernel_rfl) (by kernel_rfl) (by kernel_rfl) (fun _ _ _ h => h) (Or.inl ⟨by rfl, ?_⟩) hH ?_
                    · exact z1q31
                    try simp only [Act.put, lq31]
                    refine wpAnyH_take_dst (i := 3) (v := .bool true) (d := some 59) rfl rfl (by kernel_rfl) (by kernel_rfl) (by kernel_rfl) (fun _ _ _ h => h) (Or.inl ⟨by rfl, ?_⟩) hH ?_
                    · exact z1q31
                    try simp only [Act.put, lq31]
                    refine wpAnyH_take_dst (i := 4) (v := .pointer (some ⟨Y.g, 0, none⟩)) (d := some 60) rfl rfl (by kernel_rfl) (by kernel_rfl) (by kernel_rfl) (fun _ _ _ h => h) (Or.inl ⟨by rfl, ?_⟩) hH ?_
                    · exact z1q31
                    try simp only [Act.put, lq31]
                    refine wpAnyH_take_dst (i := 5) (v := .int .i64 (i : Int)) (d := some 61) rfl rfl (by kernel_rfl) (by kernel_rfl) (by kernel_rfl) (fun _ _ _ h => h) (Or.inl ⟨by rfl, ?_⟩) hH ?_
                    · exact z1q31
                    try simp only [Act.put, lq31]
                    refine wpAnyH_take_dst (i := 6) (v := .int .i64 (j : Int)) (d := some 62) rfl rfl (by kernel_rfl) (by kernel_rfl) (by kernel_rfl) (fun _ _ _ h => h) (Or.inl ⟨by rfl, ?_⟩) hH ?_
                    · exact z1q31
                    try simp only [Act.put, lq31]
                    refine wpAnyH_ready (rs := [7]) (by kernel_rfl) (by simp) ?_
                    refine AllReadyH.cons rfl (fun K hK => ?_) AllReadyH.nil
                    rw [if_pos (by rfl)]
                    go_wp2_with (go_at_call 59; (with_reducible refine ((c_l13Bags (V := V) (W := WW) HBG.out HP.out (HV2.out.ext hH.1) HA2.out HLEN.out (fun k q a b ha hb => .flag (HT3.out k q a b ha hb)))).mono ?_); rintro e w3 ⟨rfl, hE9⟩)
                    refine hK.out _ _ ⟨Ext.trans hH.1 hE9, Ext.keep hE9 hH.2.1, Ext.keep hE9 hH.2.2⟩ (fun hH9 => ?_)
                    clear hK hH; have hH := hH9; clear hH9
                    try simp only [Act.put, lq31]
                    refine wpAnyH_take_dst (i := 8) (v := .bool true) (d := some 64) rfl rfl (by kernel_rfl) (by kernel_rfl) (by kernel_rfl) (fun _ _ _ h => h) (Or.inl ⟨by rfl, ?_⟩) hH ?_
                    · exact z1q31
                    try simp only [Act.put, lq31]
                    refine wpAnyH_take_dst (i := 9) (v := .bool true) (d := some 65) rfl rfl (by kernel_rfl) (by kernel_rfl) (by kernel_rfl) (fun _ _ _ h => h) (Or.inl ⟨by rfl, ?_⟩) hH ?_
                    · exact z1q31
                    try simp only [Act.put, lq31]
                    refine wpAnyH_take_dst (i := 10) (v := undef) (d := some 66) rfl rfl (by kernel_rfl) (by kernel_rfl) (by kernel_rfl) (fun _ _ _ h => h) (Or.inr ⟨by rfl, rfl⟩) hH ?_
                    try simp only [Act.put, lq31]
                    refine wpAnyH_take_dst (i := 11) (v := undef) (d := some 67) rfl rfl (by kernel_rfl) (by kernel_rfl) (by kernel_rfl) (fun _ _ _ h => h) (Or.inr ⟨by rfl, rfl⟩) hH ?_
                    try simp only [Act.put, lq31]
                    refine wpAnyH_take_dst (i := 12) (v := undef) (d := some 68) rfl rfl (by kernel_rfl) (by kernel_rfl) (by kernel_rfl) (fun _ _ _ h => h) (Or.inr ⟨by rfl, rfl⟩) hH ?_
                    try simp only [Act.put, lq31]
                    refine wpAnyH_take_dst (i := 13) (v := undef) (d := some 69) rfl rfl (by kernel_rfl) (by kernel_rfl) (by kernel_rfl) (fun _ _ _ h => h) (Or.inr ⟨by rfl, rfl⟩) hH ?_
                    try simp only [Act.put, lq31]
                    refine wpAnyH_take_dst (i := 14) (v := undef) (d := some 70) rfl rfl (by kernel_rfl) (by kernel_rfl) (by kernel_rfl) (fun _ _ _ h => h) (Or.inr ⟨by rfl, rfl⟩) hH ?_
                    try simp only [Act.put, lq31]
                    refine wpAnyH_take_dst (i := 15) (v := undef) (d := some 71) rfl rfl (by kernel_rfl) (by kernel_rfl) (by kernel_rfl) (fun _ _ _ h => h) (Or.inr ⟨by rfl, rfl⟩) hH ?_
                    try simp only [Act.put, lq31]
                    refine wpAnyH_take_dst (i := 16) (v := undef) (d := some 72) rfl rfl (by kernel_rfl) (by kernel_rfl) (by kernel_rfl) (fun _ _ _ h => h) (Or.inr ⟨by rfl, rfl⟩) hH ?_
                    try simp only [Act.put, lq31]
                    refine wpAnyH_take_dst (i := 17) (v := undef) (d := some 73) rfl rfl (by kernel_rfl) (by kernel_rfl) (by kernel_rfl) (fun _ _ _ h => h) (Or.inr ⟨by rfl, rfl⟩) hH ?_
                    try simp only [Act.put, lq31]
                    refine wpAnyH_take_dst (i := 18) (v := undef) (d := some 74) rfl rfl (by kernel_rfl) (by kernel_rfl) (by kernel_rfl) (fun _ _ _ h => h) (Or.inr ⟨by rfl, rfl⟩) hH ?_
                    try simp only [Act.put, lq31]
                    refine wpAnyH_take_dst (i := 19) (v := undef) (d := some 75) rfl rfl (by kernel_rfl) (by kernel_rfl) (by kernel_rfl) (fun _ _ _ h => h) (Or.inr ⟨by rfl, rfl⟩) hH ?_
                    try simp only [Act.put, lq31]
                    refine wpAnyH_take_dst (i := 20) (v := undef) (d := some 76) rfl rfl (by kernel_rfl) (by kernel_rfl) (by kernel_rfl) (fun _ _ _ h => h) (Or.inr ⟨by rfl, rfl⟩) hH ?_
                    try simp only [Act.put, lq31]
                    refine wpAnyH_take_dst (i := 21) (v := undef) (d := some 77) rfl rfl (by kernel_rfl) (by kernel_rfl) (by kernel_rfl) (fun _ _ _ h => h) (Or.inr ⟨by rfl, rfl⟩) hH ?_
                    try simp only [Act.put, lq31]
                    refine wpAnyH_take_dst (i := 22) (v := undef) (d := some 78) rfl rfl (by kernel_rfl) (by kernel_rfl) (by kernel_rfl) (fun _ _ _ h => h) (Or.inr ⟨by rfl, rfl⟩) hH ?_
                    try simp only [Act.put, lq31]
                    refine wpAnyH_take_dst (i := 23) (v := undef) (d := some 79) rfl rfl (by kernel_rfl) (by kernel_rfl) (by kernel_rfl) (fun _ _ _ h => h) (Or.inr ⟨by rfl, rfl⟩) hH ?_
                    try simp only [Act.put, lq31]
                    refine wpAnyH_take_dst (i := 24) (v := undef) (d := some 80) rfl rfl (by kernel_rfl) (by kernel_rfl) (by kernel_rfl) (fun _ _ _ h => h) (Or.inr ⟨by rfl, rfl⟩) hH ?_
                    try simp only [Act.put, lq31]
                    refine wpAnyH_take_dst (i := 25) (v := .bool true) (d := some 81) rfl rfl (by kernel_rfl) (by kernel_rfl) (by kernel_rfl) (fun _ _ _ h => h) (Or.inl ⟨by rfl, ?_⟩) hH ?_
                    · exact z1q31
                    try simp only [Act.put, lq31]
                    refine wpAnyH_take_dst (i := 26) (v := .bool true) (d := some 14) rfl rfl (by kernel_rfl) (by kernel_rfl) (by kernel_rfl) (fun _ _ _ h => h) (Or.inl ⟨by rfl, ?_⟩) hH ?_
                    · exact z1q31
                    try simp only [Act.put, lq31]
                    refine wpAnyH_done (by kernel_rfl) ?_ _
                    obtain ⟨hE3, _, _⟩ := hH
                    clear HV5
                    have hE5w3 : Ext w w3 := Ext.trans hE5w hE3
                    clear hE5w
                    have hE5w := hE5w3
                    clear hE5w3
                    have HV5 := Lib.hid (HV2.out.ext hE3)
                    have c6b := HV5.out.c6
                    have cwb := HV5.out.wy i hi'
                    go_wp2_with fail
                    refine wp_only (R := fun (a0 : Act) (a8 : Act) (w9 : World) => a8 = (((((((((((a0.put (some 82) (.pointer (some ⟨Y.g, 0, none⟩))).put (some 83) (.pointer (some ⟨Y.g, 0, none⟩))).put (some 84) (.pointer (some ⟨Y.g, 6, none⟩))).put (some 85) (.slice (some ⟨Y.wb, 0, none⟩) Y.k Y.wc)).put (some 86) (.int .i64 (i : Int))).put (some 87) (.pointer (some ⟨Y.wb, i, none⟩))).put (some 88) (.slice (some ⟨Y.row i, 0, none⟩) Y.m Y.m)).put (some 89) (.int .i64 (j : Int))).put (some 90) (.bool true)).put (some 91) (.int .i64 (flB true))).put (some 92) (.pointer (some ⟨Y.row i, j, none⟩))) ∧ Y.H w9 (putV V i j (flB true)) ∧ Ext w w9) ?_ (fun a8 w9 hR => ?_)
                    · refine wp_region_held_drew (S := (fun w' => w'.cell? ⟨Y.g, 6, none⟩ = some (.slice (some ⟨Y.wb, 0, none⟩) Y.k Y.wc) ∧ w'.cell? ⟨Y.wb, i, none⟩ = some (.slice (some ⟨Y.row i, 0, none⟩) Y.m Y.m))) (by kernel_rfl) (⟨c6b, cwb⟩) (fun hH => ?_)
                      refine wpAnyH_take_dst (i := 0) (v := .pointer (some ⟨Y.g, 0, none⟩)) (d := some 82) rfl rfl (by kernel_rfl) (by kernel_rfl) (by kernel_rfl) (fun _ _ _ h => h) (Or.inl ⟨by rfl, ?_⟩) hH ?_
                      · exact z0q31
                      try simp only [Act.put, lq31]
                      refine wpAnyH_take_dst (i := 1) (v := .pointer (some ⟨Y.g, 0, none⟩)) (d := some 83) rfl rfl (by kernel_rfl) (by kernel_rfl) (by kernel_rfl) (fun _ _ _ h => h) (Or.inl ⟨by rfl, ?_⟩) hH ?_
                      · exact z0q31
                      try simp only [Act.put, lq31]
                      refine wpAnyH_take_dst (i := 2) (v := .pointer (some ⟨Y.g, 6, none⟩)) (d := some 84) rfl rfl (by kernel_rfl) (by kernel_rfl) (by kernel_rfl) (fun _ _ _ h => h) (Or.inl ⟨by rfl, ?_⟩) hH ?_
                      · exact z0q31
                      try simp only [Act.put, lq31]
                      refine wpAnyH_take_dst (i := 3) (v := .slice (some ⟨Y.wb, 0, none⟩) Y.k Y.wc) (d := some 85) rfl rfl (by kernel_rfl) (by kernel_rfl) (by kernel_rfl) (fun _ _ _ h => h) (Or.inl ⟨by rfl, ?_⟩) hH ?_
                      · exact z0q31
                      try simp only [Act.put, lq31]
                      refine wpAnyH_take_dst (i := 4) (v := .int .i64 (i : Int)) (d := some 86) rfl rfl (by kernel_rfl) (by kernel_rfl) (by kernel_rfl) (fun _ _ _ h => h) (Or.inl ⟨by rfl, ?_⟩) hH ?_
                      · exact z0q31
                      try simp only [Act.put, lq31]
                      refine wpAnyH_take_dst (i := 5) (v := .pointer (some ⟨Y.wb, i, none⟩)) (d := some 87) rfl rfl (by kernel_rfl) (by kernel_rfl) (by kernel_rfl) (fun _ _ _ h => h) (Or.inl ⟨by rfl, ?_⟩) hH ?_
                      · exact z0q31
                      try simp only [Act.put, lq31]
                      refine wpAnyH_take_dst (i := 6) (v := .slice (some ⟨Y.row i, 0, none⟩) Y.m Y.m) (d := some 88) rfl rfl (by kernel_rfl) (by kernel_rfl) (by kernel_rfl) (fun _ _ _ h => h) (Or.inl ⟨by rfl, ?_⟩) hH ?_
                      · exact z0q31
                      try simp only [Act.put, lq31]
                      refine wpAnyH_take_dst (i := 7) (v := .int .i64 (j : Int)) (d := some 89) rfl rfl (by kernel_rfl) (by kernel_rfl) (by kernel_rfl) (fun _ _ _ h => h) (Or.inl ⟨by rfl, ?_⟩) hH ?_
                      · exact z0q31
                      try simp only [Act.put, lq31]
                      refine wpAnyH_take_dst (i := 8) (v := .bool true) (d := some 90) rfl rfl (by kernel_rfl) (by kernel_rfl) (by kernel_rfl) (fun _ _ _ h => h) (Or.inl ⟨by rfl, ?_⟩) hH ?_
                      · exact z0q31
                      try simp only [Act.put, lq31]
                      refine wpAnyH_ready (rs := [9]) (by kernel_rfl) (by simp) ?_
                      refine AllReadyH.cons rfl (fun K hK => ?_) AllReadyH.nil
                      rw [if_pos (by rfl)]
                      go_wp2_with fail
                      (with_reducible refine (c_l1Flag true).mono ?_)
                      rintro e w9 ⟨rfl, hE9⟩
                      refine hK.out _ _ (⟨Ext.keep hE9 hH.1, Ext.keep hE9 hH.2⟩) (fun hH9 => ?_)
                      clear hK; have hH0 := hH; clear hH; have hH := hH9; clear hH9
                      try simp only [Act.put, lq31]
                      refine wpAnyH_take_dst (i := 10) (v := .pointer (some ⟨Y.row i, j, none⟩)) (d := some 92) rfl rfl (by kernel_rfl) (by kernel_rfl) (by kernel_rfl) (fun _ _ _ h => h) (Or.inl ⟨by rfl, ?_⟩) hH ?_
                      · exact z0q31
                      try simp only [Act.put, lq31]
                      refine wpAnyH_ready (rs := [11]) (by kernel_rfl) (by simp) ?_
                      refine AllReadyH.cons rfl (fun K hK => ?_) AllReadyH.nil
                      rw [if_pos (by rfl)]
                      have h13 := (HV5.out.ext (Ext.trans (Ext.drew (Ext.refl w3)) hE9)).v i j hi' hj'; have f13 := fun j => (HV5.out.ext (Ext.trans (Ext.drew (Ext.refl w3)) hE9)).fr i j hi'; go_wp2_with fail
                      refine hK.out _ _ (⟨((HV5.out.ext (Ext.trans (Ext.drew (Ext.refl w3)) hE9)).put hi' (j := j) (flB true)).c6, ((HV5.out.ext (Ext.trans (Ext.drew (Ext.refl w3)) hE9)).put hi' (j := j) (flB true)).wy i hi'⟩) (fun hH9 => ?_)
                      clear hK; have hH0 := hH; clear hH; have hH := hH9; clear hH9
                      try simp only [Act.put, lq31]
                      refine wpAnyH_done (by kernel_rfl) ?_ _
                      exact ⟨rfl, (HV5.out.ext (Ext.trans (Ext.drew (Ext.refl w3)) hE9)).put hi' (flB true), Ext.set (Ext.trans hE5w (Ext.trans (Ext.drew (Ext.refl w3)) hE9)) (HROW.out i hi') _⟩
                    obtain ⟨ha, ⟨hH9, hE9⟩⟩ := hR
                    simp only [Act.put, lq31] at ha
                    subst ha
                    have HN := Lib.hid (show Y.H w9 (putV V i j (flB true)) ∧ Filled Y F (putV V i j (flB true)) i j from ⟨hH9, HFI.out.step _ (by rw [HSI.out, HTJ.out, HWF.out]; exact flB_eq HBB.out)⟩)
                    clear hH9
                    go_wp2
                    go_roundw
                    case rel => exact ⟨i, by first | rfl | (congr 1; omega), by omega, Lib.hid ⟨_, HN.out⟩, hE9⟩
                    case measure => simp only [intOf]; omega
                  | false =>
                    have HBG := Lib.hid hbg
                    have HBB := Lib.hid (show false = decide (0 < WW (.node (x0 : Int) us) (.node (x0 : Int) ss)) by rw [HR2.out]; simp [hbg])
                    clear hbg
                    go_wp2_with fail
                    (with_reducible refine (c_l13Arg (V := V) (W := WW) HAG.out HP.out HV.out HA2.out (fun k a ha => .flag (HT1.out k a ha))).mono ?_)
                    rintro e w2 ⟨rfl, hE2b⟩
                    have hE5w : Ext w w2 := Ext.trans hE2 hE2b
                    have HV5 := Lib.hid (HV.out.ext hE2b)
                    have HV2 := HV5
                    have d71 := Ext.keep hE5w d7
                    have d81 := Ext.keep hE5w d8
                    go_wp2_with fail
                    refine wp_region_held_drew (S := (fun w' => Ext w2 w' ∧ w'.cell? ⟨b5, o5 + x0, none⟩ = some (.int .i64 zy) ∧ w'.cell? ⟨b5, o5 + x0, none⟩ = some (.int .i64 zy))) (by kernel_rfl) ?_ (fun hH => ?_)
                    · exact ⟨(Ext.refl w2).drew, d71, d81⟩
                    refine wpAnyH_take_dst (i := 0) (v := .int .i64 (x0 : Int)) (d := some 56) rfl rfl (by kernel_rfl) (by kernel_rfl) (by kernel_rfl) (fun _ _ _ h => h) (Or.inl ⟨by rfl, ?_⟩) hH ?_
                    · exact z1q31
                    try simp only [Act.put, lq31]
                    refine wpAnyH_take_dst (i := 1) (v := .int .i64 (x0 : Int)) (d := some 57) rfl rfl (by kernel_rfl) (by kernel_rfl) (by kernel_rfl) (fun _ _ _ h => h) (Or.inl ⟨by rfl, ?_⟩) hH ?_
                    · exact z1q31
                    try simp only [Act.put, lq31]
                    refine wpAnyH_take_dst (i := 2) (v := .bool true) (d := some 58) rfl rfl (by kernel_rfl) (by kernel_rfl) (by kernel_rfl) (fun _ _ _ h => h) (Or.inl ⟨by rfl, ?_⟩) hH ?_
                    · exact z1q31
                    try simp only [Act.put, lq31]
                    refine wpAnyH_take_dst (i := 3) (v := .bool true) (d := some 59) rfl rfl (by kernel_rfl) (by kernel_rfl) (by kernel_rfl) (fun _ _ _ h => h) (Or.inl ⟨by rfl, ?_⟩) hH ?_
                    · exact z1q31
                    try simp only [Act.put, lq31]
                    refine wpAnyH_take_dst (i := 4) (v := .pointer (some ⟨Y.g, 0, none⟩)) (d := some 60) rfl rfl (by kernel_rfl) (by kernel_rfl) (by kernel_rfl) (fun _ _ _ h => h) (Or.inl ⟨by rfl, ?_⟩) hH ?_
                    · exact z1q31
                    try simp only [Act.put, lq31]
                    refine wpAnyH_take_dst (i := 5) (v := .int .i64 (i : Int)) (d := some 61) rfl rfl (by kernel_rfl) (by kernel_rfl) (by kernel_rfl) (fun _ _ _ h => h) (Or.inl ⟨by rfl, ?_⟩) hH ?_
                    · exact z1q31
                    try simp only [Act.put, lq31]
                    refine wpAnyH_take_dst (i := 6) (v := .int .i64 (j : Int)) (d := some 62) rfl rfl (by kernel_rfl) (by kernel_rfl) (by kernel_rfl) (fun _ _ _ h => h) (Or.inl ⟨by rfl, ?_⟩) hH ?_
                    · exact z1q31
                    try simp only [Act.put, lq31]
                    refine wpAnyH_ready (rs := [7]) (by kernel_rfl) (by simp) ?_
                    refine AllReadyH.cons rfl (fun K hK => ?_) AllReadyH.nil
                    rw [if_pos (by rfl)]
                    go_wp2_with (go_at_call 59; (with_reducible refine ((c_l13Bags (V := V) (W := WW) HBG.out HP.out (HV2.out.ext hH.1) HA2.out HLEN.out (fun k q a b ha hb => .flag (HT3.out k q a b ha hb)))).mono ?_); rintro e w3 ⟨rfl, hE9⟩)
                    refine hK.out _ _ ⟨Ext.trans hH.1 hE9, Ext.keep hE9 hH.2.1, Ext.keep hE9 hH.2.2⟩ (fun hH9 => ?_)
                    clear hK hH; have hH := hH9; clear hH9
                    try simp only [Act.put, lq31]
                    refine wpAnyH_take_dst (i := 8) (v := .bool false) (d := some 64) rfl rfl (by kernel_rfl) (by kernel_rfl) (by kernel_rfl) (fun _ _ _ h => h) (Or.inl ⟨by rfl, ?_⟩) hH ?_
                    · exact z1q31
                    try simp only [Act.put, lq31]
                    refine wpAnyH_take_dst (i := 9) (v := .bool false) (d := some 65) rfl rfl (by kernel_rfl) (by kernel_rfl) (by kernel_rfl) (fun _ _ _ h => h) (Or.inl ⟨by rfl, ?_⟩) hH ?_
                    · exact z1q31
                    try simp only [Act.put, lq31]
                    refine wpAnyH_take_dst (i := 10) (v := .slice (some ⟨b5, o5, none⟩) rn rc) (d := some 66) rfl rfl (by kernel_rfl) (by kernel_rfl) (by kernel_rfl) (fun _ _ _ h => h) (Or.inl ⟨by rfl, ?_⟩) hH ?_
                    · exact z1q31
                    try simp only [Act.put, lq31]
                    refine wpAnyH_take_dst (i := 11) (v := .int .i64 (x0 : Int)) (d := some 67) rfl rfl (by kernel_rfl) (by kernel_rfl) (by kernel_rfl) (fun _ _ _ h => h) (Or.inl ⟨by rfl, ?_⟩) hH ?_
                    · exact z1q31
                    try simp only [Act.put, lq31]
                    refine wpAnyH_take_dst (i := 12) (v := .pointer (some ⟨b5, o5 + x0, none⟩)) (d := some 68) rfl rfl (by kernel_rfl) (by kernel_rfl) (by kernel_rfl) (fun _ _ _ h => h) (Or.inl ⟨by rfl, ?_⟩) hH ?_
                    · exact z1q31
                    try simp only [Act.put, lq31]
                    refine wpAnyH_take_dst (i := 13) (v := .int .i64 zy) (d := some 69) rfl rfl (by kernel_rfl) (by kernel_rfl) (by kernel_rfl) (fun _ _ _ h => h) (Or.inl ⟨by rfl, ?_⟩) hH ?_
                    · exact z1q31
                    try simp only [Act.put, lq31]
                    refine wpAnyH_take_dst (i := 14) (v := .slice (some ⟨b5, o5, none⟩) rn rc) (d := some 70) rfl rfl (by kernel_rfl) (by kernel_rfl) (by kernel_rfl) (fun _ _ _ h => h) (Or.inl ⟨by rfl, ?_⟩) hH ?_
                    · exact z1q31
                    try simp only [Act.put, lq31]
                    refine wpAnyH_take_dst (i := 15) (v := .int .i64 (x0 : Int)) (d := some 71) rfl rfl (by kernel_rfl) (by kernel_rfl) (by kernel_rfl) (fun _ _ _ h => h) (Or.inl ⟨by rfl, ?_⟩) hH ?_
                    · exact z1q31
                    try simp only [Act.put, lq31]
                    refine wpAnyH_take_dst (i := 16) (v := .pointer (some ⟨b5, o5 + x0, none⟩)) (d := some 72) rfl rfl (by kernel_rfl) (by kernel_rfl) (by kernel_rfl) (fun _ _ _ h => h) (Or.inl ⟨by rfl, ?_⟩) hH ?_
                    · exact z1q31
                    try simp only [Act.put, lq31]
                    refine wpAnyH_take_dst (i := 17) (v := .int .i64 zy) (d := some 73) rfl rfl (by kernel_rfl) (by kernel_rfl) (by kernel_rfl) (fun _ _ _ h => h) (Or.inl ⟨by rfl, ?_⟩) hH ?_
                    · exact z1q31
                    try simp only [Act.put, lq31]
                    refine wpAnyH_take_dst (i := 18) (v := .bool false) (d := some 74) rfl rfl (by kernel_rfl) (by kernel_rfl) (by kernel_rfl) (fun _ _ _ h => h) (Or.inl ⟨by rfl, ?_⟩) hH ?_
                    · exact z1q31
                    try simp only [Act.put, lq31]
                    refine wpAnyH_take_dst (i := 19) (v := .bool false) (d := some 75) rfl rfl (by kernel_rfl) (by kernel_rfl) (by kernel_rfl) (fun _ _ _ h => h) (Or.inl ⟨by rfl, ?_⟩) hH ?_
                    · exact z1q31
                    try simp only [Act.put, lq31]
                    refine wpAnyH_take_dst (i := 20) (v := undef) (d := some 76) rfl rfl (by kernel_rfl) (by kernel_rfl) (by kernel_rfl) (fun _ _ _ h => h) (Or.inr ⟨by rfl, rfl⟩) hH ?_
                    try simp only [Act.put, lq31]
                    refine wpAnyH_take_dst (i := 21) (v := undef) (d := some 77) rfl rfl (by kernel_rfl) (by kernel_rfl) (by kernel_rfl) (fun _ _ _ h => h) (Or.inr ⟨by rfl, rfl⟩) hH ?_
                    try simp only [Act.put, lq31]
                    refine wpAnyH_take_dst (i := 22) (v := undef) (d := some 78) rfl rfl (by kernel_rfl) (by kernel_rfl) (by kernel_rfl) (fun _ _ _ h => h) (Or.inr ⟨by rfl, rfl⟩) hH ?_
                    try simp only [Act.put, lq31]
                    refine wpAnyH_take_dst (i := 23) (v := undef) (d := some 79) rfl rfl (by kernel_rfl) (by kernel_rfl) (by kernel_rfl) (fun _ _ _ h => h) (Or.inr ⟨by rfl, rfl⟩) hH ?_
                    try simp only [Act.put, lq31]
                    refine wpAnyH_take_dst (i := 24) (v := .bool false) (d := some 80) rfl rfl (by kernel_rfl) (by kernel_rfl) (by kernel_rfl) (fun _ _ _ h => h) (Or.inl ⟨by rfl, ?_⟩) hH ?_
                    · exact z1q31
                    try simp only [Act.put, lq31]
                    refine wpAnyH_take_dst (i := 25) (v := .bool false) (d := some 81) rfl rfl (by kernel_rfl) (by kernel_rfl) (by kernel_rfl) (fun _ _ _ h => h) (Or.inl ⟨by rfl, ?_⟩) hH ?_
                    · exact z1q31
                    try simp only [Act.put, lq31]
                    refine wpAnyH_take_dst (i := 26) (v := .bool false) (d := some 14) rfl rfl (by kernel_rfl) (by kernel_rfl) (by kernel_rfl) (fun _ _ _ h => h) (Or.inl ⟨by rfl, ?_⟩) hH ?_
                    · exact z1q31
                    try simp only [Act.put, lq31]
                    refine wpAnyH_done (by kernel_rfl) ?_ _
                    obtain ⟨hE3, _, _⟩ := hH
                    clear HV5
                    have hE5w3 : Ext w w3 := Ext.trans hE5w hE3
                    clear hE5w
                    have hE5w := hE5w3
                    clear hE5w3
                    have HV5 := Lib.hid (HV2.out.ext hE3)
                    have c6b := HV5.out.c6
                    have cwb := HV5.out.wy i hi'
                    go_wp2_with fail
                    refine wp_only (R := fun (a0 : Act) (a8 : Act) (w9 : World) => a8 = (((((((((((a0.put (some 82) (.pointer (some ⟨Y.g, 0, none⟩))).put (some 83) (.pointer (some ⟨Y.g, 0, none⟩))).put (some 84) (.pointer (some ⟨Y.g, 6, none⟩))).put (some 85) (.slice (some ⟨Y.wb, 0, none⟩) Y.k Y.wc)).put (some 86) (.int .i64 (i : Int))).put (some 87) (.pointer (some ⟨Y.wb, i, none⟩))).put (some 88) (.slice (some ⟨Y.row i, 0, none⟩) Y.m Y.m)).put (some 89) (.int .i64 (j : Int))).put (some 90) (.bool false)).put (some 91) (.int .i64 (flB false))).put (some 92) (.pointer (some ⟨Y.row i, j, none⟩))) ∧ Y.H w9 (putV V i j (flB false)) ∧ Ext w w9) ?_ (fun a8 w9 hR => ?_)
                    · refine wp_region_held_drew (S := (fun w' => w'.cell? ⟨Y.g, 6, none⟩ = some (.slice (some ⟨Y.wb, 0, none⟩) Y.k Y.wc) ∧ w'.cell? ⟨Y.wb, i, none⟩ = some (.slice (some ⟨Y.row i, 0, none⟩) Y.m Y.m))) (by kernel_rfl) (⟨c6b, cwb⟩) (fun hH => ?_)
                      refine wpAnyH_take_dst (i := 0) (v := .pointer (some ⟨Y.g, 0, none⟩)) (d := some 82) rfl rfl (by kernel_rfl) (by kernel_rfl) (by kernel_rfl) (fun _ _ _ h => h) (Or.inl ⟨by rfl, ?_⟩) hH ?_
                      · exact z0q31
                      try simp only [Act.put, lq31]
                      refine wpAnyH_take_dst (i := 1) (v := .pointer (some ⟨Y.g, 0, none⟩)) (d := some 83) rfl rfl (by kernel_rfl) (by kernel_rfl) (by kernel_rfl) (fun _ _ _ h => h) (Or.inl ⟨by rfl, ?_⟩) hH ?_
                      · exact z0q31
                      try simp only [Act.put, lq31]
                      refine wpAnyH_take_dst (i := 2) (v := .pointer (some ⟨Y.g, 6, none⟩)) (d := some 84) rfl rfl (by kernel_rfl) (by kernel_rfl) (by kernel_rfl) (fun _ _ _ h => h) (Or.inl ⟨by rfl, ?_⟩) hH ?_
                      · exact z0q31
                      try simp only [Act.put, lq31]
                      refine wpAnyH_take_dst (i := 3) (v := .slice (some ⟨Y.wb, 0, none⟩) Y.k Y.wc) (d := some 85) rfl rfl (by kernel_rfl) (by kernel_rfl) (by kernel_rfl) (fun _ _ _ h => h) (Or.inl ⟨by rfl, ?_⟩) hH ?_
                      · exact z0q31
                      try simp only [Act.put, lq31]
                      refine wpAnyH_take_dst (i := 4) (v := .int .i64 (i : Int)) (d := some 86) rfl rfl (by kernel_rfl) (by kernel_rfl) (by kernel_rfl) (fun _ _ _ h => h) (Or.inl ⟨by rfl, ?_⟩) hH ?_
                      · exact z0q31
                      try simp only [Act.put, lq31]
                      refine wpAnyH_take_dst (i := 5) (v := .pointer (some ⟨Y.wb, i, none⟩)) (d := some 87) rfl rfl (by kernel_rfl) (by kernel_rfl) (by kernel_rfl) (fun _ _ _ h => h) (Or.inl ⟨by rfl, ?_⟩) hH ?_
                      · exact z0q31
                      try simp only [Act.put, lq31]
                      refine wpAnyH_take_dst (i := 6) (v := .slice (some ⟨Y.row i, 0, none⟩) Y.m Y.m) (d := some 88) rfl rfl (by kernel_rfl) (by kernel_rfl) (by kernel_rfl) (fun _ _ _ h => h) (Or.inl ⟨by rfl, ?_⟩) hH ?_
                      · exact z0q31
                      try simp only [Act.put, lq31]
                      refine wpAnyH_take_dst (i := 7) (v := .int .i64 (j : Int)) (d := some 89) rfl rfl (by kernel_rfl) (by kernel_rfl) (by kernel_rfl) (fun _ _ _ h => h) (Or.inl ⟨by rfl, ?_⟩) hH ?_
                      · exact z0q31
                      try simp only [Act.put, lq31]
                      refine wpAnyH_take_dst (i := 8) (v := .bool false) (d := some 90) rfl rfl (by kernel_rfl) (by kernel_rfl) (by kernel_rfl) (fun _ _ _ h => h) (Or.inl ⟨by rfl, ?_⟩) hH ?_
                      · exact z0q31
                      try simp only [Act.put, lq31]
                      refine wpAnyH_ready (rs := [9]) (by kernel_rfl) (by simp) ?_
                      refine AllReadyH.cons rfl (fun K hK => ?_) AllReadyH.nil
                      rw [if_pos (by rfl)]
                      go_wp2_with fail
                      (with_reducible refine (c_l1Flag false).mono ?_)
                      rintro e w9 ⟨rfl, hE9⟩
                      refine hK.out _ _ (⟨Ext.keep hE9 hH.1, Ext.keep hE9 hH.2⟩) (fun hH9 => ?_)
                      clear hK; have hH0 := hH; clear hH; have hH := hH9; clear hH9
                      try simp only [Act.put, lq31]
                      refine wpAnyH_take_dst (i := 10) (v := .pointer (some ⟨Y.row i, j, none⟩)) (d := some 92) rfl rfl (by kernel_rfl) (by kernel_rfl) (by kernel_rfl) (fun _ _ _ h => h) (Or.inl ⟨by rfl, ?_⟩) hH ?_
                      · exact z0q31
                      try simp only [Act.put, lq31]
                      refine wpAnyH_ready (rs := [11]) (by kernel_rfl) (by simp) ?_
                      refine AllReadyH.cons rfl (fun K hK => ?_) AllReadyH.nil
                      rw [if_pos (by rfl)]
                      have h13 := (HV5.out.ext (Ext.trans (Ext.drew (Ext.refl w3)) hE9)).v i j hi' hj'; have f13 := fun j => (HV5.out.ext (Ext.trans (Ext.drew (Ext.refl w3)) hE9)).fr i j hi'; go_wp2_with fail
                      refine hK.out _ _ (⟨((HV5.out.ext (Ext.trans (Ext.drew (Ext.refl w3)) hE9)).put hi' (j := j) (flB false)).c6, ((HV5.out.ext (Ext.trans (Ext.drew (Ext.refl w3)) hE9)).put hi' (j := j) (flB false)).wy i hi'⟩) (fun hH9 => ?_)
                      clear hK; have hH0 := hH; clear hH; have hH := hH9; clear hH9
                      try simp only [Act.put, lq31]
                      refine wpAnyH_done (by kernel_rfl) ?_ _
                      exact ⟨rfl, (HV5.out.ext (Ext.trans (Ext.drew (Ext.refl w3)) hE9)).put hi' (flB false), Ext.set (Ext.trans hE5w (Ext.trans (Ext.drew (Ext.refl w3)) hE9)) (HROW.out i hi') _⟩
                    obtain ⟨ha, ⟨hH9, hE9⟩⟩ := hR
                    simp only [Act.put, lq31] at ha
                    subst ha
                    have HN := Lib.hid (show Y.H w9 (putV V i j (flB false)) ∧ Filled Y F (putV V i j (flB false)) i j from ⟨hH9, HFI.out.step _ (by rw [HSI.out, HTJ.out, HWF.out]; exact flB_eq HBB.out)⟩)
                    clear hH9
                    go_wp2
                    go_roundw
                    case rel => exact ⟨i, by first | rfl | (congr 1; omega), by omega, Lib.hid ⟨_, HN.out⟩, hE9⟩
                    case measure => simp only [intOf]; omega
                · have HR2 := Lib.hid (HREST.out.trans (if_neg (by omega)))
                  have hxe : ((y0 : Int) == (x0 : Int)) = false := by simp; omega
                  by_cases hlt : zy < zx
                  · have hdl : decide (zy < zx) = true := by simpa using hlt
                    have hlt2 : rkF Y.rk (y0 : Int) < rkF Y.rk (x0 : Int) := by rw [HKX.out, HKY.out]; exact hlt
                    cases hov : overG WW (.node (x0 : Int) us) ss with
                    | true =>
                      have HOV := Lib.hid hov
                      have HBB := Lib.hid (show true = decide (0 < WW (.node (x0 : Int) us) (.node (y0 : Int) ss)) by rw [HR2.out, if_pos ⟨hlt2, hov⟩]; rfl)
                      clear hov hlt hlt2 hxy
                      go_wp2_with fail
                      (with_reducible refine (c_l13Arg (V := V) (W := WW) HAG.out HP.out HV.out HA2.out (fun k a ha => .flag (HT1.out k a ha))).mono ?_)
                      rintro e w2 ⟨rfl, hE2b⟩
                      have hE5w : Ext w w2 := Ext.trans hE2 hE2b
                      have HV5 := Lib.hid (HV.out.ext hE2b)
                      have HV2 := HV5
                      have d71 := Ext.keep hE5w d7
                      have d81 := Ext.keep hE5w d8
                      go_wp2_with fail
                      refine wp_region_held_drew (S := (fun w' => Ext w2 w' ∧ w'.cell? ⟨b5, o5 + x0, none⟩ = some (.int .i64 zx) ∧ w'.cell? ⟨b5, o5 + y0, none⟩ = some (.int .i64 zy))) (by kernel_rfl) ?_ (fun hH => ?_)
                      · exact ⟨(Ext.refl w2).drew, d71, d81⟩
                      refine wpAnyH_take_dst (i := 0) (v := .int .i64 (y0 : Int)) (d := some 56) rfl rfl (by kernel_rfl) (by kernel_rfl) (by kernel_rfl) (fun _ _ _ h => h) (Or.inl ⟨by rfl, ?_⟩) hH ?_
                      · exact z1q31
                      try simp only [Act.put, lq31]
                      refine wpAnyH_take_dst (i := 1) (v := .int .i64 (x0 : Int)) (d := some 57) rfl rfl (by kernel_rfl) (by kernel_rfl) (by kernel_rfl) (fun _ _ _ h => h) (Or.inl ⟨by rfl, ?_⟩) hH ?_
                      · exact z1q31
                      try simp only [Act.put, lq31]
                      refine wpAnyH_take_dst (i := 2) (v := .bool false) (d := some 58) rfl rfl (by kernel_rfl) (by kernel_rfl) (by kernel_rfl) (fun _ _ _ h => h) (Or.inl ⟨by rfl, ?_⟩) hH ?_
                      · exact z1q31
                      try simp only [Act.put, lq31]
                      refine wpAnyH_take_dst (i := 3) (v := .bool false) (d := some 59) rfl rfl (by kernel_rfl) (by kernel_rfl) (by kernel_rfl) (fun _ _ _ h => h) (Or.inl ⟨by rfl, ?_⟩) hH ?_
                      · exact z1q31
                      try simp only [Act.put, lq31]
                      refine wpAnyH_take_dst (i := 4) (v := undef) (d := some 60) rfl rfl (by kernel_rfl) (by kernel_rfl) (by kernel_rfl) (fun _ _ _ h => h) (Or.inr ⟨by rfl, rfl⟩) hH ?_
                      try simp only [Act.put, lq31]
                      refine wpAnyH_take_dst (i := 5) (v := undef) (d := some 61) rfl rfl (by kernel_rfl) (by kernel_rfl) (by kernel_rfl) (fun _ _ _ h => h) (Or.inr ⟨by rfl, rfl⟩) hH ?_
                      try simp only [Act.put, lq31]
                      refine wpAnyH_take_dst (i := 6) (v := undef) (d := some 62) rfl rfl (by kernel_rfl) (by kernel_rfl) (by kernel_rfl) (fun _ _ _ h => h) (Or.inr ⟨by rfl, rfl⟩) hH ?_
                      try simp only [Act.put, lq31]
                      refine wpAnyH_take_dst (i := 7) (v := undef) (d := some 63) rfl rfl (by kernel_rfl) (by kernel_rfl) (by kernel_rfl) (fun _ _ _ h => h) (Or.inr ⟨by rfl, rfl⟩) hH ?_
                      try simp only [Act.put, lq31]
                      refine wpAnyH_take_dst (i := 8) (v := .bool false) (d := some 64) rfl rfl (by kernel_rfl) (by kernel_rfl) (by kernel_rfl) (fun _ _ _ h => h) (Or.inl ⟨by rfl, ?_⟩) hH ?_
                      · exact z1q31
                      try simp only [Act.put, lq31]
                      refine wpAnyH_take_dst (i := 9) (v := .bool false) (d := some 65) rfl rfl (by kernel_rfl) (by kernel_rfl) (by kernel_rfl) (fun _ _ _ h => h) (Or.inl ⟨by rfl, ?_⟩) hH ?_
                      · exact z1q31
                      try simp only [Act.put, lq31]
                      refine wpAnyH_take_dst (i := 10) (v := .slice (some ⟨b5, o5, none⟩) rn rc) (d := some 66) rfl rfl (by kernel_rfl) (by kernel_rfl) (by kernel_rfl) (fun _ _ _ h => h) (Or.inl ⟨by rfl, ?_⟩) hH ?_
                      · exact z1q31
                      try simp only [Act.put, lq31]
                      refine wpAnyH_take_dst (i := 11) (v := .int .i64 (y0 : Int)) (d := some 67) rfl rfl (by kernel_rfl) (by kernel_rfl) (by kernel_rfl) (fun _ _ _ h => h) (Or.inl ⟨by rfl, ?_⟩) hH ?_
                      · exact z1q31
                      try simp only [Act.put, lq31]
                      refine wpAnyH_take_dst (i := 12) (v := .pointer (some ⟨b5, o5 + y0, none⟩)) (d := some 68) rfl rfl (by kernel_rfl) (by kernel_rfl) (by kernel_rfl) (fun _ _ _ h => h) (Or.inl ⟨by rfl, ?_⟩) hH ?_
                      · exact z1q31
                      try simp only [Act.put, lq31]
                      refine wpAnyH_take_dst (i := 13) (v := .int .i64 zy) (d := some 69) rfl rfl (by kernel_rfl) (by kernel_rfl) (by kernel_rfl) (fun _ _ _ h => h) (Or.inl ⟨by rfl, ?_⟩) hH ?_
                      · exact z1q31
                      try simp only [Act.put, lq31]
                      refine wpAnyH_take_dst (i := 14) (v := .slice (some ⟨b5, o5, none⟩) rn rc) (d := some 70) rfl rfl (by kernel_rfl) (by kernel_rfl) (by kernel_rfl) (fun _ _ _ h => h) (Or.inl ⟨by rfl, ?_⟩) hH ?_
                      · exact z1q31
                      try simp only [Act.put, lq31]
                      refine wpAnyH_take_dst (i := 15) (v := .int .i64 (x0 : Int)) (d := some 71) rfl rfl (by kernel_rfl) (by kernel_rfl) (by kernel_rfl) (fun _ _ _ h => h) (Or.inl ⟨by rfl, ?_⟩) hH ?_
                      · exact z1q31
                      try simp only [Act.put, lq31]
                      refine wpAnyH_take_dst (i := 16) (v := .pointer (some ⟨b5, o5 + x0, none⟩)) (d := some 72) rfl rfl (by kernel_rfl) (by kernel_rfl) (by kernel_rfl) (fun _ _ _ h => h) (Or.inl ⟨by rfl, ?_⟩) hH ?_
                      · exact z1q31
                      try simp only [Act.put, lq31]
                      refine wpAnyH_take_dst (i := 17) (v := .int .i64 zx) (d := some 73) rfl rfl (by kernel_rfl) (by kernel_rfl) (by kernel_rfl) (fun _ _ _ h => h) (Or.inl ⟨by rfl, ?_⟩) hH ?_
                      · exact z1q31
                      try simp only [Act.put, lq31]
                      refine wpAnyH_take_dst (i := 18) (v := .bool true) (d := some 74) rfl rfl (by kernel_rfl) (by kernel_rfl) (by kernel_rfl) (fun _ _ _ h => h) (Or.inl ⟨by rfl, ?_⟩) hH ?_
                      · exact z1q31
                      try simp only [Act.put, lq31]
                      refine wpAnyH_take_dst (i := 19) (v := .bool true) (d := some 75) rfl rfl (by kernel_rfl) (by kernel_rfl) (by kernel_rfl) (fun _ _ _ h => h) (Or.inl ⟨by rfl, ?_⟩) hH ?_
                      · exact z1q31
                      try simp only [Act.put, lq31]
                      refine wpAnyH_take_dst (i := 20) (v := .pointer (some ⟨Y.g, 0, none⟩)) (d := some 76) rfl rfl (by kernel_rfl) (by kernel_rfl) (by kernel_rfl) (fun _ _ _ h => h) (Or.inl ⟨by rfl, ?_⟩) hH ?_
                      · exact z1q31
                      try simp only [Act.put, lq31]
                      refine wpAnyH_take_dst (i := 21) (v := .int .i64 (i : Int)) (d := some 77) rfl rfl (by kernel_rfl) (by kernel_rfl) (by kernel_rfl) (fun _ _ _ h => h) (Or.inl ⟨by rfl, ?_⟩) hH ?_
                      · exact z1q31
                      try simp only [Act.put, lq31]
                      refine wpAnyH_take_dst (i := 22) (v := .int .i64 (j : Int)) (d := some 78) rfl rfl (by kernel_rfl) (by kernel_rfl) (by kernel_rfl) (fun _ _ _ h => h) (Or.inl ⟨by rfl, ?_⟩) hH ?_
                      · exact z1q31
                      try simp only [Act.put, lq31]
                      refine wpAnyH_ready (rs := [23]) (by kernel_rfl) (by simp) ?_
                      refine AllReadyH.cons rfl (fun K hK => ?_) AllReadyH.nil
                      rw [if_pos (by rfl)]
                      go_wp2_with (go_at_call 60; (with_reducible refine ((c_l13Over (V := V) (W := WW) HOV.out HP.out (HV2.out.ext hH.1) HA2.out (fun k b hb => .flag (HT2.out k b hb)))).mono ?_); rintro e w3 ⟨rfl, hE9⟩)
                      refine hK.out _ _ ⟨Ext.trans hH.1 hE9, Ext.keep hE9 hH.2.1, Ext.keep hE9 hH.2.2⟩ (fun hH9 => ?_)
                      clear hK hH; have hH := hH9; clear hH9
                      try simp only [Act.put, lq31]
                      refine wpAnyH_take_dst (i := 24) (v := .bool true) (d := some 80) rfl rfl (by kernel_rfl) (by kernel_rfl) (by kernel_rfl) (fun _ _ _ h => h) (Or.inl ⟨by rfl, ?_⟩) hH ?_
                      · exact z1q31
                      try simp only [Act.put, lq31]
                      refine wpAnyH_take_dst (i := 25) (v := .bool true) (d := some 81) rfl rfl (by kernel_rfl) (by kernel_rfl) (by kernel_rfl) (fun _ _ _ h => h) (Or.inl ⟨by rfl, ?_⟩) hH ?_
                      · exact z1q31
                      try simp only [Act.put, lq31]
                      refine wpAnyH_take_dst (i := 26) (v := .bool true) (d := some 14) rfl rfl (by kernel_rfl) (by kernel_rfl) (by kernel_rfl) (fun _ _ _ h => h) (Or.inl ⟨by rfl, ?_⟩) hH ?_
                      · exact z1q31
                      try simp only [Act.put, lq31]
                      refine wpAnyH_done (by kernel_rfl) ?_ _
                      obtain ⟨hE3, _, _⟩ := hH
                      clear HV5
                      have hE5w3 : Ext w w3 := Ext.trans hE5w hE3
                      clear hE5w
                      have hE5w := hE5w3
                      clear hE5w3
                      have HV5 := Lib.hid (HV2.out.ext hE3)
                      have c6b := HV5.out.c6
                      have cwb := HV5.out.wy i hi'
                      go_wp2_with fail
                      refine wp_only (R := fun (a0 : Act) (a8 : Act) (w9 : World) => a8 = (((((((((((a0.put (some 82) (.pointer (some ⟨Y.g, 0, none⟩))).put (some 83) (.pointer (some ⟨Y.g, 0, none⟩))).put (some 84) (.pointer (some ⟨Y.g, 6, none⟩))).put (some 85) (.slice (some ⟨Y.wb, 0, none⟩) Y.k Y.wc)).put (some 86) (.int .i64 (i : Int))).put (some 87) (.pointer (some ⟨Y.wb, i, none⟩))).put (some 88) (.slice (some ⟨Y.row i, 0, none⟩) Y.m Y.m)).put (some 89) (.int .i64 (j : Int))).put (some 90) (.bool true)).put (some 91) (.int .i64 (flB true))).put (some 92) (.pointer (some ⟨Y.row i, j, none⟩))) ∧ Y.H w9 (putV V i j (flB true)) ∧ Ext w w9) ?_ (fun a8 w9 hR => ?_)
                      · refine wp_region_held_drew (S := (fun w' => w'.cell? ⟨Y.g, 6, none⟩ = some (.slice (some ⟨Y.wb, 0, none⟩) Y.k Y.wc) ∧ w'.cell? ⟨Y.wb, i, none⟩ = some (.slice (some ⟨Y.row i, 0, none⟩) Y.m Y.m))) (by kernel_rfl) (⟨c6b, cwb⟩) (fun hH => ?_)
                        refine wpAnyH_take_dst (i := 0) (v := .pointer (some ⟨Y.g, 0, none⟩)) (d := some 82) rfl rfl (by kernel_rfl) (by kernel_rfl) (by kernel_rfl) (fun _ _ _ h => h) (Or.inl ⟨by rfl, ?_⟩) hH ?_
                        · exact z0q31
                        try simp only [Act.put, lq31]
                        refine wpAnyH_take_dst (i := 1) (v := .pointer (some ⟨Y.g, 0, none⟩)) (d := some 83) rfl rfl (by kernel_rfl) (by kernel_rfl) (by kernel_rfl) (fun _ _ _ h => h) (Or.inl ⟨by rfl, ?_⟩) hH ?_
                        · exact z0q31
                        try simp only [Act.put, lq31]
                        refine wpAnyH_take_dst (i := 2) (v := .pointer (some ⟨Y.g, 6, none⟩)) (d := some 84) rfl rfl (by kernel_rfl) (by kernel_rfl) (by kernel_rfl) (fun _ _ _ h => h) (Or.inl ⟨by rfl, ?_⟩) hH ?_
                        · exact z0q31
                        try simp only [Act.put, lq31]
                        refine wpAnyH_take_dst (i := 3) (v := .slice (some ⟨Y.wb, 0, none⟩) Y.k Y.wc) (d := some 85) rfl rfl (by kernel_rfl) (by kernel_rfl) (by kernel_rfl) (fun _ _ _ h => h) (Or.inl ⟨by rfl, ?_⟩) hH ?_
                        · exact z0q31
                        try simp only [Act.put, lq31]
                        refine wpAnyH_take_dst (i := 4) (v := .int .i64 (i : Int)) (d := some 86) rfl rfl (by kernel_rfl) (by kernel_rfl) (by kernel_rfl) (fun _ _ _ h => h) (Or.inl ⟨by rfl, ?_⟩) hH ?_
                        · exact z0q31
                        try simp only [Act.put, lq31]
                        refine wpAnyH_take_dst (i := 5) (v := .pointer (some ⟨Y.wb, i, none⟩)) (d := some 87) rfl rfl (by kernel_rfl) (by kernel_rfl) (by kernel_rfl) (fun _ _ _ h => h) (Or.inl ⟨by rfl, ?_⟩) hH ?_
                        · exact z0q31
                        try simp only [Act.put, lq31]
                        refine wpAnyH_take_dst (i := 6) (v := .slice (some ⟨Y.row i, 0, none⟩) Y.m Y.m) (d := some 88) rfl rfl (by kernel_rfl) (by kernel_rfl) (by kernel_rfl) (fun _ _ _ h => h) (Or.inl ⟨by rfl, ?_⟩) hH ?_
                        · exact z0q31
                        try simp only [Act.put, lq31]
                        refine wpAnyH_take_dst (i := 7) (v := .int .i64 (j : Int)) (d := some 89) rfl rfl (by kernel_rfl) (by kernel_rfl) (by kernel_rfl) (fun _ _ _ h => h) (Or.inl ⟨by rfl, ?_⟩) hH ?_
                        · exact z0q31
                        try simp only [Act.put, lq31]
                        refine wpAnyH_take_dst (i := 8) (v := .bool true) (d := some 90) rfl rfl (by kernel_rfl) (by kernel_rfl) (by kernel_rfl) (fun _ _ _ h => h) (Or.inl ⟨by rfl, ?_⟩) hH ?_
                        · exact z0q31
                        try simp only [Act.put, lq31]
                        refine wpAnyH_ready (rs := [9]) (by kernel_rfl) (by simp) ?_
                        refine AllReadyH.cons rfl (fun K hK => ?_) AllReadyH.nil
                        rw [if_pos (by rfl)]
                        go_wp2_with fail
                        (with_reducible refine (c_l1Flag true).mono ?_)
                        rintro e w9 ⟨rfl, hE9⟩
                        refine hK.out _ _ (⟨Ext.keep hE9 hH.1, Ext.keep hE9 hH.2⟩) (fun hH9 => ?_)
                        clear hK; have hH0 := hH; clear hH; have hH := hH9; clear hH9
                        try simp only [Act.put, lq31]
                        refine wpAnyH_take_dst (i := 10) (v := .pointer (some ⟨Y.row i, j, none⟩)) (d := some 92) rfl rfl (by kernel_rfl) (by kernel_rfl) (by kernel_rfl) (fun _ _ _ h => h) (Or.inl ⟨by rfl, ?_⟩) hH ?_
                        · exact z0q31
                        try simp only [Act.put, lq31]
                        refine wpAnyH_ready (rs := [11]) (by kernel_rfl) (by simp) ?_
                        refine AllReadyH.cons rfl (fun K hK => ?_) AllReadyH.nil
                        rw [if_pos (by rfl)]
                        have h13 := (HV5.out.ext (Ext.trans (Ext.drew (Ext.refl w3)) hE9)).v i j hi' hj'; have f13 := fun j => (HV5.out.ext (Ext.trans (Ext.drew (Ext.refl w3)) hE9)).fr i j hi'; go_wp2_with fail
                        refine hK.out _ _ (⟨((HV5.out.ext (Ext.trans (Ext.drew (Ext.refl w3)) hE9)).put hi' (j := j) (flB true)).c6, ((HV5.out.ext (Ext.trans (Ext.drew (Ext.refl w3)) hE9)).put hi' (j := j) (flB true)).wy i hi'⟩) (fun hH9 => ?_)
                        clear hK; have hH0 := hH; clear hH; have hH := hH9; clear hH9
                        try simp only [Act.put, lq31]
                        refine wpAnyH_done (by kernel_rfl) ?_ _
                        exact ⟨rfl, (HV5.out.ext (Ext.trans (Ext.drew (Ext.refl w3)) hE9)).put hi' (flB true), Ext.set (Ext.trans hE5w (Ext.trans (Ext.drew (Ext.refl w3)) hE9)) (HROW.out i hi') _⟩
                      obtain ⟨ha, ⟨hH9, hE9⟩⟩ := hR
                      simp only [Act.put, lq31] at ha
                      subst ha
                      have HN := Lib.hid (show Y.H w9 (putV V i j (flB true)) ∧ Filled Y F (putV V i j (flB true)) i j from ⟨hH9, HFI.out.step _ (by rw [HSI.out, HTJ.out, HWF.out]; exact flB_eq HBB.out)⟩)
                      clear hH9
                      go_wp2
                      go_roundw
                      case rel => exact ⟨i, by first | rfl | (congr 1; omega), by omega, Lib.hid ⟨_, HN.out⟩, hE9⟩
                      case measure => simp only [intOf]; omega
                    | false =>
                      have HOV := Lib.hid hov
                      have HBB := Lib.hid (show false = decide (0 < WW (.node (x0 : Int) us) (.node (y0 : Int) ss)) by rw [HR2.out, if_neg (fun h => by rw [hov] at h; cases h.2)]; rfl)
                      clear hov hlt hlt2 hxy
                      go_wp2_with fail
                      (with_reducible refine (c_l13Arg (V := V) (W := WW) HAG.out HP.out HV.out HA2.out (fun k a ha => .flag (HT1.out k a ha))).mono ?_)
                      rintro e w2 ⟨rfl, hE2b⟩
                      have hE5w : Ext w w2 := Ext.trans hE2 hE2b
                      have HV5 := Lib.hid (HV.out.ext hE2b)
                      have HV2 := HV5
                      have d71 := Ext.keep hE5w d7
                      have d81 := Ext.keep hE5w d8
                      go_wp2_with fail
                      refine wp_region_held_drew (S := (fun w' => Ext w2 w' ∧ w'.cell? ⟨b5, o5 + x0, none⟩ = some (.int .i64 zx) ∧ w'.cell? ⟨b5, o5 + y0, none⟩ = some (.int .i64 zy))) (by kernel_rfl) ?_ (fun hH => ?_)
                      · exact ⟨(Ext.refl w2).drew, d71, d81⟩
                      refine wpAnyH_take_dst (i := 0) (v := .int .i64 (y0 : Int)) (d := some 56) rfl rfl (by kernel_rfl) (by kernel_rfl) (by kernel_rfl) (fun _ _ _ h => h) (Or.inl ⟨by rfl, ?_⟩) hH ?_
                      · exact z1q31
                      try simp only [Act.put, lq31]
                      refine wpAnyH_take_dst (i := 1) (v := .int .i64 (x0 : Int)) (d := some 57) rfl rfl (by kernel_rfl) (by kernel_rfl) (by kernel_rfl) (fun _ _ _ h => h) (Or.inl ⟨by rfl, ?_⟩) hH ?_
                      · exact z1q31
                      try simp only [Act.put, lq31]
                      refine wpAnyH_take_dst (i := 2) (v := .bool false) (d := some 58) rfl rfl (by kernel_rfl) (by kernel_rfl) (by kernel_rfl) (fun _ _ _ h => h) (Or.inl ⟨by rfl, ?_⟩) hH ?_
                      · exact z1q31
                      try simp only [Act.put, lq31]
                      refine wpAnyH_take_dst (i := 3) (v := .bool false) (d := some 59) rfl rfl (by kernel_rfl) (by kernel_rfl) (by kernel_rfl) (fun _ _ _ h => h) (Or.inl ⟨by rfl, ?_⟩) hH ?_
                      · exact z1q31
                      try simp only [Act.put, lq31]
                      refine wpAnyH_take_dst (i := 4) (v := undef) (d := some 60) rfl rfl (by kernel_rfl) (by kernel_rfl) (by kernel_rfl) (fun _ _ _ h => h) (Or.inr ⟨by rfl, rfl⟩) hH ?_
                      try simp only [Act.put, lq31]
                      refine wpAnyH_take_dst (i := 5) (v := undef) (d := some 61) rfl rfl (by kernel_rfl) (by kernel_rfl) (by kernel_rfl) (fun _ _ _ h => h) (Or.inr ⟨by rfl, rfl⟩) hH ?_
                      try simp only [Act.put, lq31]
                      refine wpAnyH_take_dst (i := 6) (v := undef) (d := some 62) rfl rfl (by kernel_rfl) (by kernel_rfl) (by kernel_rfl) (fun _ _ _ h => h) (Or.inr ⟨by rfl, rfl⟩) hH ?_
                      try simp only [Act.put, lq31]
                      refine wpAnyH_take_dst (i := 7) (v := undef) (d := some 63) rfl rfl (by kernel_rfl) (by kernel_rfl) (by kernel_rfl) (fun _ _ _ h => h) (Or.inr ⟨by rfl, rfl⟩) hH ?_
                      try simp only [Act.put, lq31]
                      refine wpAnyH_take_dst (i := 8) (v := .bool false) (d := some 64) rfl rfl (by kernel_rfl) (by kernel_rfl) (by kernel_rfl) (fun _ _ _ h => h) (Or.inl ⟨by rfl, ?_⟩) hH ?_
                      · exact z1q31
                      try simp only [Act.put, lq31]
                      refine wpAnyH_take_dst (i := 9) (v := .bool false) (d := some 65) rfl rfl (by kernel_rfl) (by kernel_rfl) (by kernel_rfl) (fun _ _ _ h => h) (Or.inl ⟨by rfl, ?_⟩) hH ?_
                      · exact z1q31
                      try simp only [Act.put, lq31]
                      refine wpAnyH_take_dst (i := 10) (v := .slice (some ⟨b5, o5, none⟩) rn rc) (d := some 66) rfl rfl (by kernel_rfl) (by kernel_rfl) (by kernel_rfl) (fun _ _ _ h => h) (Or.inl ⟨by rfl, ?_⟩) hH ?_
                      · exact z1q31
                      try simp only [Act.put, lq31]
                      refine wpAnyH_take_dst (i := 11) (v := .int .i64 (y0 : Int)) (d := some 67) rfl rfl (by kernel_rfl) (by kernel_rfl) (by kernel_rfl) (fun _ _ _ h => h) (Or.inl ⟨by rfl, ?_⟩) hH ?_
                      · exact z1q31
                      try simp only [Act.put, lq31]
                      refine wpAnyH_take_dst (i := 12) (v := .pointer (some ⟨b5, o5 + y0, none⟩)) (d := some 68) rfl rfl (by kernel_rfl) (by kernel_rfl) (by kernel_rfl) (fun _ _ _ h => h) (Or.inl ⟨by rfl, ?_⟩) hH ?_
                      · exact z1q31
                      try simp only [Act.put, lq31]
                      refine wpAnyH_take_dst (i := 13) (v := .int .i64 zy) (d := some 69) rfl rfl (by kernel_rfl) (by kernel_rfl) (by kernel_rfl) (fun _ _ _ h => h) (Or.inl ⟨by rfl, ?_⟩) hH ?_
                      · exact z1q31
                      try simp only [Act.put, lq31]
                      refine wpAnyH_take_dst (i := 14) (v := .slice (some ⟨b5, o5, none⟩) rn rc) (d := some 70) rfl rfl (by kernel_rfl) (by kernel_rfl) (by kernel_rfl) (fun _ _ _ h => h) (Or.inl ⟨by rfl, ?_⟩) hH ?_
                      · exact z1q31
                      try simp only [Act.put, lq31]
                      refine wpAnyH_take_dst (i := 15) (v := .int .i64 (x0 : Int)) (d := some 71) rfl rfl (by kernel_rfl) (by kernel_rfl) (by kernel_rfl) (fun _ _ _ h => h) (Or.inl ⟨by rfl, ?_⟩) hH ?_
                      · exact z1q31
                      try simp only [Act.put, lq31]
                      refine wpAnyH_take_dst (i := 16) (v := .pointer (some ⟨b5, o5 + x0, none⟩)) (d := some 72) rfl rfl (by kernel_rfl) (by kernel_rfl) (by kernel_rfl) (fun _ _ _ h => h) (Or.inl ⟨by rfl, ?_⟩) hH ?_
                      · exact z1q31
                      try simp only [Act.put, lq31]
                      refine wpAnyH_take_dst (i := 17) (v := .int .i64 zx) (d := some 73) rfl rfl (by kernel_rfl) (by kernel_rfl) (by kernel_rfl) (fun _ _ _ h => h) (Or.inl ⟨by rfl, ?_⟩) hH ?_
                      · exact z1q31
                      try simp only [Act.put, lq31]
                      refine wpAnyH_take_dst (i := 18) (v := .bool true) (d := some 74) rfl rfl (by kernel_rfl) (by kernel_rfl) (by kernel_rfl) (fun _ _ _ h => h) (Or.inl ⟨by rfl, ?_⟩) hH ?_
                      · exact z1q31
                      try simp only [Act.put, lq31]
                      refine wpAnyH_take_dst (i := 19) (v := .bool true) (d := some 75) rfl rfl (by kernel_rfl) (by kernel_rfl) (by kernel_rfl) (fun _ _ _ h => h) (Or.inl ⟨by rfl, ?_⟩) hH ?_
                      · exact z1q31
                      try simp only [Act.put, lq31]
                      refine wpAnyH_take_dst (i := 20) (v := .pointer (some ⟨Y.g, 0, none⟩)) (d := some 76) rfl rfl (by kernel_rfl) (by kernel_rfl) (by kernel_rfl) (fun _ _ _ h => h) (Or.inl ⟨by rfl, ?_⟩) hH ?_
                      · exact z1q31
                      try simp only [Act.put, lq31]
                      refine wpAnyH_take_dst (i := 21) (v := .int .i64 (i : Int)) (d := some 77) rfl rfl (by kernel_rfl) (by kernel_rfl) (by kernel_rfl) (fun _ _ _ h => h) (Or.inl ⟨by rfl, ?_⟩) hH ?_
                      · exact z1q31
                      try simp only [Act.put, lq31]
                      refine wpAnyH_take_dst (i := 22) (v := .int .i64 (j : Int)) (d := some 78) rfl rfl (by kernel_rfl) (by kernel_rfl) (by kernel_rfl) (fun _ _ _ h => h) (Or.inl ⟨by rfl, ?_⟩) hH ?_
                      · exact z1q31
                      try simp only [Act.put, lq31]
                      refine wpAnyH_ready (rs := [23]) (by kernel_rfl) (by simp) ?_
                      refine AllReadyH.cons rfl (fun K hK => ?_) AllReadyH.nil
                      rw [if_pos (by rfl)]
                      go_wp2_with (go_at_call 60; (with_reducible refine ((c_l13Over (V := V) (W := WW) HOV.out HP.out (HV2.out.ext hH.1) HA2.out (fun k b hb => .flag (HT2.out k b hb)))).mono ?_); rintro e w3 ⟨rfl, hE9⟩)
                      refine hK.out _ _ ⟨Ext.trans hH.1 hE9, Ext.keep hE9 hH.2.1, Ext.keep hE9 hH.2.2⟩ (fun hH9 => ?_)
                      clear hK hH; have hH := hH9; clear hH9
                      try simp only [Act.put, lq31]
                      refine wpAnyH_take_dst (i := 24) (v := .bool false) (d := some 80) rfl rfl (by kernel_rfl) (by kernel_rfl) (by kernel_rfl) (fun _ _ _ h => h) (Or.inl ⟨by rfl, ?_⟩) hH ?_
                      · exact z1q31
                      try simp only [Act.put, lq31]
                      refine wpAnyH_take_dst (i := 25) (v := .bool false) (d := some 81) rfl rfl (by kernel_rfl) (by kernel_rfl) (by kernel_rfl) (fun _ _ _ h => h) (Or.inl ⟨by rfl, ?_⟩) hH ?_
                      · exact z1q31
                      try simp only [Act.put, lq31]
                      refine wpAnyH_take_dst (i := 26) (v := .bool false) (d := some 14) rfl rfl (by kernel_rfl) (by kernel_rfl) (by kernel_rfl) (fun _ _ _ h => h) (Or.inl ⟨by rfl, ?_⟩) hH ?_
                      · exact z1q31
                      try simp only [Act.put, lq31]
                      refine wpAnyH_done (by kernel_rfl) ?_ _
                      obtain ⟨hE3, _, _⟩ := hH
                      clear HV5
                      have hE5w3 : Ext w w3 := Ext.trans hE5w hE3
                      clear hE5w
                      have hE5w := hE5w3
                      clear hE5w3
                      have HV5 := Lib.hid (HV2.out.ext hE3)
                      have c6b := HV5.out.c6
                      have cwb := HV5.out.wy i hi'
                      go_wp2_with fail
                      refine wp_only (R := fun (a0 : Act) (a8 : Act) (w9 : World) => a8 = (((((((((((a0.put (some 82) (.pointer (some ⟨Y.g, 0, none⟩))).put (some 83) (.pointer (some ⟨Y.g, 0, none⟩))).put (some 84) (.pointer (some ⟨Y.g, 6, none⟩))).put (some 85) (.slice (some ⟨Y.wb, 0, none⟩) Y.k Y.wc)).put (some 86) (.int .i64 (i : Int))).put (some 87) (.pointer (some ⟨Y.wb, i, none⟩))).put (some 88) (.slice (some ⟨Y.row i, 0, none⟩) Y.m Y.m)).put (some 89) (.int .i64 (j : Int))).put (some 90) (.bool false)).put (some 91) (.int .i64 (flB false))).put (some 92) (.pointer (some ⟨Y.row i, j, none⟩))) ∧ Y.H w9 (putV V i j (flB false)) ∧ Ext w w9) ?_ (fun a8 w9 hR => ?_)
                      · refine wp_region_held_drew (S := (fun w' => w'.cell? ⟨Y.g, 6, none⟩ = some (.slice (some ⟨Y.wb, 0, none⟩) Y.k Y.wc) ∧ w'.cell? ⟨Y.wb, i, none⟩ = some (.slice (some ⟨Y.row i, 0, none⟩) Y.m Y.m))) (by kernel_rfl) (⟨c6b, cwb⟩) (fun hH => ?_)
                        refine wpAnyH_take_dst (i := 0) (v := .pointer (some ⟨Y.g, 0, none⟩)) (d := some 82) rfl rfl (by kernel_rfl) (by kernel_rfl) (by kernel_rfl) (fun _ _ _ h => h) (Or.inl ⟨by rfl, ?_⟩) hH ?_
                        · exact z0q31
                        try simp only [Act.put, lq31]
                        refine wpAnyH_take_dst (i := 1) (v := .pointer (some ⟨Y.g, 0, none⟩)) (d := some 83) rfl rfl (by kernel_rfl) (by kernel_rfl) (by kernel_rfl) (fun _ _ _ h => h) (Or.inl ⟨by rfl, ?_⟩) hH ?_
                        · exact z0q31
                        try simp only [Act.put, lq31]
                        refine wpAnyH_take_dst (i := 2) (v := .pointer (some ⟨Y.g, 6, none⟩)) (d := some 84) rfl rfl (by kernel_rfl) (by kernel_rfl) (by kernel_rfl) (fun _ _ _ h => h) (Or.inl ⟨by rfl, ?_⟩) hH ?_
                        · exact z0q31
                        try simp only [Act.put, lq31]
                        refine wpAnyH_take_dst (i := 3) (v := .slice (some ⟨Y.wb, 0, none⟩) Y.k Y.wc) (d := some 85) rfl rfl (by kernel_rfl) (by kernel_rfl) (by kernel_rfl) (fun _ _ _ h => h) (Or.inl ⟨by rfl, ?_⟩) hH ?_
                        · exact z0q31
                        try simp only [Act.put, lq31]
                        refine wpAnyH_take_dst (i := 4) (v := .int .i64 (i : Int)) (d := some 86) rfl rfl (by kernel_rfl) (by kernel_rfl) (by kernel_rfl) (fun _ _ _ h => h) (Or.inl ⟨by rfl, ?_⟩) hH ?_
                        · exact z0q31
                        try simp only [Act.put, lq31]
                        refine wpAnyH_take_dst (i := 5) (v := .pointer (some ⟨Y.wb, i, none⟩)) (d := some 87) rfl rfl (by kernel_rfl) (by kernel_rfl) (by kernel_rfl) (fun _ _ _ h => h) (Or.inl ⟨by rfl, ?_⟩) hH ?_
                        · exact z0q31
                        try simp only [Act.put, lq31]
                        refine wpAnyH_take_dst (i := 6) (v := .slice (some ⟨Y.row i, 0, none⟩) Y.m Y.m) (d := some 88) rfl rfl (by kernel_rfl) (by kernel_rfl) (by kernel_rfl) (fun _ _ _ h => h) (Or.inl ⟨by rfl, ?_⟩) hH ?_
                        · exact z0q31
                        try simp only [Act.put, lq31]
                        refine wpAnyH_take_dst (i := 7) (v := .int .i64 (j : Int)) (d := some 89) rfl rfl (by kernel_rfl) (by kernel_rfl) (by kernel_rfl) (fun _ _ _ h => h) (Or.inl ⟨by rfl, ?_⟩) hH ?_
                        · exact z0q31
                        try simp only [Act.put, lq31]
                        refine wpAnyH_take_dst (i := 8) (v := .bool false) (d := some 90) rfl rfl (by kernel_rfl) (by kernel_rfl) (by kernel_rfl) (fun _ _ _ h => h) (Or.inl ⟨by rfl, ?_⟩) hH ?_
                        · exact z0q31
                        try simp only [Act.put, lq31]
                        refine wpAnyH_ready (rs := [9]) (by kernel_rfl) (by simp) ?_
                        refine AllReadyH.cons rfl (fun K hK => ?_) AllReadyH.nil
                        rw [if_pos (by rfl)]
                        go_wp2_with fail
                        (with_reducible refine (c_l1Flag false).mono ?_)
                        rintro e w9 ⟨rfl, hE9⟩
                        refine hK.out _ _ (⟨Ext.keep hE9 hH.1, Ext.keep hE9 hH.2⟩) (fun hH9 => ?_)
                        clear hK; have hH0 := hH; clear hH; have hH := hH9; clear hH9
                        try simp only [Act.put, lq31]
                        refine wpAnyH_take_dst (i := 10) (v := .pointer (some ⟨Y.row i, j, none⟩)) (d := some 92) rfl rfl (by kernel_rfl) (by kernel_rfl) (by kernel_rfl) (fun _ _ _ h => h) (Or.inl ⟨by rfl, ?_⟩) hH ?_
                        · exact z0q31
                        try simp only [Act.put, lq31]
                        refine wpAnyH_ready (rs := [11]) (by kernel_rfl) (by simp) ?_
                        refine AllReadyH.cons rfl (fun K hK => ?_) AllReadyH.nil
                        rw [if_pos (by rfl)]
                        have h13 := (HV5.out.ext (Ext.trans (Ext.drew (Ext.refl w3)) hE9)).v i j hi' hj'; have f13 := fun j => (HV5.out.ext (Ext.trans (Ext.drew (Ext.refl w3)) hE9)).fr i j hi'; go_wp2_with fail
                        refine hK.out _ _ (⟨((HV5.out.ext (Ext.trans (Ext.drew (Ext.refl w3)) hE9)).put hi' (j := j) (flB false)).c6, ((HV5.out.ext (Ext.trans (Ext.drew (Ext.refl w3)) hE9)).put hi' (j := j) (flB false)).wy i hi'⟩) (fun hH9 => ?_)
                        clear hK; have hH0 := hH; clear hH; have hH := hH9; clear hH9
                        try simp only [Act.put, lq31]
                        refine wpAnyH_done (by kernel_rfl) ?_ _
                        exact ⟨rfl, (HV5.out.ext (Ext.trans (Ext.drew (Ext.refl w3)) hE9)).put hi' (flB false), Ext.set (Ext.trans hE5w (Ext.trans (Ext.drew (Ext.refl w3)) hE9)) (HROW.out i hi') _⟩
                      obtain ⟨ha, ⟨hH9, hE9⟩⟩ := hR
                      simp only [Act.put, lq31] at ha
                      subst ha
                      have HN := Lib.hid (show Y.H w9 (putV V i j (flB false)) ∧ Filled Y F (putV V i j (flB false)) i j from ⟨hH9, HFI.out.step _ (by rw [HSI.out, HTJ.out, HWF.out]; exact flB_eq HBB.out)⟩)
                      clear hH9
                      go_wp2
                      go_roundw
                      case rel => exact ⟨i, by first | rfl | (congr 1; omega), by omega, Lib.hid ⟨_, HN.out⟩, hE9⟩
                      case measure => simp only [intOf]; omega
                  · have hdl : decide (zy < zx) = false := by simpa using hlt
                    have HBB := Lib.hid (show false = decide (0 < WW (.node (x0 : Int) us) (.node (y0 : Int) ss)) by rw [HR2.out, if_neg (fun h => hlt (by have := h.1; rw [HKX.out, HKY.out] at this; exact this))]; rfl)
                    clear hlt hxy
                    go_wp2_with fail
                    (with_reducible refine (c_l13Arg (V := V) (W := WW) HAG.out HP.out HV.out HA2.out (fun k a ha => .flag (HT1.out k a ha))).mono ?_)
                    rintro e w2 ⟨rfl, hE2b⟩
                    have hE5w : Ext w w2 := Ext.trans hE2 hE2b
                    have HV5 := Lib.hid (HV.out.ext hE2b)
                    have HV2 := HV5
                    have d71 := Ext.keep hE5w d7
                    have d81 := Ext.keep hE5w d8
                    go_wp2_with fail
                    refine wp_region_held_drew (S := (fun w' => Ext w2 w' ∧ w'.cell? ⟨b5, o5 + x0, none⟩ = some (.int .i64 zx) ∧ w'.cell? ⟨b5, o5 + y0, none⟩ = some (.int .i64 zy))) (by kernel_rfl) ?_ (fun hH => ?_)
                    · exact ⟨(Ext.refl w2).drew, d71, d81⟩
                    refine wpAnyH_take_dst (i := 0) (v := .int .i64 (y0 : Int)) (d := some 56) rfl rfl (by kernel_rfl) (by kernel_rfl) (by kernel_rfl) (fun _ _ _ h => h) (Or.inl ⟨by rfl, ?_⟩) hH ?_
                    · exact z1q31
                    try simp only [Act.put, lq31]
                    refine wpAnyH_take_dst (i := 1) (v := .int .i64 (x0 : Int)) (d := some 57) rfl rfl (by kernel_rfl) (by kernel_rfl) (by kernel_rfl) (fun _ _ _ h => h) (Or.inl ⟨by rfl, ?_⟩) hH ?_
                    · exact z1q31
                    try simp only [Act.put, lq31]
                    refine wpAnyH_take_dst (i := 2) (v := .bool false) (d := some 58) rfl rfl (by kernel_rfl) (by kernel_rfl) (by kernel_rfl) (fun _ _ _ h => h) (Or.inl ⟨by rfl, ?_⟩) hH ?_
                    · exact z1q31
                    try simp only [Act.put, lq31]
                    refine wpAnyH_take_dst (i := 3) (v := .bool false) (d := some 59) rfl rfl (by kernel_rfl) (by kernel_rfl) (by kernel_rfl) (fun _ _ _ h => h) (Or.inl ⟨by rfl, ?_⟩) hH ?_
                    · exact z1q31
                    try simp only [Act.put, lq31]
                    refine wpAnyH_take_dst (i := 4) (v := undef) (d := some 60) rfl rfl (by kernel_rfl) (by kernel_rfl) (by kernel_rfl) (fun _ _ _ h => h) (Or.inr ⟨by rfl, rfl⟩) hH ?_
                    try simp only [Act.put, lq31]
                    refine wpAnyH_take_dst (i := 5) (v := undef) (d := some 61) rfl rfl (by kernel_rfl) (by kernel_rfl) (by kernel_rfl) (fun _ _ _ h => h) (Or.inr ⟨by rfl, rfl⟩) hH ?_
                    try simp only [Act.put, lq31]
                    refine wpAnyH_take_dst (i := 6) (v := undef) (d := some 62) rfl rfl (by kernel_rfl) (by kernel_rfl) (by kernel_rfl) (fun _ _ _ h => h) (Or.inr ⟨by rfl, rfl⟩) hH ?_
                    try simp only [Act.put, lq31]
                    refine wpAnyH_take_dst (i := 7) (v := undef) (d := some 63) rfl rfl (by kernel_rfl) (by kernel_rfl) (by kernel_rfl) (fun _ _ _ h => h) (Or.inr ⟨by rfl, rfl⟩) hH ?_
                    try simp only [Act.put, lq31]
                    refine wpAnyH_take_dst (i := 8) (v := .bool false) (d := some 64) rfl rfl (by kernel_rfl) (by kernel_rfl) (by kernel_rfl) (fun _ _ _ h => h) (Or.inl ⟨by rfl, ?_⟩) hH ?_
                    · exact z1q31
                    try simp only [Act.put, lq31]
                    refine wpAnyH_take_dst (i := 9) (v := .bool false) (d := some 65) rfl rfl (by kernel_rfl) (by kernel_rfl) (by kernel_rfl) (fun _ _ _ h => h) (Or.inl ⟨by rfl, ?_⟩) hH ?_
                    · exact z1q31
                    try simp only [Act.put, lq31]
                    refine wpAnyH_take_dst (i := 10) (v := .slice (some ⟨b5, o5, none⟩) rn rc) (d := some 66) rfl rfl (by kernel_rfl) (by kernel_rfl) (by kernel_rfl) (fun _ _ _ h => h) (Or.inl ⟨by rfl, ?_⟩) hH ?_
                    · exact z1q31
                    try simp only [Act.put, lq31]
                    refine wpAnyH_take_dst (i := 11) (v := .int .i64 (y0 : Int)) (d := some 67) rfl rfl (by kernel_rfl) (by kernel_rfl) (by kernel_rfl) (fun _ _ _ h => h) (Or.inl ⟨by rfl, ?_⟩) hH ?_
                    · exact z1q31
                    try simp only [Act.put, lq31]
                    refine wpAnyH_take_dst (i := 12) (v := .pointer (some ⟨b5, o5 + y0, none⟩)) (d := some 68) rfl rfl (by kernel_rfl) (by kernel_rfl) (by kernel_rfl) (fun _ _ _ h => h) (Or.inl ⟨by rfl, ?_⟩) hH ?_
                    · exact z1q31
                    try simp only [Act.put, lq31]
                    refine wpAnyH_take_dst (i := 13) (v := .int .i64 zy) (d := some 69) rfl rfl (by kernel_rfl) (by kernel_rfl) (by kernel_rfl) (fun _ _ _ h => h) (Or.inl ⟨by rfl, ?_⟩) hH ?_
                    · exact z1q31
                    try simp only [Act.put, lq31]
                    refine wpAnyH_take_dst (i := 14) (v := .slice (some ⟨b5, o5, none⟩) rn rc) (d := some 70) rfl rfl (by kernel_rfl) (by kernel_rfl) (by kernel_rfl) (fun _ _ _ h => h) (Or.inl ⟨by rfl, ?_⟩) hH ?_
                    · exact z1q31
                    try simp only [Act.put, lq31]
                    refine wpAnyH_take_dst (i := 15) (v := .int .i64 (x0 : Int)) (d := some 71) rfl rfl (by kernel_rfl) (by kernel_rfl) (by kernel_rfl) (fun _ _ _ h => h) (Or.inl ⟨by rfl, ?_⟩) hH ?_
                    · exact z1q31
                    try simp only [Act.put, lq31]
                    refine wpAnyH_take_dst (i := 16) (v := .pointer (some ⟨b5, o5 + x0, none⟩)) (d := some 72) rfl rfl (by kernel_rfl) (by kernel_rfl) (by kernel_rfl) (fun _ _ _ h => h) (Or.inl ⟨by rfl, ?_⟩) hH ?_
                    · exact z1q31
                    try simp only [Act.put, lq31]
                    refine wpAnyH_take_dst (i := 17) (v := .int .i64 zx) (d := some 73) rfl rfl (by kernel_rfl) (by kernel_rfl) (by kernel_rfl) (fun _ _ _ h => h) (Or.inl ⟨by rfl, ?_⟩) hH ?_
                    · exact z1q31
                    try simp only [Act.put, lq31]
                    refine wpAnyH_take_dst (i := 18) (v := .bool false) (d := some 74) rfl rfl (by kernel_rfl) (by kernel_rfl) (by kernel_rfl) (fun _ _ _ h => h) (Or.inl ⟨by rfl, ?_⟩) hH ?_
                    · exact z1q31
                    try simp only [Act.put, lq31]
                    refine wpAnyH_take_dst (i := 19) (v := .bool false) (d := some 75) rfl rfl (by kernel_rfl) (by kernel_rfl) (by kernel_rfl) (fun _ _ _ h => h) (Or.inl ⟨by rfl, ?_⟩) hH ?_
                    · exact z1q31
                    try simp only [Act.put, lq31]
                    refine wpAnyH_take_dst (i := 20) (v := undef) (d := some 76) rfl rfl (by kernel_rfl) (by kernel_rfl) (by kernel_rfl) (fun _ _ _ h => h) (Or.inr ⟨by rfl, rfl⟩) hH ?_
                    try simp only [Act.put, lq31]
                    refine wpAnyH_take_dst (i := 21) (v := undef) (d := some 77) rfl rfl (by kernel_rfl) (by kernel_rfl) (by kernel_rfl) (fun _ _ _ h => h) (Or.inr ⟨by rfl, rfl⟩) hH ?_
                    try simp only [Act.put, lq31]
                    refine wpAnyH_take_dst (i := 22) (v := undef) (d := some 78) rfl rfl (by kernel_rfl) (by kernel_rfl) (by kernel_rfl) (fun _ _ _ h => h) (Or.inr ⟨by rfl, rfl⟩) hH ?_
                    try simp only [Act.put, lq31]
                    refine wpAnyH_take_dst (i := 23) (v := undef) (d := some 79) rfl rfl (by kernel_rfl) (by kernel_rfl) (by kernel_rfl) (fun _ _ _ h => h) (Or.inr ⟨by rfl, rfl⟩) hH ?_
                    try simp only [Act.put, lq31]
                    refine wpAnyH_take_dst (i := 24) (v := .bool false) (d := some 80) rfl rfl (by kernel_rfl) (by kernel_rfl) (by kernel_rfl) (fun _ _ _ h => h) (Or.inl ⟨by rfl, ?_⟩) hH ?_
                    · exact z1q31
                    try simp only [Act.put, lq31]
                    refine wpAnyH_take_dst (i := 25) (v := .bool false) (d := some 81) rfl rfl (by kernel_rfl) (by kernel_rfl) (by kernel_rfl) (fun _ _ _ h => h) (Or.inl ⟨by rfl, ?_⟩) hH ?_
                    · exact z1q31
                    try simp only [Act.put, lq31]
                    refine wpAnyH_take_dst (i := 26) (v := .bool false) (d := some 14) rfl rfl (by kernel_rfl) (by kernel_rfl) (by kernel_rfl) (fun _ _ _ h => h) (Or.inl ⟨by rfl, ?_⟩) hH ?_
                    · exact z1q31
                    try simp only [Act.put, lq31]
                    refine wpAnyH_done (by kernel_rfl) ?_ _
                    obtain ⟨hE3, _, _⟩ := hH
                    obtain ⟨w3, hw3⟩ : ∃ w3, w3 = w2.drew := ⟨_, rfl⟩
                    rw [← hw3] at hE3 ⊢
                    clear hw3
                    clear HV5
                    have hE5w3 : Ext w w3 := Ext.trans hE5w hE3
                    clear hE5w
                    have hE5w := hE5w3
                    clear hE5w3
                    have HV5 := Lib.hid (HV2.out.ext hE3)
                    have c6b := HV5.out.c6
                    have cwb := HV5.out.wy i hi'
                    go_wp2_with fail
                    refine wp_only (R := fun (a0 : Act) (a8 : Act) (w9 : World) => a8 = (((((((((((a0.put (some 82) (.pointer (some ⟨Y.g, 0, none⟩))).put (some 83) (.pointer (some ⟨Y.g, 0, none⟩))).put (some 84) (.pointer (some ⟨Y.g, 6, none⟩))).put (some 85) (.slice (some ⟨Y.wb, 0, none⟩) Y.k Y.wc)).put (some 86) (.int .i64 (i : Int))).put (some 87) (.pointer (some ⟨Y.wb, i, none⟩))).put (some 88) (.slice (some ⟨Y.row i, 0, none⟩) Y.m Y.m)).put (some 89) (.int .i64 (j : Int))).put (some 90) (.bool false)).put (some 91) (.int .i64 (flB false))).put (some 92) (.pointer (some ⟨Y.row i, j, none⟩))) ∧ Y.H w9 (putV V i j (flB false)) ∧ Ext w w9) ?_ (fun a8 w9 hR => ?_)
                    · refine wp_region_held_drew (S := (fun w' => w'.cell? ⟨Y.g, 6, none⟩ = some (.slice (some ⟨Y.wb, 0, none⟩) Y.k Y.wc) ∧ w'.cell? ⟨Y.wb, i, none⟩ = some (.slice (some ⟨Y.row i, 0, none⟩) Y.m Y.m))) (by kernel_rfl) (⟨c6b, cwb⟩) (fun hH => ?_)
                      refine wpAnyH_take_dst (i := 0) (v := .pointer (some ⟨Y.g, 0, none⟩)) (d := some 82) rfl rfl (by kernel_rfl) (by kernel_rfl) (by kernel_rfl) (fun _ _ _ h => h) (Or.inl ⟨by rfl, ?_⟩) hH ?_
                      · exact z0q31
                      try simp only [Act.put, lq31]
                      refine wpAnyH_take_dst (i := 1) (v := .pointer (some ⟨Y.g, 0, none⟩)) (d := some 83) rfl rfl (by kernel_rfl) (by kernel_rfl) (by kernel_rfl) (fun _ _ _ h => h) (Or.inl ⟨by rfl, ?_⟩) hH ?_
                      · exact z0q31
                      try simp only [Act.put, lq31]
                      refine wpAnyH_take_dst (i := 2) (v := .pointer (some ⟨Y.g, 6, none⟩)) (d := some 84) rfl rfl (by kernel_rfl) (by kernel_rfl) (by kernel_rfl) (fun _ _ _ h => h) (Or.inl ⟨by rfl, ?_⟩) hH ?_
                      · exact z0q31
                      try simp only [Act.put, lq31]
                      refine wpAnyH_take_dst (i := 3) (v := .slice (some ⟨Y.wb, 0, none⟩) Y.k Y.wc) (d := some 85) rfl rfl (by kernel_rfl) (by kernel_rfl) (by kernel_rfl) (fun _ _ _ h => h) (Or.inl ⟨by rfl, ?_⟩) hH ?_
                      · exact z0q31
                      try simp only [Act.put, lq31]
                      refine wpAnyH_take_dst (i := 4) (v := .int .i64 (i : Int)) (d := some 86) rfl rfl (by kernel_rfl) (by kernel_rfl) (by kernel_rfl) (fun _ _ _ h => h) (Or.inl ⟨by rfl, ?_⟩) hH ?_
                      · exact z0q31
                      try simp only [Act.put, lq31]
                      refine wpAnyH_take_dst (i := 5) (v := .pointer (some ⟨Y.wb, i, none⟩)) (d := some 87) rfl rfl (by kernel_rfl) (by kernel_rfl) (by kernel_rfl) (fun _ _ _ h => h) (Or.inl ⟨by rfl, ?_⟩) hH ?_
                      · exact z0q31
                      try simp only [Act.put, lq31]
                      refine wpAnyH_take_dst (i := 6) (v := .slice (some ⟨Y.row i, 0, none⟩) Y.m Y.m) (d := some 88) rfl rfl (by kernel_rfl) (by kernel_rfl) (by kernel_rfl) (fun _ _ _ h => h) (Or.inl ⟨by rfl, ?_⟩) hH ?_
                      · exact z0q31
                      try simp only [Act.put, lq31]
                      refine wpAnyH_take_dst (i := 7) (v := .int .i64 (j : Int)) (d := some 89) rfl rfl (by kernel_rfl) (by kernel_rfl) (by kernel_rfl) (fun _ _ _ h => h) (Or.inl ⟨by rfl, ?_⟩) hH ?_
                      · exact z0q31
                      try simp only [Act.put, lq31]
                      refine wpAnyH_take_dst (i := 8) (v := .bool false) (d := some 90) rfl rfl (by kernel_rfl) (by kernel_rfl) (by kernel_rfl) (fun _ _ _ h => h) (Or.inl ⟨by rfl, ?_⟩) hH ?_
                      · exact z0q31
                      try simp only [Act.put, lq31]
                      refine wpAnyH_ready (rs := [9]) (by kernel_rfl) (by simp) ?_
                      refine AllReadyH.cons rfl (fun K hK => ?_) AllReadyH.nil
                      rw [if_pos (by rfl)]
                      go_wp2_with fail
                      (with_reducible refine (c_l1Flag false).mono ?_)
                      rintro e w9 ⟨rfl, hE9⟩
                      refine hK.out _ _ (⟨Ext.keep hE9 hH.1, Ext.keep hE9 hH.2⟩) (fun hH9 => ?_)
                      clear hK; have hH0 := hH; clear hH; have hH := hH9; clear hH9
                      try simp only [Act.put, lq31]
                      refine wpAnyH_take_dst (i := 10) (v := .pointer (some ⟨Y.row i, j, none⟩)) (d := some 92) rfl rfl (by kernel_rfl) (by kernel_rfl) (by kernel_rfl) (fun _ _ _ h => h) (Or.inl ⟨by rfl, ?_⟩) hH ?_
                      · exact z0q31
                      try simp only [Act.put, lq31]
                      refine wpAnyH_ready (rs := [11]) (by kernel_rfl) (by simp) ?_
                      refine AllReadyH.cons rfl (fun K hK => ?_) AllReadyH.nil
                      rw [if_pos (by rfl)]
                      have h13 := (HV5.out.ext (Ext.trans (Ext.drew (Ext.refl w3)) hE9)).v i j hi' hj'; have f13 := fun j => (HV5.out.ext (Ext.trans (Ext.drew (Ext.refl w3)) hE9)).fr i j hi'; go_wp2_with fail
                      refine hK.out _ _ (⟨((HV5.out.ext (Ext.trans (Ext.drew (Ext.refl w3)) hE9)).put hi' (j := j) (flB false)).c6, ((HV5.out.ext (Ext.trans (Ext.drew (Ext.refl w3)) hE9)).put hi' (j := j) (flB false)).wy i hi'⟩) (fun hH9 => ?_)
                      clear hK; have hH0 := hH; clear hH; have hH := hH9; clear hH9
                      try simp only [Act.put, lq31]
                      refine wpAnyH_done (by kernel_rfl) ?_ _
                      exact ⟨rfl, (HV5.out.ext (Ext.trans (Ext.drew (Ext.refl w3)) hE9)).put hi' (flB false), Ext.set (Ext.trans hE5w (Ext.trans (Ext.drew (Ext.refl w3)) hE9)) (HROW.out i hi') _⟩
                    obtain ⟨ha, ⟨hH9, hE9⟩⟩ := hR
                    simp only [Act.put, lq31] at ha
                    subst ha
                    have HN := Lib.hid (show Y.H w9 (putV V i j (flB false)) ∧ Filled Y F (putV V i j (flB false)) i j from ⟨hH9, HFI.out.step _ (by rw [HSI.out, HTJ.out, HWF.out]; exact flB_eq HBB.out)⟩)
                    clear hH9
                    go_wp2
                    go_roundw
                    case rel => exact ⟨i, by first | rfl | (congr 1; omega), by omega, Lib.hid ⟨_, HN.out⟩, hE9⟩
                    case measure => simp only [intOf]; omega
              · have hd2 : decide (0 ≤ x) = false := by simpa using hx0
                have HBB := Lib.hid (show false = decide (0 < WW (.node x us) (.node y ss)) by rw [HWE.out, lpoB_var (by omega)]; rfl)
                go_wp2_with fail
                (with_reducible refine (c_l13Arg (V := V) (W := WW) HAG.out HP.out HV.out HA2.out (fun k a ha => .flag (HT1.out k a ha))).mono ?_)
                rintro e w2 ⟨rfl, hE2b⟩
                have hE5w : Ext w w2 := Ext.trans hE2 hE2b
                have HV5 := Lib.hid (HV.out.ext hE2b)
                have c6b := HV5.out.c6
                have cwb := HV5.out.wy i hi'
                go_wp2_with fail
                refine wp_only (R := fun (a0 : Act) (a8 : Act) (w9 : World) => a8 = (((((((((((a0.put (some 82) (.pointer (some ⟨Y.g, 0, none⟩))).put (some 83) (.pointer (some ⟨Y.g, 0, none⟩))).put (some 84) (.pointer (some ⟨Y.g, 6, none⟩))).put (some 85) (.slice (some ⟨Y.wb, 0, none⟩) Y.k Y.wc)).put (some 86) (.int .i64 (i : Int))).put (some 87) (.pointer (some ⟨Y.wb, i, none⟩))).put (some 88) (.slice (some ⟨Y.row i, 0, none⟩) Y.m Y.m)).put (some 89) (.int .i64 (j : Int))).put (some 90) (.bool false)).put (some 91) (.int .i64 (flB false))).put (some 92) (.pointer (some ⟨Y.row i, j, none⟩))) ∧ Y.H w9 (putV V i j (flB false)) ∧ Ext w w9) ?_ (fun a8 w9 hR => ?_)
                · refine wp_region_held_drew (S := (fun w' => w'.cell? ⟨Y.g, 6, none⟩ = some (.slice (some ⟨Y.wb, 0, none⟩) Y.k Y.wc) ∧ w'.cell? ⟨Y.wb, i, none⟩ = some (.slice (some ⟨Y.row i, 0, none⟩) Y.m Y.m))) (by kernel_rfl) (⟨c6b, cwb⟩) (fun hH => ?_)
                  refine wpAnyH_take_dst (i := 0) (v := .pointer (some ⟨Y.g, 0, none⟩)) (d := some 82) rfl rfl (by kernel_rfl) (by kernel_rfl) (by kernel_rfl) (fun _ _ _ h => h) (Or.inl ⟨by rfl, ?_⟩) hH ?_
                  · exact z0q31
                  try simp only [Act.put, lq31]
                  refine wpAnyH_take_dst (i := 1) (v := .pointer (some ⟨Y.g, 0, none⟩)) (d := some 83) rfl rfl (by kernel_rfl) (by kernel_rfl) (by kernel_rfl) (fun _ _ _ h => h) (Or.inl ⟨by rfl, ?_⟩) hH ?_
                  · exact z0q31
                  try simp only [Act.put, lq31]
                  refine wpAnyH_take_dst (i := 2) (v := .pointer (some ⟨Y.g, 6, none⟩)) (d := some 84) rfl rfl (by kernel_rfl) (by kernel_rfl) (by kernel_rfl) (fun _ _ _ h => h) (Or.inl ⟨by rfl, ?_⟩) hH ?_
                  · exact z0q31
                  try simp only [Act.put, lq31]
                  refine wpAnyH_take_dst (i := 3) (v := .slice (some ⟨Y.wb, 0, none⟩) Y.k Y.wc) (d := some 85) rfl rfl (by kernel_rfl) (by kernel_rfl) (by kernel_rfl) (fun _ _ _ h => h) (Or.inl ⟨by rfl, ?_⟩) hH ?_
                  · exact z0q31
                  try simp only [Act.put, lq31]
                  refine wpAnyH_take_dst (i := 4) (v := .int .i64 (i : Int)) (d := some 86) rfl rfl (by kernel_rfl) (by kernel_rfl) (by kernel_rfl) (fun _ _ _ h => h) (Or.inl ⟨by rfl, ?_⟩) hH ?_
                  · exact z0q31
                  try simp only [Act.put, lq31]
                  refine wpAnyH_take_dst (i := 5) (v := .pointer (some ⟨Y.wb, i, none⟩)) (d := some 87) rfl rfl (by kernel_rfl) (by kernel_rfl) (by kernel_rfl) (fun _ _ _ h => h) (Or.inl ⟨by rfl, ?_⟩) hH ?_
                  · exact z0q31
                  try simp only [Act.put, lq31]
                  refine wpAnyH_take_dst (i := 6) (v := .slice (some ⟨Y.row i, 0, none⟩) Y.m Y.m) (d := some 88) rfl rfl (by kernel_rfl) (by kernel_rfl) (by kernel_rfl) (fun _ _ _ h => h) (Or.inl ⟨by rfl, ?_⟩) hH ?_
                  · exact z0q31
                  try simp only [Act.put, lq31]
                  refine wpAnyH_take_dst (i := 7) (v := .int .i64 (j : Int)) (d := some 89) rfl rfl (by kernel_rfl) (by kernel_rfl) (by kernel_rfl) (fun _ _ _ h => h) (Or.inl ⟨by rfl, ?_⟩) hH ?_
                  · exact z0q31
                  try simp only [Act.put, lq31]
                  refine wpAnyH_take_dst (i := 8) (v := .bool false) (d := some 90) rfl rfl (by kernel_rfl) (by kernel_rfl) (by kernel_rfl) (fun _ _ _ h => h) (Or.inl ⟨by rfl, ?_⟩) hH ?_
                  · exact z0q31
                  try simp only [Act.put, lq31]
                  refine wpAnyH_ready (rs := [9]) (by kernel_rfl) (by simp) ?_
                  refine AllReadyH.cons rfl (fun K hK => ?_) AllReadyH.nil
                  rw [if_pos (by rfl)]
                  go_wp2_with fail
                  (with_reducible refine (c_l1Flag false).mono ?_)
                  rintro e w9 ⟨rfl, hE9⟩
                  refine hK.out _ _ (⟨Ext.keep hE9 hH.1, Ext.keep hE9 hH.2⟩) (fun hH9 => ?_)
                  clear hK; have hH0 := hH; clear hH; have hH := hH9; clear hH9
                  try simp only [Act.put, lq31]
                  refine wpAnyH_take_dst (i := 10) (v := .pointer (some ⟨Y.row i, j, none⟩)) (d := some 92) rfl rfl (by kernel_rfl) (by kernel_rfl) (by kernel_rfl) (fun _ _ _ h => h) (Or.inl ⟨by rfl, ?_⟩) hH ?_
                  · exact z0q31
                  try simp only [Act.put, lq31]
                  refine wpAnyH_ready (rs := [11]) (by kernel_rfl) (by simp) ?_
                  refine AllReadyH.cons rfl (fun K hK => ?_) AllReadyH.nil
                  rw [if_pos (by rfl)]
                  have h13 := (HV5.out.ext (Ext.trans (Ext.drew (Ext.refl w2)) hE9)).v i j hi' hj'; have f13 := fun j => (HV5.out.ext (Ext.trans (Ext.drew (Ext.refl w2)) hE9)).fr i j hi'; go_wp2_with fail
                  refine hK.out _ _ (⟨((HV5.out.ext (Ext.trans (Ext.drew (Ext.refl w2)) hE9)).put hi' (j := j) (flB false)).c6, ((HV5.out.ext (Ext.trans (Ext.drew (Ext.refl w2)) hE9)).put hi' (j := j) (flB false)).wy i hi'⟩) (fun hH9 => ?_)
                  clear hK; have hH0 := hH; clear hH; have hH := hH9; clear hH9
                  try simp only [Act.put, lq31]
                  refine wpAnyH_done (by kernel_rfl) ?_ _
                  exact ⟨rfl, (HV5.out.ext (Ext.trans (Ext.drew (Ext.refl w2)) hE9)).put hi' (flB false), Ext.set (Ext.trans hE5w (Ext.trans (Ext.drew (Ext.refl w2)) hE9)) (HROW.out i hi') _⟩
                obtain ⟨ha, ⟨hH9, hE9⟩⟩ := hR
                simp only [Act.put, lq31] at ha
                subst ha
                have HN := Lib.hid (show Y.H w9 (putV V i j (flB false)) ∧ Filled Y F (putV V i j (flB false)) i j from ⟨hH9, HFI.out.step _ (by rw [HSI.out, HTJ.out, HWF.out]; exact flB_eq HBB.out)⟩)
                clear hH9
                go_wp2
                go_roundw
                case rel => exact ⟨i, by first | rfl | (congr 1; omega), by omega, Lib.hid ⟨_, HN.out⟩, hE9⟩
                case measure => simp only [intOf]; omega
            · have hd1 : decide (0 ≤ y) = false := by simpa using hy0
              have HBB := Lib.hid (show false = decide (0 < WW (.node x us) (.node y ss)) by
                rw [HWE.out]
                rcases Int.lt_or_le x 0 with h | h
                · rw [lpoB_var h]; rfl
                · rw [lpoB_rest h HAG.out, if_pos (by omega)]; rfl)
              go_wp2_with fail
              (with_reducible refine (c_l13Arg (V := V) (W := WW) HAG.out HP.out HV.out HA2.out (fun k a ha => .flag (HT1.out k a ha))).mono ?_)
              rintro e w2 ⟨rfl, hE2b⟩
              have hE5w : Ext w w2 := Ext.trans hE2 hE2b
              have HV5 := Lib.hid (HV.out.ext hE2b)
              have c6b := HV5.out.c6
              have cwb := HV5.out.wy i hi'
              go_wp2_with fail
              refine wp_only (R := fun (a0 : Act) (a8 : Act) (w9 : World) => a8 = (((((((((((a0.put (some 82) (.pointer (some ⟨Y.g, 0, none⟩))).put (some 83) (.pointer (some ⟨Y.g, 0, none⟩))).put (some 84) (.pointer (some ⟨Y.g, 6, none⟩))).put (some 85) (.slice (some ⟨Y.wb, 0, none⟩) Y.k Y.wc)).put (some 86) (.int .i64 (i : Int))).put (some 87) (.pointer (some ⟨Y.wb, i, none⟩))).put (some 88) (.slice (some ⟨Y.row i, 0, none⟩) Y.m Y.m)).put (some 89) (.int .i64 (j : Int))).put (some 90) (.bool false)).put (some 91) (.int .i64 (flB false))).put (some 92) (.pointer (some ⟨Y.row i, j, none⟩))) ∧ Y.H w9 (putV V i j (flB false)) ∧ Ext w w9) ?_ (fun a8 w9 hR => ?_)
              · refine wp_region_held_drew (S := (fun w' => w'.cell? ⟨Y.g, 6, none⟩ = some (.slice (some ⟨Y.wb, 0, none⟩) Y.k Y.wc) ∧ w'.cell? ⟨Y.wb, i, none⟩ = some (.slice (some ⟨Y.row i, 0, none⟩) Y.m Y.m))) (by kernel_rfl) (⟨c6b, cwb⟩) (fun hH => ?_)
                refine wpAnyH_take_dst (i := 0) (v := .pointer (some ⟨Y.g, 0, none⟩)) (d := some 82) rfl rfl (by kernel_rfl) (by kernel_rfl) (by kernel_rfl) (fun _ _ _ h => h) (Or.inl ⟨by rfl, ?_⟩) hH ?_
                · exact z0q31
                try simp only [Act.put, lq31]
                refine wpAnyH_take_dst (i := 1) (v := .pointer (some ⟨Y.g, 0, none⟩)) (d := some 83) rfl rfl (by kernel_rfl) (by kernel_rfl) (by kernel_rfl) (fun _ _ _ h => h) (Or.inl ⟨by rfl, ?_⟩) hH ?_
                · exact z0q31
                try simp only [Act.put, lq31]
                refine wpAnyH_take_dst (i := 2) (v := .pointer (some ⟨Y.g, 6, none⟩)) (d := some 84) rfl rfl (by kernel_rfl) (by kernel_rfl) (by kernel_rfl) (fun _ _ _ h => h) (Or.inl ⟨by rfl, ?_⟩) hH ?_
                · exact z0q31
                try simp only [Act.put, lq31]
                refine wpAnyH_take_dst (i := 3) (v := .slice (some ⟨Y.wb, 0, none⟩) Y.k Y.wc) (d := some 85) rfl rfl (by kernel_rfl) (by kernel_rfl) (by kernel_rfl) (fun _ _ _ h => h) (Or.inl ⟨by rfl, ?_⟩) hH ?_
                · exact z0q31
                try simp only [Act.put, lq31]
                refine wpAnyH_take_dst (i := 4) (v := .int .i64 (i : Int)) (d := some 86) rfl rfl (by kernel_rfl) (by kernel_rfl) (by kernel_rfl) (fun _ _ _ h => h) (Or.inl ⟨by rfl, ?_⟩) hH ?_
                · exact z0q31
                try simp only [Act.put, lq31]
                refine wpAnyH_take_dst (i := 5) (v := .pointer (some ⟨Y.wb, i, none⟩)) (d := some 87) rfl rfl (by kernel_rfl) (by kernel_rfl) (by kernel_rfl) (fun _ _ _ h => h) (Or.inl ⟨by rfl, ?_⟩) hH ?_
                · exact z0q31
                try simp only [Act.put, lq31]
                refine wpAnyH_take_dst (i := 6) (v := .slice (some ⟨Y.row i, 0, none⟩) Y.m Y.m) (d := some 88) rfl rfl (by kernel_rfl) (by kernel_rfl) (by kernel_rfl) (fun _ _ _ h => h) (Or.inl ⟨by rfl, ?_⟩) hH ?_
                · exact z0q31
                try simp only [Act.put, lq31]
                refine wpAnyH_take_dst (i := 7) (v := .int .i64 (j : Int)) (d := some 89) rfl rfl (by kernel_rfl) (by kernel_rfl) (by kernel_rfl) (fun _ _ _ h => h) (Or.inl ⟨by rfl, ?_⟩) hH ?_
                · exact z0q31
                try simp only [Act.put, lq31]
                refine wpAnyH_take_dst (i := 8) (v := .bool false) (d := some 90) rfl rfl (by kernel_rfl) (by kernel_rfl) (by kernel_rfl) (fun _ _ _ h => h) (Or.inl ⟨by rfl, ?_⟩) hH ?_
                · exact z0q31
                try simp only [Act.put, lq31]
                refine wpAnyH_ready (rs := [9]) (by kernel_rfl) (by simp) ?_
                refine AllReadyH.cons rfl (fun K hK => ?_) AllReadyH.nil
                rw [if_pos (by rfl)]
                go_wp2_with fail
                (with_reducible refine (c_l1Flag false).mono ?_)
                rintro e w9 ⟨rfl, hE9⟩
                refine hK.out _ _ (⟨Ext.keep hE9 hH.1, Ext.keep hE9 hH.2⟩) (fun hH9 => ?_)
                clear hK; have hH0 := hH; clear hH; have hH := hH9; clear hH9
                try simp only [Act.put, lq31]
                refine wpAnyH_take_dst (i := 10) (v := .pointer (some ⟨Y.row i, j, none⟩)) (d := some 92) rfl rfl (by kernel_rfl) (by kernel_rfl) (by kernel_rfl) (fun _ _ _ h => h) (Or.inl ⟨by rfl, ?_⟩) hH ?_
                · exact z0q31
                try simp only [Act.put, lq31]
                refine wpAnyH_ready (rs := [11]) (by kernel_rfl) (by simp) ?_
                refine AllReadyH.cons rfl (fun K hK => ?_) AllReadyH.nil
                rw [if_pos (by rfl)]
                have h13 := (HV5.out.ext (Ext.trans (Ext.drew (Ext.refl w2)) hE9)).v i j hi' hj'; have f13 := fun j => (HV5.out.ext (Ext.trans (Ext.drew (Ext.refl w2)) hE9)).fr i j hi'; go_wp2_with fail
                refine hK.out _ _ (⟨((HV5.out.ext (Ext.trans (Ext.drew (Ext.refl w2)) hE9)).put hi' (j := j) (flB false)).c6, ((HV5.out.ext (Ext.trans (Ext.drew (Ext.refl w2)) hE9)).put hi' (j := j) (flB false)).wy i hi'⟩) (fun hH9 => ?_)
                clear hK; have hH0 := hH; clear hH; have hH := hH9; clear hH9
                try simp only [Act.put, lq31]
                refine wpAnyH_done (by kernel_rfl) ?_ _
                exact ⟨rfl, (HV5.out.ext (Ext.trans (Ext.drew (Ext.refl w2)) hE9)).put hi' (flB false), Ext.set (Ext.trans hE5w (Ext.trans (Ext.drew (Ext.refl w2)) hE9)) (HROW.out i hi') _⟩
              obtain ⟨ha, ⟨hH9, hE9⟩⟩ := hR
              simp only [Act.put, lq31] at ha
              subst ha
              have HN := Lib.hid (show Y.H w9 (putV V i j (flB false)) ∧ Filled Y F (putV V i j (flB false)) i j from ⟨hH9, HFI.out.step _ (by rw [HSI.out, HTJ.out, HWF.out]; exact flB_eq HBB.out)⟩)
              clear hH9
              go_wp2
              go_roundw
              case rel => exact ⟨i, by first | rfl | (congr 1; omega), by omega, Lib.hid ⟨_, HN.out⟩, hE9⟩
              case measure => simp only [intOf]; omega
end Go.Proofs.Ytdlgjhngndpgoaa
