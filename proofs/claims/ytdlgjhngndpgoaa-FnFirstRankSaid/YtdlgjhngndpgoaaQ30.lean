/- Several texts in one: LpsW, LpsV, LpsO. -/
import Derived.Test.YtdlgjhngndpgoaaQ29
import Derived.Test.YtdlgjhngndpgoaaQ15
import Derived.Test.YtdlgjhngndpgoaaQ18
namespace Go.Proofs.Ytdlgjhngndpgoaa
open Go.RowKit
set_option linter.unusedSimpArgs false
set_option linter.unusedVariables false
def putV (V : Nat → Nat → Int) (i j : Nat) (v : Int) : Nat → Nat → Int := fun a b => if a = i ∧ b = j then v else V a b
theorem RI.farS {w w' : World} {b o n : Nat} {xs : List Int} (h : RI w (some ⟨b, o, none⟩) n xs) (hk : w'.heap[b]? = w.heap[b]?) : RI w' (some ⟨b, o, none⟩) n xs :=
  ⟨h.1, fun hn => by
    obtain ⟨b', o', e, hc⟩ := h.2 hn
    cases e
    exact ⟨b, o, rfl, fun j x hx => (World.cell?_of_block hk).trans (hc j x hx)⟩⟩
theorem SC.H.put {Y : SC} {w : World} {V : Nat → Nat → Int} (h : Y.H w V) {i j : Nat} (hi : i < Y.k) (v : Int) : Y.H (w.setCell ⟨Y.row i, j, none⟩ (.int .i64 v)) (putV V i j v) := by
  obtain ⟨f1, f2, f3, f4, f5, f6, f7, f8⟩ := h.far i hi
  have hs : ∀ b, b ≠ Y.row i → (w.setCell ⟨Y.row i, j, none⟩ (.int .i64 v)).heap[b]? = w.heap[b]? := fun b hb => Below.heap_setCell _ _ _ _ hb
  have hc : ∀ {b o u}, b ≠ Y.row i → w.cell? ⟨b, o, none⟩ = some u → (w.setCell ⟨Y.row i, j, none⟩ (.int .i64 v)).cell? ⟨b, o, none⟩ = some u := fun hb e => (World.cell?_of_block (hs _ hb)).trans e
  have hargs : ∀ {ar t : List Int} {pa : Nat}, pa ≠ Y.row i → ArgsIn w ar t pa Y.row Y.k → ArgsIn (w.setCell ⟨Y.row i, j, none⟩ (.int .i64 v)) ar t pa Y.row Y.k := fun hp ha q hq => by
    obtain ⟨A, c, h1, h2, h3⟩ := ha q hq
    refine ⟨A, c, hc hp h1, ⟨h2.1, fun hn => ?_⟩, h3⟩
    obtain ⟨b, o, e, h4⟩ := h2.2 hn
    exact ⟨b, o, e, fun r x hx => hc (h3 b o none e i hi) (h4 r x hx)⟩
  refine ⟨h.a.farS (hs _ (Ne.symm f1)), h.r.farS (hs _ (Ne.symm f2)), h.s.farS (hs _ (Ne.symm f3)), h.t.farS (hs _ (Ne.symm f4)), hc (Ne.symm f5) h.c0, hc (Ne.symm f5) h.c1, hc (Ne.symm f5) h.c2, hc (Ne.symm f5) h.c3, hc (Ne.symm f5) h.c4, hc (Ne.symm f5) h.c5, hc (Ne.symm f5) h.c6, hargs (Ne.symm f6) h.sa, hargs (Ne.symm f7) h.ta, fun a ha => hc (Ne.symm f8) (h.wy a ha), fun a b ha hb => ?_, fun a b ha => by rw [World.frozen?_setCell]; exact h.fr a b ha, fun a ha => by simpa [World.setCell] using h.lt a ha, h.one, h.far⟩
  unfold putV
  by_cases e : a = i ∧ b = j
  · obtain ⟨rfl, rfl⟩ := e
    rw [if_pos ⟨rfl, rfl⟩]
    exact World.cell?_setCell_same _ _ _ (h.v a b ha hb)
  · rw [if_neg e]
    by_cases e2 : a = i
    · subst e2
      rw [World.cell?_setCell_other _ _ _ _ (by first | (simp; done) | (simp; omega) | (simp; intro e3; exact absurd ⟨rfl, e3⟩ e) | (simp; intro e3; exact absurd ⟨rfl, e3.symm⟩ e))]
      exact h.v a b ha hb
    · exact hc (fun e3 => e2 (h.one a i ha hi e3)) (h.v a b ha hb)
def Filled (Y : SC) (F : Tm → Tm → Nat) (V : Nat → Nat → Int) (i j : Nat) : Prop := ∀ a b, a < Y.s.length → b < Y.t.length → (j < b ∨ (b = j ∧ i ≤ a)) → V a b = (F (subT Y.ar Y.t b) (subT Y.ar Y.s a) : Int)
theorem Filled.step {Y : SC} {F : Tm → Tm → Nat} {V : Nat → Nat → Int} {i j : Nat} (h : Filled Y F V (i + 1) j) (v : Int) (hv : v = (F (subT Y.ar Y.t j) (subT Y.ar Y.s i) : Int)) : Filled Y F (putV V i j v) i j := by
  intro a b ha hb hab
  unfold putV
  by_cases e : a = i ∧ b = j
  · obtain ⟨rfl, rfl⟩ := e
    rw [if_pos ⟨rfl, rfl⟩]; exact hv
  · rw [if_neg e]
    exact h a b ha hb (by omega)
theorem Filled.next {Y : SC} {F : Tm → Tm → Nat} {V : Nat → Nat → Int} {j : Nat} (h : Filled Y F V 0 (j + 1)) : Filled Y F V Y.s.length j := fun a b ha hb hab => h a b ha hb (by omega)
theorem Filled.at_ {Y : SC} {F : Tm → Tm → Nat} {V : Nat → Nat → Int} {i j a b : Nat} {t s : Tm} (h : Filled Y F V (i + 1) j) (ha : a < Y.s.length) (hb : b < Y.t.length) (hs : subT Y.ar Y.s a = s) (ht : subT Y.ar Y.t b = t) (hab : j < b ∨ (b = j ∧ i + 1 ≤ a)) : V a b = (F t s : Int) := by
  rw [← hs, ← ht]; exact h a b ha hb hab
theorem Told.of {v : Int} {n : Nat} (h : v = (n : Int)) : Told v n := by subst h; unfold Told; omega
theorem pl_lt {i : Nat} {us : List Tm} {k : Nat} : i < pl i us k := by unfold pl; omega
end Go.Proofs.Ytdlgjhngndpgoaa
namespace Go.Proofs.Ytdlgjhngndpgoaa
open Go.RowKit
set_option linter.unusedSimpArgs false
set_option linter.unusedVariables false
def flagN (W : Tm → Tm → Nat) (t s : Tm) : Nat := if 0 < W t s then 1 else 0
theorem Told.flag {v : Int} {W : Tm → Tm → Nat} {t s : Tm} (h : v = (flagN W t s : Int)) : Told v (W t s) := by
  subst h; unfold flagN Told
  split <;> omega
theorem SC.H.out {Y : SC} {w : World} {V : Nat → Nat → Int} {F : Tm → Tm → Nat} (h : Y.H w V) (hP : Y.P) (hF : Filled Y F V 0 0) : (0 < Y.k ∧ 0 < Y.m) ∧ w.cell? ⟨Y.wb, 0, none⟩ = some (.slice (some ⟨Y.row 0, 0, none⟩) Y.m Y.m) ∧ w.cell? ⟨Y.row 0, 0, none⟩ = some (.int .i64 (F (subT Y.ar Y.t 0) (subT Y.ar Y.s 0) : Int)) := by
  have hk : 0 < Y.k := by rw [← h.s.len]; exact hP.ts.2.1.1
  have hm : 0 < Y.m := by rw [← h.t.len]; exact hP.tt.2.1.1
  refine ⟨⟨hk, hm⟩, h.wy 0 hk, ?_⟩
  rw [h.v 0 0 hk hm, hF 0 0 hP.ts.2.1.1 hP.tt.2.1.1 (by omega)]
theorem lq30 : (∀ (l : List Value) (i : Nat) (a : Value), l.toArray.setIfInBounds i a = (l.set i a).toArray) ∧ (∀ (x y : Value) (l : List Value), (x :: l).set 0 y = y :: l) ∧ (∀ (x y : Value) (l : List Value) (n : Nat), (x :: l).set (n + 1) y = x :: l.set n y) := ⟨fun l i a => by simp, fun _ _ _ => rfl, fun _ _ _ _ => rfl⟩
theorem z0q30 {p : Prop} (h : p := by (intro w' hE'; (try dsimp only at hE'); obtain ⟨hs6, hsw⟩ := hE'; go_simp; try with_reducible rfl)) : p := h
set_option maxRecDepth 100000 in
set_option maxHeartbeats 8000000 in
theorem c_l13Why {ar rk s t : List Int} {A : Option Addr} {n c : Nat} {R : Option Addr} {rn rc : Nat} {B : Option Addr} {m d : Nat} {D : Option Addr} {k l : Nat} {w : World} (hs : SigP ar) (hrl : rk.length = ar.length) (ht : TermP ar t) (hss : TermP ar s)
    (ha : RI w A n ar) (hr : RI w R rn rk) (hB : RI w B m t) (hD : RI w D k s) (hmd : m ≤ d ∧ d ≤ 9223372036854775807) (hkl : k ≤ l ∧ l ≤ 9223372036854775807) :
    Calls Try.prog 56 #[.agg #[.slice A n c], .slice R rn rc, .slice D k l, .slice B m d] w fun e w' => e = .returned (.int .i64 (lpoW (rkF rk) true (subT ar t 0) (subT ar s 0) : Int)) ∧ Ext w w' := by
  have hm60 : m ≤ 60 := by rw [← hB.len]; exact ht.2.1.2
  have hk60 : k ≤ 60 := by rw [← hD.len]; exact hss.2.1.2
  have HA := Lib.hid ha
  have HR := Lib.hid hr
  have HB := Lib.hid hB
  have HD := Lib.hid hD
  have HS := Lib.hid hs
  have HT := Lib.hid ht
  have HSS := Lib.hid hss
  have HRL := Lib.hid hrl
  have HMD := Lib.hid hmd
  have HKL := Lib.hid hkl
  clear ha hr hB hD hs hrl ht hss hmd hkl
  go_enter Try.func56, Try.ntmps56
  go_wp2_with fail
  (with_reducible refine (c_l13Make HS.out HRL.out HT.out HSS.out (RI.ext HA.out (by exact extX)) (RI.ext HR.out (by exact extX)) (RI.ext HB.out (by exact extX)) (RI.ext HD.out (by exact extX)) HMD.out HKL.out).mono ?_)
  rintro e w1 ⟨Y, rfl, hP, hH, ⟨rfl, rfl, rfl, rfl⟩, hrow, hE1⟩
  obtain rfl : k = Y.k := by rw [← HD.out.len, hH.s.len]
  obtain rfl : m = Y.m := by rw [← HB.out.len, hH.t.len]
  have hE1w : Ext w w1 := Ext.trans (by exact extX) hE1
  have HP := Lib.hid hP
  have HROW := Lib.hid (show ∀ i, i < Y.k → w.heap.size ≤ Y.row i from fun i hi => by have := hrow i hi; simp [go_sem] at this; omega)
  have HH := Lib.hid hH
  obtain ⟨F, hF⟩ : ∃ F, F = lpoW (rkF Y.rk) true := ⟨_, rfl⟩
  have HF := Lib.hid hF
  clear hP hH hrow hF hE1
  go_wp2_with fail
  go_loopw [10] (fun jv wr => ∃ p : Nat, jv = .int .i64 ((p : Int) - 1) ∧ p ≤ Y.m ∧ Hid (∃ V, Y.H wr V ∧ Filled Y F V 0 p) ∧ Ext w wr) (fun jv _ => (intOf jv + 1).toNat)
  case atStart => exact ⟨Y.m, rfl, Nat.le_refl _, Lib.hid ⟨_, HH.out, fun a b ha hb hab => by rw [HH.out.t.len] at hb; omega⟩, hE1w⟩
  case round =>
    obtain ⟨p, rfl, hp, hV, hE⟩ := hrel
    cases p with
    | zero =>
      obtain ⟨V, h1, h2⟩ := hV.out
      obtain ⟨⟨q1, q2⟩, q3, q4⟩ := h1.out HP.out h2
      have c6 := h1.c6
      go_wp2
      go_ret
      exact ⟨ret_int (by rw [HF.out]), hE⟩
    | succ j =>
      obtain ⟨wj, rfl⟩ : ∃ wj : World, wj = wr := ⟨_, rfl⟩
      have hj1 : ((j + 1 : Nat) : Int) - 1 = (j : Int) := by omega
      have hj0 : (0 : Int) ≤ (j : Int) := by omega
      have hjm : (j : Int) < (Y.m : Int) := by omega
      rw [hj1]
      clear hj1
      go_wp2_with fail
      go_loopw [11] (fun iv wr => ∃ r : Nat, iv = .int .i64 ((r : Int) - 1) ∧ r ≤ Y.k ∧ Hid (∃ V, Y.H wr V ∧ Filled Y F V r j) ∧ Ext w wr) (fun iv _ => (intOf iv + 1).toNat)
      case atStart => exact ⟨Y.k, rfl, Nat.le_refl _, Lib.hid (by obtain ⟨V, h1, h2⟩ := hV.out; exact ⟨V, h1, by have := h2.next; rw [h1.s.len] at this; exact this⟩), hE⟩
      case round =>
        obtain ⟨r, rfl, hr, hV2, hE2⟩ := hrel
        cases r with
        | zero =>
          go_wp2
          go_roundw
          case rel => exact ⟨j, by first | rfl | (congr 1; omega), by omega, hV2, hE2⟩
          case measure => simp only [intOf]; omega
        | succ i =>
          have hi1 : ((i + 1 : Nat) : Int) - 1 = (i : Int) := by omega
          have hi0 : (0 : Int) ≤ (i : Int) := by omega
          have hik : (i : Int) < (Y.k : Int) := by omega
          rw [hi1]
          clear hi1
          obtain ⟨V, h1, h2⟩ := hV2.out
          have hil : i < Y.s.length := by rw [h1.s.len]; omega
          have hjl : j < Y.t.length := by rw [h1.t.len]; omega
          obtain ⟨⟨y, ss⟩, hsi⟩ : ∃ u, subT Y.ar Y.s i = u := ⟨_, rfl⟩
          obtain ⟨⟨x, us⟩, htj⟩ : ∃ u, subT Y.ar Y.t j = u := ⟨_, rfl⟩
          have hA : Y.At i j y ss x us := ⟨hil, hjl, hsi, htj⟩
          have HA2 := Lib.hid hA
          have HV := Lib.hid h1
          have HFI := Lib.hid h2
          have c6 := h1.c6
          have cw := h1.wy i (by omega)
          have hi' : i < Y.k := by omega
          have hj' : j < Y.m := by omega
          have hft1 : ∀ k a, us[k]? = some a → V i (pl j us k) = (F a (.node y ss) : Int) := fun k a ha => by
            obtain ⟨g1, g2⟩ := hA.pt HP.out ha
            exact h2.at_ hil g1 hsi g2 (.inl pl_lt)
          have hft2 : ∀ k b, ss[k]? = some b → V (pl i ss k) j = (F (.node x us) b : Int) := fun k b hb => by
            obtain ⟨g1, g2⟩ := hA.ps HP.out hb
            exact h2.at_ g1 hjl g2 htj (.inr ⟨rfl, pl_lt⟩)
          have hft3 : ∀ k q a b, us[k]? = some a → ss[q]? = some b → V (pl i ss q) (pl j us k) = (F a b : Int) := fun k q a b ha hb => by
            obtain ⟨g1, g2⟩ := hA.pt HP.out ha
            obtain ⟨g3, g4⟩ := hA.ps HP.out hb
            exact h2.at_ g3 g1 g4 g2 (.inl pl_lt)
          have HT1 := Lib.hid hft1
          have HT2 := Lib.hid hft2
          have HT3 := Lib.hid hft3
          have HSI := Lib.hid hsi
          have HTJ := Lib.hid htj
          clear h1 h2 hA hsi htj hil hjl hft1 hft2 hft3 hV2
          obtain ⟨r0, hr0⟩ : ∃ r0, lpoB (rkF Y.rk) true F (.node x us) (.node y ss) = r0 := ⟨_, rfl⟩
          have HR0 := Lib.hid hr0
          have HRF := Lib.hid (show F (.node x us) (.node y ss) = r0 by rw [← hr0, HF.out]; exact lpoW_eq _ _ _ _)
          clear hr0
          go_wp2_with fail
          refine wp_only (R := fun (a0 : Act) (a8 : Act) (w9 : World) => a8 = (((((((((((((a0.put (some 31) (.pointer (some ⟨Y.g, 0, none⟩))).put (some 32) (.pointer (some ⟨Y.g, 0, none⟩))).put (some 33) (.pointer (some ⟨Y.g, 6, none⟩))).put (some 34) (.slice (some ⟨Y.wb, 0, none⟩) Y.k Y.wc)).put (some 35) (.int .i64 (i : Int))).put (some 36) (.pointer (some ⟨Y.wb, i, none⟩))).put (some 37) (.slice (some ⟨Y.row i, 0, none⟩) Y.m Y.m)).put (some 38) (.int .i64 (j : Int))).put (some 39) (.pointer (some ⟨Y.g, 0, none⟩))).put (some 40) (.int .i64 (i : Int))).put (some 41) (.int .i64 (j : Int))).put (some 42) (.int .i64 (r0 : Int))).put (some 43) (.pointer (some ⟨Y.row i, j, none⟩))) ∧ Y.H w9 (putV V i j (r0 : Int)) ∧ Ext w w9) ?_ (fun a8 w9 hR => ?_)
          · refine wp_region_held_drew (S := (fun w' => w'.cell? ⟨Y.g, 6, none⟩ = some (.slice (some ⟨Y.wb, 0, none⟩) Y.k Y.wc) ∧ w'.cell? ⟨Y.wb, i, none⟩ = some (.slice (some ⟨Y.row i, 0, none⟩) Y.m Y.m))) (by kernel_rfl) (⟨c6, cw⟩) (fun hH => ?_)
            refine wpAnyH_take_dst (i := 0) (v := .pointer (some ⟨Y.g, 0, none⟩)) (d := some 31) rfl rfl (by kernel_rfl) (by kernel_rfl) (by kernel_rfl) (fun _ _ _ h => h) (Or.inl ⟨by rfl, ?_⟩) hH ?_
            · exact z0q30
            try simp only [Act.put, lq30]
            refine wpAnyH_take_dst (i := 1) (v := .pointer (some ⟨Y.g, 0, none⟩)) (d := some 32) rfl rfl (by kernel_rfl) (by kernel_rfl) (by kernel_rfl) (fun _ _ _ h => h) (Or.inl ⟨by rfl, ?_⟩) hH ?_
            · exact z0q30
            try simp only [Act.put, lq30]
            refine wpAnyH_take_dst (i := 2) (v := .pointer (some ⟨Y.g, 6, none⟩)) (d := some 33) rfl rfl (by kernel_rfl) (by kernel_rfl) (by kernel_rfl) (fun _ _ _ h => h) (Or.inl ⟨by rfl, ?_⟩) hH ?_
            · exact z0q30
            try simp only [Act.put, lq30]
            refine wpAnyH_take_dst (i := 3) (v := .slice (some ⟨Y.wb, 0, none⟩) Y.k Y.wc) (d := some 34) rfl rfl (by kernel_rfl) (by kernel_rfl) (by kernel_rfl) (fun _ _ _ h => h) (Or.inl ⟨by rfl, ?_⟩) hH ?_
            · exact z0q30
            try simp only [Act.put, lq30]
            refine wpAnyH_take_dst (i := 4) (v := .int .i64 (i : Int)) (d := some 35) rfl rfl (by kernel_rfl) (by kernel_rfl) (by kernel_rfl) (fun _ _ _ h => h) (Or.inl ⟨by rfl, ?_⟩) hH ?_
            · exact z0q30
            try simp only [Act.put, lq30]
            refine wpAnyH_take_dst (i := 5) (v := .pointer (some ⟨Y.wb, i, none⟩)) (d := some 36) rfl rfl (by kernel_rfl) (by kernel_rfl) (by kernel_rfl) (fun _ _ _ h => h) (Or.inl ⟨by rfl, ?_⟩) hH ?_
            · exact z0q30
            try simp only [Act.put, lq30]
            refine wpAnyH_take_dst (i := 6) (v := .slice (some ⟨Y.row i, 0, none⟩) Y.m Y.m) (d := some 37) rfl rfl (by kernel_rfl) (by kernel_rfl) (by kernel_rfl) (fun _ _ _ h => h) (Or.inl ⟨by rfl, ?_⟩) hH ?_
            · exact z0q30
            try simp only [Act.put, lq30]
            refine wpAnyH_take_dst (i := 7) (v := .int .i64 (j : Int)) (d := some 38) rfl rfl (by kernel_rfl) (by kernel_rfl) (by kernel_rfl) (fun _ _ _ h => h) (Or.inl ⟨by rfl, ?_⟩) hH ?_
            · exact z0q30
            try simp only [Act.put, lq30]
            refine wpAnyH_take_dst (i := 8) (v := .pointer (some ⟨Y.g, 0, none⟩)) (d := some 39) rfl rfl (by kernel_rfl) (by kernel_rfl) (by kernel_rfl) (fun _ _ _ h => h) (Or.inl ⟨by rfl, ?_⟩) hH ?_
            · exact z0q30
            try simp only [Act.put, lq30]
            refine wpAnyH_take_dst (i := 9) (v := .int .i64 (i : Int)) (d := some 40) rfl rfl (by kernel_rfl) (by kernel_rfl) (by kernel_rfl) (fun _ _ _ h => h) (Or.inl ⟨by rfl, ?_⟩) hH ?_
            · exact z0q30
            try simp only [Act.put, lq30]
            refine wpAnyH_take_dst (i := 10) (v := .int .i64 (j : Int)) (d := some 41) rfl rfl (by kernel_rfl) (by kernel_rfl) (by kernel_rfl) (fun _ _ _ h => h) (Or.inl ⟨by rfl, ?_⟩) hH ?_
            · exact z0q30
            try simp only [Act.put, lq30]
            refine wpAnyH_ready (rs := [11]) (by kernel_rfl) (by simp) ?_
            refine AllReadyH.cons rfl (fun K hK => ?_) AllReadyH.nil
            rw [if_pos (by rfl)]
            go_wp2_with fail
            (with_reducible refine (c_l13Reason (V := V) (W := F) HR0.out HP.out (HV.out.ext (Ext.drew (Ext.refl wr))) HA2.out (fun k a ha => .of (HT1.out k a ha)) (fun k b hb => .of (HT2.out k b hb)) (fun k a b ha hb => .of (HT3.out k k a b ha hb))).mono ?_)
            rintro e w9 ⟨rfl, hE9⟩
            refine hK.out _ _ (⟨Ext.keep hE9 hH.1, Ext.keep hE9 hH.2⟩) (fun hH9 => ?_)
            clear hK; have hH0 := hH; clear hH; have hH := hH9; clear hH9
            try simp only [Act.put, lq30]
            refine wpAnyH_take_dst (i := 12) (v := .pointer (some ⟨Y.row i, j, none⟩)) (d := some 43) rfl rfl (by kernel_rfl) (by kernel_rfl) (by kernel_rfl) (fun _ _ _ h => h) (Or.inl ⟨by rfl, ?_⟩) hH ?_
            · exact z0q30
            try simp only [Act.put, lq30]
            refine wpAnyH_ready (rs := [13]) (by kernel_rfl) (by simp) ?_
            refine AllReadyH.cons rfl (fun K hK => ?_) AllReadyH.nil
            rw [if_pos (by rfl)]
            have h13 := (HV.out.ext (Ext.trans (Ext.drew (Ext.refl wr)) hE9)).v i j hi' hj'; have f13 := fun j => (HV.out.ext (Ext.trans (Ext.drew (Ext.refl wr)) hE9)).fr i j hi'; go_wp2_with fail
            refine hK.out _ _ (⟨((HV.out.ext (Ext.trans (Ext.drew (Ext.refl wr)) hE9)).put hi' (j := j) (r0 : Int)).c6, ((HV.out.ext (Ext.trans (Ext.drew (Ext.refl wr)) hE9)).put hi' (j := j) (r0 : Int)).wy i hi'⟩) (fun hH9 => ?_)
            clear hK; have hH0 := hH; clear hH; have hH := hH9; clear hH9
            try simp only [Act.put, lq30]
            refine wpAnyH_done (by kernel_rfl) ?_ _
            exact ⟨rfl, (HV.out.ext (Ext.trans (Ext.drew (Ext.refl wr)) hE9)).put hi' (r0 : Int), Ext.set (Ext.trans hE2 (Ext.trans (Ext.drew (Ext.refl wr)) hE9)) (HROW.out i hi') _⟩
          obtain ⟨ha, ⟨hH9, hE9⟩⟩ := hR
          simp only [Act.put, lq30] at ha
          subst ha
          have HN := Lib.hid (show Y.H w9 (putV V i j (r0 : Int)) ∧ Filled Y F (putV V i j (r0 : Int)) i j from ⟨hH9, HFI.out.step _ (by rw [HSI.out, HTJ.out, HRF.out])⟩)
          clear hH9
          go_wp2
          go_roundw
          case rel => exact ⟨i, by first | rfl | (congr 1; omega), by omega, Lib.hid ⟨_, HN.out⟩, hE9⟩
          case measure => simp only [intOf]; omega
end Go.Proofs.Ytdlgjhngndpgoaa
namespace Go.Proofs.Ytdlgjhngndpgoaa
open Go.RowKit
set_option linter.unusedSimpArgs false
set_option linter.unusedVariables false
theorem c_l13WhyO {v0 v1 v2 v3 : Value} {ar rk s t : List Int} {V : Nat} {w : World} (hok : lpoArgs ar rk s t = true) (hV : V = lpoA ar rk true s t) (h0 : RdSig w v0 ar) (h1 : RdI w v1 rk) (h2 : RdIc w v2 s) (h3 : RdIc w v3 t) :
    Calls Try.prog 56 #[v0, v1, v2, v3] w fun e w' => e = .returned (.int .i64 (V : Int)) ∧ Ext w w' := by
  obtain ⟨A, n, c, rfl, ha⟩ := h0
  obtain ⟨R, rn, rc, rfl, hr⟩ := h1
  obtain ⟨D, k, l, rfl, hkl, hd⟩ := h2
  obtain ⟨B, m, d, rfl, hmd, hb⟩ := h3
  obtain ⟨⟨g1, g2⟩, g3, g4, g5⟩ := lpoArgs_iff.1 hok
  subst hV
  exact c_l13Why g3 g4 g2 g1 ha hr hb hd hmd hkl
set_option maxRecDepth 100000 in
set_option maxHeartbeats 2000000 in
theorem c_l13Orients {v0 v1 : Value} {s : Sy} {rk : List Int} {w : World} (h0 : RdSyC w v0 s) (h1 : RdI w v1 rk) (hs : SysP s) (hk : rankOk s.ar rk = true) :
    Calls Try.prog 31 #[v0, v1] w fun e w' => e = .returned (.bool (lpAll true s rk)) ∧ Ext w w' := by
  obtain ⟨A, n, c, B, m, d, rfl, ha, hb⟩ := h0
  obtain ⟨R, q, f, rfl, hrk⟩ := h1
  have hm := hb.le
  have HL := Lib.hid hb.len
  have HA := Lib.hid ha
  have HB := Lib.hid hb
  have HRK := Lib.hid hrk
  have HS := Lib.hid hs
  have HK := Lib.hid hk
  clear ha hb hrk hs hk
  go_enter Try.func31, Try.ntmps31
  go_wp2_with fail
  obtain ⟨wo, hwo⟩ : ∃ wo, wo = w.alloc (.cells #[.slice A n c, .slice B m d] 32) := ⟨_, rfl⟩
  have hw0 : wo.cell? ⟨w.heap.size, 0, none⟩ = some (.slice A n c) := by rw [hwo]; simp [go_sem]
  have hw1 : wo.cell? ⟨w.heap.size, 1, none⟩ = some (.slice B m d) := by rw [hwo]; simp [go_sem]
  have hEo : Ext w wo := by rw [hwo]; exact extX
  rw [← hwo]
  clear hwo
  go_loopw [5] (fun i wr => ∃ k : Nat, i = .int .i64 k ∧ k ≤ m ∧ Hid (∀ (j : Nat) (r : Ru), j < k → s.rs[j]? = some r → lpoA s.ar rk true r.r r.l ≠ 0) ∧ Ext wo wr) (fun i _ => m - (intOf i).toNat)
  case atStart => exact ⟨0, rfl, Nat.zero_le _, Lib.hid fun j y hj => by omega, Ext.refl _⟩
  case round =>
    obtain ⟨k, rfl, hk, hp, hE9⟩ := hrel
    have hw : Ext w wr := Ext.trans hEo hE9
    have hr0 : wr.cell? ⟨w.heap.size, 0, none⟩ = some (.slice A n c) := Ext.keep hE9 hw0
    have hr1' : wr.cell? ⟨w.heap.size, 1, none⟩ = some (.slice B m d) := Ext.keep hE9 hw1
    have hws0 : w.heap.size < wr.heap.size := World.block_lt_of_cell? wr _ hr0
    by_cases hlt : k < m
    · obtain ⟨b, o, r, A1, m1, c1, A2, m2, c2, rfl, hx, hd1, hd2, hr1, hr5, hcap1, hcap2⟩ := RR.at_ (RR.ext HB.out hw) hlt
      have hEd : Ext wr wr.drew := (Ext.refl wr).drew
      have hEwd : Ext w wr.drew := hw.drew
      have HX := Lib.hid hx
      have HR1 := Lib.hid (hr1.ext hEd)
      have HR2 := Lib.hid (hr5.ext hEd)
      have HC1 := Lib.hid (hcap1 rfl)
      have HC2 := Lib.hid (hcap2 rfl)
      have HOK := Lib.hid (lpoArgs_rule HS.out HK.out hx)
      have hbl : b < wr.heap.size := World.block_lt_of_cell? wr _ hd1
      clear hx hr1 hr5 hcap1 hcap2
      have hlt' : (k : Int) < (m : Int) := by omega
      obtain ⟨V, hV⟩ : ∃ V, V = lpoA s.ar rk true r.r r.l := ⟨_, rfl⟩
      have HV := Lib.hid hV
      clear hV
      by_cases hz : V = 0
      · have HR := Lib.hid (lpAll_f (lex := true) (rk := rk) HX.out (HV.out.symm.trans hz))
        have hzb : ((V : Int) == 0) = true := by rw [hz]; rfl
        clear hz
        go_wp2_with fail
        go_still_tail 15, (by kernel_rfl)
        change wpList _ _ _ _ _ wr.drew
        go_wp2_with fail
        (with_reducible refine (c_l13WhyO HOK.out HV.out (RdSig.mk (RI.ext HA.out hEwd)) (RdI.mk (RI.ext HRK.out hEwd)) (RdIc.mk HC2.out HR2.out) (RdIc.mk HC1.out HR1.out)).mono ?_)
        rintro e w5 ⟨rfl, hE5⟩
        go_wp2
        go_ret
        exact ⟨ret_bool HR.out.symm, Ext.trans hEwd hE5⟩
      · have hzb : ((V : Int) == 0) = false := by simp; exact hz
        have HP := Lib.hid (show ∀ (j : Nat) (r : Ru), j < k + 1 → s.rs[j]? = some r → lpoA s.ar rk true r.r r.l ≠ 0 from fun j y hj e => by
          rcases Nat.lt_or_ge j k with h' | h'
          · exact hp.out j y h' e
          · obtain rfl : j = k := by omega
            rw [HX.out] at e; cases e; rw [← HV.out]; exact hz)
        clear hz
        go_wp2_with fail
        go_still_tail 15, (by kernel_rfl)
        change wpList _ _ _ _ _ wr.drew
        go_wp2_with fail
        (with_reducible refine (c_l13WhyO HOK.out HV.out (RdSig.mk (RI.ext HA.out hEwd)) (RdI.mk (RI.ext HRK.out hEwd)) (RdIc.mk HC2.out HR2.out) (RdIc.mk HC1.out HR1.out)).mono ?_)
        rintro e w5 ⟨rfl, hE5⟩
        go_wp2
        go_roundw
        case rel => exact ⟨k + 1, by go_num, by omega, HP, Ext.trans hE9 (Ext.trans hEd hE5)⟩
        case measure => simp only [intOf]; omega
    · have HR := Lib.hid (lpAll_t (s := s) (rk := rk) (lex := true) fun j r hj e => hp.out j r (by rw [HL.out] at hj; omega) e)
      go_wp2
      go_ret
      exact ⟨ret_bool HR.out.symm, by exact extX⟩
theorem z1q30 {p : Prop} (h : p := by (first | (first | (with_reducible exact RdI.mk (RI.ext (Hid.out (by with_reducible assumption)) (by exact extX))) | (with_reducible exact RdI.ext (by with_reducible assumption) (by exact extX))) | (with_reducible exact RdSyK.mk (by (first | (with_reducible exact RI.ext (Hid.out (by with_reducible assumption)) (by exact extX)))) (RR.ext (Hid.out (by with_reducible assumption)) (by exact extX))) | (with_reducible exact RdSyK.ext (by with_reducible assumption) (by exact extX)) | (with_reducible exact RdSig.mk (by (first | (with_reducible exact RI.ext (Hid.out (by with_reducible assumption)) (by exact extX))))) | (with_reducible exact RdSig.ext (by with_reducible assumption) (by exact extX)))) : p := h
set_option maxRecDepth 100000 in
set_option maxHeartbeats 1000000 in
theorem c_sOrientsAll {v0 v1 : Value} {s : Sy} {rk : List Int} {w : World} (h0 : RdSyC w v0 s) (h1 : RdI w v1 rk) :
    Calls Try.prog 12 #[v0, v1] w fun e w' => e = .returned (.bool (orientsV true s rk)) ∧ Ext w w' := by
  obtain ⟨A, n, c, B, m, d, rfl, ha, hb⟩ := h0
  obtain ⟨R, q, f, rfl, hrk⟩ := h1
  have hm := hb.le
  have HL := Lib.hid hb.len
  have HA := Lib.hid ha
  have HB := Lib.hid hb
  have HRK := Lib.hid hrk
  clear ha hb hrk
  cases hs : sysOk s with
  | false =>
    have HR := Lib.hid (orientsV_sys (lex := true) (rk := rk) hs)
    go_enter Try.func12, Try.ntmps12
    go_wp2_with (go_at_call 29; (with_reducible refine (c_sSystemOk (s := s) z1q30).mono ?_); rintro e w1 ⟨rfl, hE1⟩; have hz1 := sz_of hE1; (try simp only [World.size_alloc, World.size_setCell, World.size_drew] at hz1); obtain ⟨hc1, hf1⟩ := bcell hE1; (try have hq1_0 : w.heap.size < w1.heap.size := by omega); (try have hq1_1 : w.heap.size + 1 < w1.heap.size := by omega); (try have hq1_2 : w.heap.size + 1 + 1 < w1.heap.size := by omega); (try have hq1_3 : w.heap.size + 1 + 1 + 1 < w1.heap.size := by omega); (try have hq1_4 : w.heap.size + 1 + 1 + 1 + 1 < w1.heap.size := by omega); (try have hq1_5 : w.heap.size + 1 + 1 + 1 + 1 + 1 < w1.heap.size := by omega))
    go_ret
    exact ⟨ret_bool HR.out.symm, by exact extX⟩
  | true =>
    cases hk : rankOk s.ar rk with
    | false =>
      have HR := Lib.hid (orientsV_rank (lex := true) hs hk)
      go_enter Try.func12, Try.ntmps12
      go_wp2_with (first
        | (go_at_call 29; (with_reducible refine (c_sSystemOk (s := s) z1q30).mono ?_); rintro e w1 ⟨rfl, hE1⟩; have hz1 := sz_of hE1; (try simp only [World.size_alloc, World.size_setCell, World.size_drew] at hz1); obtain ⟨hc1, hf1⟩ := bcell hE1; (try have hq1_0 : w.heap.size < w1.heap.size := by omega); (try have hq1_1 : w.heap.size + 1 < w1.heap.size := by omega); (try have hq1_2 : w.heap.size + 1 + 1 < w1.heap.size := by omega); (try have hq1_3 : w.heap.size + 1 + 1 + 1 < w1.heap.size := by omega); (try have hq1_4 : w.heap.size + 1 + 1 + 1 + 1 < w1.heap.size := by omega); (try have hq1_5 : w.heap.size + 1 + 1 + 1 + 1 + 1 < w1.heap.size := by omega))
        | (go_at_call 30; (with_reducible refine (c_sRankOk (ar := s.ar) (rk := rk) z1q30 z1q30).mono ?_); rintro e w2 ⟨rfl, hE2⟩; have hz2 := sz_of hE2; (try simp only [World.size_alloc, World.size_setCell, World.size_drew] at hz2); obtain ⟨hc2, hf2⟩ := bcell hE2; (try have hq2_0 : w.heap.size < w2.heap.size := by omega); (try have hq2_1 : w.heap.size + 1 < w2.heap.size := by omega); (try have hq2_2 : w.heap.size + 1 + 1 < w2.heap.size := by omega); (try have hq2_3 : w.heap.size + 1 + 1 + 1 < w2.heap.size := by omega); (try have hq2_4 : w.heap.size + 1 + 1 + 1 + 1 < w2.heap.size := by omega); (try have hq2_5 : w.heap.size + 1 + 1 + 1 + 1 + 1 < w2.heap.size := by omega); (try have hx2_1 : w1.heap.size < w2.heap.size := by omega)))
      go_ret
      exact ⟨ret_bool HR.out.symm, by exact extX⟩
    | true =>
      have HR := Lib.hid (orientsV_all (lex := true) hs hk)
      have HS := Lib.hid (sysOk_iff.1 hs)
      have HK := Lib.hid hk
      go_enter Try.func12, Try.ntmps12
      go_wp2_with (first
        | (go_at_call 29; (with_reducible refine (c_sSystemOk (s := s) z1q30).mono ?_); rintro e w1 ⟨rfl, hE1⟩; have hz1 := sz_of hE1; (try simp only [World.size_alloc, World.size_setCell, World.size_drew] at hz1); obtain ⟨hc1, hf1⟩ := bcell hE1; (try have hq1_0 : w.heap.size < w1.heap.size := by omega); (try have hq1_1 : w.heap.size + 1 < w1.heap.size := by omega); (try have hq1_2 : w.heap.size + 1 + 1 < w1.heap.size := by omega); (try have hq1_3 : w.heap.size + 1 + 1 + 1 < w1.heap.size := by omega); (try have hq1_4 : w.heap.size + 1 + 1 + 1 + 1 < w1.heap.size := by omega); (try have hq1_5 : w.heap.size + 1 + 1 + 1 + 1 + 1 < w1.heap.size := by omega))
        | (go_at_call 30; (with_reducible refine (c_sRankOk (ar := s.ar) (rk := rk) z1q30 z1q30).mono ?_); rintro e w2 ⟨rfl, hE2⟩; have hz2 := sz_of hE2; (try simp only [World.size_alloc, World.size_setCell, World.size_drew] at hz2); obtain ⟨hc2, hf2⟩ := bcell hE2; (try have hq2_0 : w.heap.size < w2.heap.size := by omega); (try have hq2_1 : w.heap.size + 1 < w2.heap.size := by omega); (try have hq2_2 : w.heap.size + 1 + 1 < w2.heap.size := by omega); (try have hq2_3 : w.heap.size + 1 + 1 + 1 < w2.heap.size := by omega); (try have hq2_4 : w.heap.size + 1 + 1 + 1 + 1 < w2.heap.size := by omega); (try have hq2_5 : w.heap.size + 1 + 1 + 1 + 1 + 1 < w2.heap.size := by omega); (try have hx2_1 : w1.heap.size < w2.heap.size := by omega))
        | (go_at_call 31; (with_reducible refine (c_l13Orients (s := s) (rk := rk) z1q30 z1q30 HS.out HK.out).mono ?_); rintro e w3 ⟨rfl, hE3⟩; have hz3 := sz_of hE3; (try simp only [World.size_alloc, World.size_setCell, World.size_drew] at hz3); obtain ⟨hc3, hf3⟩ := bcell hE3; (try have hq3_0 : w.heap.size < w3.heap.size := by omega); (try have hq3_1 : w.heap.size + 1 < w3.heap.size := by omega); (try have hq3_2 : w.heap.size + 1 + 1 < w3.heap.size := by omega); (try have hq3_3 : w.heap.size + 1 + 1 + 1 < w3.heap.size := by omega); (try have hq3_4 : w.heap.size + 1 + 1 + 1 + 1 < w3.heap.size := by omega); (try have hq3_5 : w.heap.size + 1 + 1 + 1 + 1 + 1 < w3.heap.size := by omega); (try have hx3_1 : w1.heap.size < w3.heap.size := by omega); (try have hx3_2 : w2.heap.size < w3.heap.size := by omega)))
      all_goals go_ret
      all_goals exact ⟨ret_bool HR.out.symm, by exact extX⟩
end Go.Proofs.Ytdlgjhngndpgoaa
