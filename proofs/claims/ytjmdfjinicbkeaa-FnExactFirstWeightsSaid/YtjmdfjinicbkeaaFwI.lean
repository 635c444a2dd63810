/- First weights: the program's. -/
import Derived.Test.YtjmdfjinicbkeaaFwS
import Derived.Test.YtjmdfjinicbkeaaNextI
import Derived.Test.YtjmdfjinicbkeaaRep
-- rd: RdWt RdSyK
namespace Go.Proofs.Ytjmdfjinicbkeaa
open Go.RowKit
set_option linter.unusedSimpArgs false
set_option linter.unusedVariables false

/-- The first weights. -/
noncomputable def fwO (s : Sy) (most : Int) : Option (List Int) :=
  @ite _ (sysOk s = true ∧ 0 ≤ triW s.ar most) (Classical.propDecidable _) (srch (TW s s.ar.length) (List.replicate s.ar.length 0) (List.replicate s.ar.length most) (cnt (List.replicate s.ar.length 0) (List.replicate s.ar.length most) - rkU (List.replicate s.ar.length 0) (List.replicate s.ar.length 0) (List.replicate s.ar.length most)) (List.replicate s.ar.length 0)) none
theorem fwO_no {s : Sy} {most : Int} (h : ¬ (sysOk s = true ∧ 0 ≤ triW s.ar most)) : fwO s most = none := if_neg h
noncomputable def fwOf (s : Sy) : Option (List Int) → Wt
  | none => ⟨0, [], []⟩
  | some sym => ⟨1, sym, (rkO s sym s.ar.length).getD []⟩
noncomputable def fwW (s : Sy) (most : Int) : Wt := fwOf s (fwO s most)
theorem triW_in {ar : List Int} {most : Int} (h : 0 ≤ triW ar most) : 1 ≤ most ∧ most ≤ 3 := by
  unfold triW at h
  split at h
  · rename_i h1; exact h1.2
  · omega
theorem triW_out {ar : List Int} {most : Int} (h : inB most 1 3 = false) : triW ar most = -1 := by
  unfold triW
  rw [if_neg]
  rintro ⟨_, h1, h2⟩
  unfold inB at h
  simp at h
  omega
theorem zero_btw {most : Int} (h1 : 1 ≤ most) (n : Nat) : Btw (List.replicate n 0) (List.replicate n 0) (List.replicate n most) := by
  induction n with
  | zero => simp [Btw]
  | succ n ih => rw [List.replicate_succ, List.replicate_succ]; exact ⟨by omega, ih⟩
theorem rep_big {most : Int} (hm : most ≤ 3) (n : Nat) : (∀ (k : Nat) (h : Int), (List.replicate n most)[k]? = some h → h ≤ 1000000) ∧ ∀ (k : Nat) (l : Int), (List.replicate n (0 : Int))[k]? = some l → -1000000 ≤ l := by
  refine ⟨fun k h hk => ?_, fun k l hk => ?_⟩
  · rw [List.getElem?_replicate] at hk
    split at hk
    · cases hk; omega
    · cases hk
  · rw [List.getElem?_replicate] at hk
    split at hk
    · cases hk; omega
    · cases hk
/-- What is returned: weights, their lists of the call's own and apart. -/
def NewWf (w : World) (W : Wt) (b : Bool) (e : Ending) (w' : World) : Prop := ∃ A n c B m d, e = .returned (.tuple #[.agg #[.int .i64 W.var, .slice A n c, .slice B m d], .bool b]) ∧ OwI w' w.heap.size A n c W.sym ∧ OwI w' w.heap.size B m d W.rank ∧ (∀ g o s, A = some ⟨g, o, s⟩ → ∀ g' o' s', B = some ⟨g', o', s'⟩ → g ≠ g') ∧ Ext w w'
/-- Only read. -/
def NewWr (w : World) (W : Wt) (b : Bool) (e : Ending) (w' : World) : Prop := ∃ A n c B m d, e = .returned (.tuple #[.agg #[.int .i64 W.var, .slice A n c, .slice B m d], .bool b]) ∧ RI w' A n W.sym ∧ RI w' B m W.rank ∧ Ext w w'
/-- Lists that are still to be looked at. -/
noncomputable def swMeas (T : List Int → Prop) (ls hs : List Int) (o : Option (List Int)) (N : Nat) (lv mv : Value) (w : World) : Nat := match mv with
  | .bool true => leastOf (fun k => ∃ A c xs, lv = .slice A N c ∧ RI w A N xs ∧ OnWay T ls hs o k xs) + 1
  | _ => 0
theorem swMeas_t {T : List Int → Prop} {ls hs : List Int} {o : Option (List Int)} {N : Nat} {lv : Value} {w : World} : swMeas T ls hs o N lv (.bool true) w = leastOf (fun k => ∃ A c xs, lv = .slice A N c ∧ RI w A N xs ∧ OnWay T ls hs o k xs) + 1 := rfl
theorem swMeas_f {T : List Int → Prop} {ls hs : List Int} {o : Option (List Int)} {N : Nat} {lv : Value} {w : World} : swMeas T ls hs o N lv (.bool false) w = 0 := rfl
set_option maxRecDepth 100000 in
set_option maxHeartbeats 8000000 in
theorem c_sFirstWeights {v0 : Value} {s : Sy} {most : Int} {W : Wt} {bb : Bool} {w : World} (hW : fwW s most = W) (hbb : (fwO s most).isSome = bb) (h0 : RdSyC w v0 s) :
    Calls Try.prog 24 #[v0, .int .i64 most] w (NewWr w W bb) := by
  obtain ⟨A0, n0, c0, B0, m0, d0, rfl, ha, hb⟩ := h0
  have HA := Lib.hid ha
  have HB := Lib.hid hb
  have hn0 := ha.len
  obtain ⟨o, ho⟩ : ∃ o, fwO s most = o := ⟨_, rfl⟩
  have HWW := Lib.hid (show fwOf s o = W by rw [← hW, ← ho]; rfl)
  have HBB := Lib.hid (show o.isSome = bb by rw [← ho]; exact hbb)
  have HO := Lib.hid ho
  obtain ⟨tw, htw⟩ : ∃ t, triW s.ar most = t := ⟨_, rfl⟩
  obtain ⟨tp, htp⟩ : ∃ t, triP s.ar most = t := ⟨_, rfl⟩
  have HTW := Lib.hid htw
  have HC := Lib.hid (show ∀ (v : Value) (w : World), RdSig w v s.ar → Calls Try.prog 49 #[v, .int .i64 most] w fun e w' => e = .returned (.tuple #[.int .i64 tw, .int .i64 tp]) ∧ Ext w w' from fun v w h => by rw [← htw, ← htp]; exact c_sTriesFor h)
  have HNO := Lib.hid (show o = none → ∀ {w' : World}, Ext w w' → NewWr w W bb (.returned (.tuple #[.agg #[.int .i64 0, .slice none 0 0, .slice none 0 0], .bool false])) w' from fun h w' hE => by
    have hp0 : W = ⟨0, [], []⟩ := by rw [← HWW.out, h]; rfl
    have hb0 : bb = false := by rw [← HBB.out, h]; rfl
    subst hp0; subst hb0
    exact ⟨none, 0, 0, none, 0, 0, rfl, RI.nil _ _, RI.nil _ _, hE⟩)
  obtain ⟨i0, hii, hiz, his, hib⟩ := info_parts int64_info
  clear ha hb hW hbb ho htw htp
  cases hs : sysOk s with
  | false =>
    have HN := Lib.hid (show o = none by rw [← HO.out]; exact fwO_no (fun h => by rw [hs] at h; cases h.1))
    go_enter Try.func24, Try.ntmps24
    go_wp2_with fail
    (with_reducible refine (HC.out _ _ (by (first | (first | (with_reducible exact RdI.mk (RI.ext (Hid.out (by with_reducible assumption)) (by exact extX))) | (with_reducible exact RdI.ext (by with_reducible assumption) (by exact extX))) | (with_reducible exact RdSyK.mk (by (first | (with_reducible exact RI.ext (Hid.out (by with_reducible assumption)) (by exact extX)))) (RR.ext (Hid.out (by with_reducible assumption)) (by exact extX))) | (with_reducible exact RdSyK.ext (by with_reducible assumption) (by exact extX)) | (with_reducible exact RdWt.mk (by (first | (with_reducible exact RI.ext (Hid.out (by with_reducible assumption)) (by exact extX)))) (by (first | (with_reducible exact RI.ext (Hid.out (by with_reducible assumption)) (by exact extX))))) | (with_reducible exact RdWt.ext (by with_reducible assumption) (by exact extX)) | (with_reducible exact RdSig.mk (by (first | (with_reducible exact RI.ext (Hid.out (by with_reducible assumption)) (by exact extX))))) | (with_reducible exact RdSig.ext (by with_reducible assumption) (by exact extX))))).mono ?_); rintro e w1 ⟨rfl, hE1⟩; have hz1 := sz_of hE1; (try simp only [World.size_alloc, World.size_setCell, World.size_drew] at hz1); obtain ⟨hc1, hf1⟩ := bcell hE1; (try have hq1_0 : w.heap.size < w1.heap.size := by omega); (try have hq1_1 : w.heap.size + 1 < w1.heap.size := by omega); (try have hq1_2 : w.heap.size + 1 + 1 < w1.heap.size := by omega); (try have hq1_3 : w.heap.size + 1 + 1 + 1 < w1.heap.size := by omega); (try have hq1_4 : w.heap.size + 1 + 1 + 1 + 1 < w1.heap.size := by omega); (try have hq1_5 : w.heap.size + 1 + 1 + 1 + 1 + 1 < w1.heap.size := by omega)
    go_wp2_with fail
    (with_reducible refine (c_sSysOkP hs (by (first | (first | (with_reducible exact RdI.mk (RI.ext (Hid.out (by with_reducible assumption)) (by exact extX))) | (with_reducible exact RdI.ext (by with_reducible assumption) (by exact extX))) | (with_reducible exact RdSyK.mk (by (first | (with_reducible exact RI.ext (Hid.out (by with_reducible assumption)) (by exact extX)))) (RR.ext (Hid.out (by with_reducible assumption)) (by exact extX))) | (with_reducible exact RdSyK.ext (by with_reducible assumption) (by exact extX)) | (with_reducible exact RdWt.mk (by (first | (with_reducible exact RI.ext (Hid.out (by with_reducible assumption)) (by exact extX)))) (by (first | (with_reducible exact RI.ext (Hid.out (by with_reducible assumption)) (by exact extX))))) | (with_reducible exact RdWt.ext (by with_reducible assumption) (by exact extX)) | (with_reducible exact RdSig.mk (by (first | (with_reducible exact RI.ext (Hid.out (by with_reducible assumption)) (by exact extX))))) | (with_reducible exact RdSig.ext (by with_reducible assumption) (by exact extX))))).mono ?_); rintro e w2 ⟨rfl, hE2⟩; have hz2 := sz_of hE2; (try simp only [World.size_alloc, World.size_setCell, World.size_drew] at hz2); obtain ⟨hc2, hf2⟩ := bcell hE2; (try have hq2_0 : w.heap.size < w2.heap.size := by omega); (try have hq2_1 : w.heap.size + 1 < w2.heap.size := by omega); (try have hq2_2 : w.heap.size + 1 + 1 < w2.heap.size := by omega); (try have hq2_3 : w.heap.size + 1 + 1 + 1 < w2.heap.size := by omega); (try have hq2_4 : w.heap.size + 1 + 1 + 1 + 1 < w2.heap.size := by omega); (try have hq2_5 : w.heap.size + 1 + 1 + 1 + 1 + 1 < w2.heap.size := by omega); (try have hx2_1 : w1.heap.size < w2.heap.size := by omega)
    have hEw2 : Ext w w2 := Ext.trans (Ext.trans (((Ext.refl w).alloc _).alloc _) hE1) hE2
    obtain ⟨wb, hwb⟩ : ∃ wb, wb = (w.alloc (.cells #[.slice A0 n0 c0, .slice B0 m0 d0] 34)).alloc (.cells #[.int .i64 0, .slice none 0 0, .slice none 0 0] 48) := ⟨_, rfl⟩
    have hEb2 : Ext wb w2 := by rw [hwb]; exact Ext.trans hE1 hE2
    have HZ := Lib.hid (show B3 wb (w.heap.size + 1) (.int .i64 0) (.slice none 0 0) (.slice none 0 0) by rw [hwb]; exact B3.new _ _ _ _ _ (by simp [go_sem]))
    have hZ2 := HZ.out.ext hEb2
    have z0 := hZ2.c0
    have z1 := hZ2.c1
    have z2 := hZ2.c2
    have zf := hZ2.fr
    clear hZ2
    go_wp2_with fail
    refine bodyPost_ret (v := .tuple #[.agg #[.int .i64 0, .slice none 0 0, .slice none 0 0], .bool false]) (by simp [results, Try.results24, go_sem, z0, z1, z2, zf]) rfl ?_
    exact HNO.out HN.out (((hEw2.set (by simp) _).set (by simp) _).set (by simp) _)
  | true =>
    by_cases htn : tw < 0
    · have HN := Lib.hid (show o = none by rw [← HO.out]; exact fwO_no (fun h => by have := HTW.out; omega))
      have htd : decide (tw < 0) = true := by simpa using htn
      go_enter Try.func24, Try.ntmps24
      go_wp2_with fail
      (with_reducible refine (HC.out _ _ (by (first | (first | (with_reducible exact RdI.mk (RI.ext (Hid.out (by with_reducible assumption)) (by exact extX))) | (with_reducible exact RdI.ext (by with_reducible assumption) (by exact extX))) | (with_reducible exact RdSyK.mk (by (first | (with_reducible exact RI.ext (Hid.out (by with_reducible assumption)) (by exact extX)))) (RR.ext (Hid.out (by with_reducible assumption)) (by exact extX))) | (with_reducible exact RdSyK.ext (by with_reducible assumption) (by exact extX)) | (with_reducible exact RdWt.mk (by (first | (with_reducible exact RI.ext (Hid.out (by with_reducible assumption)) (by exact extX)))) (by (first | (with_reducible exact RI.ext (Hid.out (by with_reducible assumption)) (by exact extX))))) | (with_reducible exact RdWt.ext (by with_reducible assumption) (by exact extX)) | (with_reducible exact RdSig.mk (by (first | (with_reducible exact RI.ext (Hid.out (by with_reducible assumption)) (by exact extX))))) | (with_reducible exact RdSig.ext (by with_reducible assumption) (by exact extX))))).mono ?_); rintro e w1 ⟨rfl, hE1⟩; have hz1 := sz_of hE1; (try simp only [World.size_alloc, World.size_setCell, World.size_drew] at hz1); obtain ⟨hc1, hf1⟩ := bcell hE1; (try have hq1_0 : w.heap.size < w1.heap.size := by omega); (try have hq1_1 : w.heap.size + 1 < w1.heap.size := by omega); (try have hq1_2 : w.heap.size + 1 + 1 < w1.heap.size := by omega); (try have hq1_3 : w.heap.size + 1 + 1 + 1 < w1.heap.size := by omega); (try have hq1_4 : w.heap.size + 1 + 1 + 1 + 1 < w1.heap.size := by omega); (try have hq1_5 : w.heap.size + 1 + 1 + 1 + 1 + 1 < w1.heap.size := by omega)
      go_wp2_with fail
      (with_reducible refine (c_sSysOkP hs (by (first | (first | (with_reducible exact RdI.mk (RI.ext (Hid.out (by with_reducible assumption)) (by exact extX))) | (with_reducible exact RdI.ext (by with_reducible assumption) (by exact extX))) | (with_reducible exact RdSyK.mk (by (first | (with_reducible exact RI.ext (Hid.out (by with_reducible assumption)) (by exact extX)))) (RR.ext (Hid.out (by with_reducible assumption)) (by exact extX))) | (with_reducible exact RdSyK.ext (by with_reducible assumption) (by exact extX)) | (with_reducible exact RdWt.mk (by (first | (with_reducible exact RI.ext (Hid.out (by with_reducible assumption)) (by exact extX)))) (by (first | (with_reducible exact RI.ext (Hid.out (by with_reducible assumption)) (by exact extX))))) | (with_reducible exact RdWt.ext (by with_reducible assumption) (by exact extX)) | (with_reducible exact RdSig.mk (by (first | (with_reducible exact RI.ext (Hid.out (by with_reducible assumption)) (by exact extX))))) | (with_reducible exact RdSig.ext (by with_reducible assumption) (by exact extX))))).mono ?_); rintro e w2 ⟨rfl, hE2⟩; have hz2 := sz_of hE2; (try simp only [World.size_alloc, World.size_setCell, World.size_drew] at hz2); obtain ⟨hc2, hf2⟩ := bcell hE2; (try have hq2_0 : w.heap.size < w2.heap.size := by omega); (try have hq2_1 : w.heap.size + 1 < w2.heap.size := by omega); (try have hq2_2 : w.heap.size + 1 + 1 < w2.heap.size := by omega); (try have hq2_3 : w.heap.size + 1 + 1 + 1 < w2.heap.size := by omega); (try have hq2_4 : w.heap.size + 1 + 1 + 1 + 1 < w2.heap.size := by omega); (try have hq2_5 : w.heap.size + 1 + 1 + 1 + 1 + 1 < w2.heap.size := by omega); (try have hx2_1 : w1.heap.size < w2.heap.size := by omega)
      have hEw2 : Ext w w2 := Ext.trans (Ext.trans (((Ext.refl w).alloc _).alloc _) hE1) hE2
      obtain ⟨wb, hwb⟩ : ∃ wb, wb = (w.alloc (.cells #[.slice A0 n0 c0, .slice B0 m0 d0] 34)).alloc (.cells #[.int .i64 0, .slice none 0 0, .slice none 0 0] 48) := ⟨_, rfl⟩
      have hEb2 : Ext wb w2 := by rw [hwb]; exact Ext.trans hE1 hE2
      have HZ := Lib.hid (show B3 wb (w.heap.size + 1) (.int .i64 0) (.slice none 0 0) (.slice none 0 0) by rw [hwb]; exact B3.new _ _ _ _ _ (by simp [go_sem]))
      have hZ2 := HZ.out.ext hEb2
      have z0 := hZ2.c0
      have z1 := hZ2.c1
      have z2 := hZ2.c2
      have zf := hZ2.fr
      clear hZ2
      go_wp2_with fail
      refine bodyPost_ret (v := .tuple #[.agg #[.int .i64 0, .slice none 0 0, .slice none 0 0], .bool false]) (by simp [results, Try.results24, go_sem, z0, z1, z2, zf]) rfl ?_
      exact HNO.out HN.out (((hEw2.set (by simp) _).set (by simp) _).set (by simp) _)
    · have htd : decide (tw < 0) = false := by simpa using htn
      have hm : 1 ≤ most ∧ most ≤ 3 := triW_in (by rw [HTW.out]; omega)
      have hsp := sysOk_iff.1 hs
      have hsg : SigP s.ar := hsp.1
      have h8 : n0 ≤ 8 := by rw [← hn0]; exact hsg.2.1
      have HW0 := Lib.hid (OnWay.start (T := TW s s.ar.length) (o := o) (zero_btw hm.1 s.ar.length) (by rw [← HO.out]; unfold fwO; rw [if_pos ⟨hs, by rw [HTW.out]; omega⟩]))
      rw [hn0] at HW0
      have HNN := Lib.hid hn0
      have HM := Lib.hid hm
      clear hsp hsg hn0
      go_enter Try.func24, Try.ntmps24
      go_wp2_with fail
      (with_reducible refine (HC.out _ _ (by (first | (first | (with_reducible exact RdI.mk (RI.ext (Hid.out (by with_reducible assumption)) (by exact extX))) | (with_reducible exact RdI.ext (by with_reducible assumption) (by exact extX))) | (with_reducible exact RdSyK.mk (by (first | (with_reducible exact RI.ext (Hid.out (by with_reducible assumption)) (by exact extX)))) (RR.ext (Hid.out (by with_reducible assumption)) (by exact extX))) | (with_reducible exact RdSyK.ext (by with_reducible assumption) (by exact extX)) | (with_reducible exact RdWt.mk (by (first | (with_reducible exact RI.ext (Hid.out (by with_reducible assumption)) (by exact extX)))) (by (first | (with_reducible exact RI.ext (Hid.out (by with_reducible assumption)) (by exact extX))))) | (with_reducible exact RdWt.ext (by with_reducible assumption) (by exact extX)) | (with_reducible exact RdSig.mk (by (first | (with_reducible exact RI.ext (Hid.out (by with_reducible assumption)) (by exact extX))))) | (with_reducible exact RdSig.ext (by with_reducible assumption) (by exact extX))))).mono ?_); rintro e w1 ⟨rfl, hE1⟩; have hz1 := sz_of hE1; (try simp only [World.size_alloc, World.size_setCell, World.size_drew] at hz1); obtain ⟨hc1, hf1⟩ := bcell hE1; (try have hq1_0 : w.heap.size < w1.heap.size := by omega); (try have hq1_1 : w.heap.size + 1 < w1.heap.size := by omega); (try have hq1_2 : w.heap.size + 1 + 1 < w1.heap.size := by omega); (try have hq1_3 : w.heap.size + 1 + 1 + 1 < w1.heap.size := by omega); (try have hq1_4 : w.heap.size + 1 + 1 + 1 + 1 < w1.heap.size := by omega); (try have hq1_5 : w.heap.size + 1 + 1 + 1 + 1 + 1 < w1.heap.size := by omega)
      go_wp2_with fail
      (with_reducible refine (c_sSysOkP hs (by (first | (first | (with_reducible exact RdI.mk (RI.ext (Hid.out (by with_reducible assumption)) (by exact extX))) | (with_reducible exact RdI.ext (by with_reducible assumption) (by exact extX))) | (with_reducible exact RdSyK.mk (by (first | (with_reducible exact RI.ext (Hid.out (by with_reducible assumption)) (by exact extX)))) (RR.ext (Hid.out (by with_reducible assumption)) (by exact extX))) | (with_reducible exact RdSyK.ext (by with_reducible assumption) (by exact extX)) | (with_reducible exact RdWt.mk (by (first | (with_reducible exact RI.ext (Hid.out (by with_reducible assumption)) (by exact extX)))) (by (first | (with_reducible exact RI.ext (Hid.out (by with_reducible assumption)) (by exact extX))))) | (with_reducible exact RdWt.ext (by with_reducible assumption) (by exact extX)) | (with_reducible exact RdSig.mk (by (first | (with_reducible exact RI.ext (Hid.out (by with_reducible assumption)) (by exact extX))))) | (with_reducible exact RdSig.ext (by with_reducible assumption) (by exact extX))))).mono ?_); rintro e w2 ⟨rfl, hE2⟩; have hz2 := sz_of hE2; (try simp only [World.size_alloc, World.size_setCell, World.size_drew] at hz2); obtain ⟨hc2, hf2⟩ := bcell hE2; (try have hq2_0 : w.heap.size < w2.heap.size := by omega); (try have hq2_1 : w.heap.size + 1 < w2.heap.size := by omega); (try have hq2_2 : w.heap.size + 1 + 1 < w2.heap.size := by omega); (try have hq2_3 : w.heap.size + 1 + 1 + 1 < w2.heap.size := by omega); (try have hq2_4 : w.heap.size + 1 + 1 + 1 + 1 < w2.heap.size := by omega); (try have hq2_5 : w.heap.size + 1 + 1 + 1 + 1 + 1 < w2.heap.size := by omega); (try have hx2_1 : w1.heap.size < w2.heap.size := by omega)
      obtain ⟨wb, hwb⟩ : ∃ wb, wb = (w.alloc (.cells #[.slice A0 n0 c0, .slice B0 m0 d0] 34)).alloc (.cells #[.int .i64 0, .slice none 0 0, .slice none 0 0] 48) := ⟨_, rfl⟩
      have hb0 : wb.cell? ⟨w.heap.size, 0, none⟩ = some (.slice A0 n0 c0) := by rw [hwb]; simp [go_sem]
      have hb1 : wb.cell? ⟨w.heap.size, 1, none⟩ = some (.slice B0 m0 d0) := by rw [hwb]; simp [go_sem]
      have HZ := Lib.hid (show B3 wb (w.heap.size + 1) (.int .i64 0) (.slice none 0 0) (.slice none 0 0) by rw [hwb]; exact B3.new _ _ _ _ _ (by simp [go_sem]))
      have HEwb := Lib.hid (show Ext w wb by rw [hwb]; exact ((Ext.refl w).alloc _).alloc _)
      have hbs : wb.heap.size = w.heap.size + 2 := by rw [hwb]; simp [go_sem]
      have HBS := Lib.hid hbs
      have hEb2 : Ext wb w2 := by rw [hwb]; exact Ext.trans hE1 hE2
      have k0 := Ext.keep hEb2 hb0
      have k1 := Ext.keep hEb2 hb1
      have HE2 := Lib.hid hEb2
      clear hwb hbs hE1 hE2 hEb2
      go_wp2_with (at_make; refine wpList_make_full _ rfl _ _ 22 rfl w2.heap.size 2 i0 _ 1 Try.underlying22 hii hiz his _ _ _ _ n0 rfl rfl rfl rfl (by rw [hib]; omega) (by simp only [maxLen]; omega) (Nat.le_refl _) ?_)
      intro w3 hown0 hg3
      rw [madeInts] at hown0
      have hown := OwI.made hown0 (by omega)
      have hE3 : Ext w2 w3 := Ext.grown (Ext.refl _) hg3 (fun k hk => by cases hk)
      have HL3 := Lib.hid hown.ri
      have HE3 := Lib.hid (Ext.trans HE2.out hE3)
      clear hown0 hg3 hown k0 k1
      go_wp2_with fail
      (with_reducible refine (c_l1Copy HL3.out).mono ?_)
      rintro e w4 ⟨XA, xn, xc, rfl, hX4, hE4⟩
      have hxn : xn = n0 := by have h1 := hX4.len; rw [List.length_replicate] at h1; exact h1.symm
      subst hxn
      have hcp4 := hX4.cap
      have HX4 := Lib.hid hX4.ri
      have HF4 := Lib.hid (show ∀ b o s, XA = some ⟨b, o, s⟩ → wb.heap.size ≤ b from fun b o s e => by have := (hX4.bd b o s e).1; have := HE3.out.size; omega)
      have HL4 := Lib.hid (RI.ext HL3.out hE4)
      have HE4 := Lib.hid (Ext.trans HE3.out hE4)
      clear hX4 HL3
      go_wp2_with fail
      go_loopw [9, 10] (fun lv mv wr => ∃ more : Bool, mv = .bool more ∧ (∃ A c, lv = .slice A xn c ∧ Hid ((xn ≤ c ∧ c ≤ 9223372036854775807) ∧ (∀ b o s, A = some ⟨b, o, s⟩ → wb.heap.size ≤ b) ∧ (more = true → ∃ k xs, RI wr A xn xs ∧ OnWay (TW s xn) (List.replicate xn 0) (List.replicate xn most) o k xs) ∧ (more = false → o = none))) ∧ Hid (Ext w4 wr)) (fun lv mv wr => swMeas (TW s xn) (List.replicate xn 0) (List.replicate xn most) o xn lv mv wr)
      case atStart => exact ⟨true, rfl, ⟨XA, xc, rfl, Lib.hid ⟨hcp4, HF4.out, fun _ => ⟨_, _, HX4.out, HW0.out⟩, fun h => by cases h⟩⟩, Lib.hid (Ext.refl _)⟩
      case round =>
        obtain ⟨more, rfl, ⟨A, c, rfl, hI⟩, hEr⟩ := hrel
        have hErb := Ext.trans HE4.out hEr.out
        have HErw := Lib.hid (Ext.trans HEwb.out hErb)
        have k0 := Ext.keep hErb hb0
        have k1 := Ext.keep hErb hb1
        have HZr := Lib.hid (HZ.out.ext hErb)
        cases more with
        | false =>
          have HN := Lib.hid (hI.out.2.2.2 rfl)
          have z0 := HZr.out.c0
          have z1 := HZr.out.c1
          have z2 := HZr.out.c2
          have zf := HZr.out.fr
          go_wp2_with fail
          refine bodyPost_ret (v := .tuple #[.agg #[.int .i64 0, .slice none 0 0, .slice none 0 0], .bool false]) (by simp [results, Try.results24, go_sem, z0, z1, z2, zf]) rfl ?_
          exact HNO.out HN.out (((HErw.out.set (by simp) _).set (by simp) _).set (by simp) _)
        | true =>
          have hcp := hI.out.1
          have HFA := Lib.hid hI.out.2.1
          have hex : ∃ k, ∃ A' c' xs, Value.slice A xn c = .slice A' xn c' ∧ RI wr A' xn xs ∧ OnWay (TW s xn) (List.replicate xn 0) (List.replicate xn most) o k xs := by
            obtain ⟨k, xs, h1, h2⟩ := hI.out.2.2.1 rfl
            exact ⟨k, A, c, xs, rfl, h1, h2⟩
          obtain ⟨⟨A', c', xs, e', hX, hW⟩, _⟩ := leastOf_spec hex
          have e1 : A = A' := by cases e'; rfl
          subst e1
          clear e'
          have HX := Lib.hid hX
          have HW := Lib.hid hW
          obtain ⟨o2, ho2⟩ : ∃ o2, rkO s xs xn = o2 := ⟨_, rfl⟩
          have HO2 := Lib.hid ho2
          clear hX hW hex ho2
          go_wp2_with fail
          (with_reducible refine (c_l16Ranked HO2.out (RdSyK.mk (RI.ext HA.out HErw.out) (RR.ext HB.out HErw.out)) HX.out h8).mono ?_)
          rintro e w5 ⟨hout, hE5⟩
          have HE5 := Lib.hid (Ext.trans hEr.out hE5)
          have HE5w := Lib.hid (Ext.trans HErw.out hE5)
          have HX5 := Lib.hid (RI.ext HX.out hE5)
          have HZ5 := Lib.hid (HZr.out.ext hE5)
          clear k0 k1
          cases o2 with
          | some rk =>
            obtain ⟨RA, rn, rc, rfl, hR5, hRF⟩ := hout
            have ho : o = some xs := HW.out.yes (show (rkO s xs xn).isSome = true by rw [HO2.out]; rfl)
            have hE56 : Ext w5 (w5.alloc (.cells #[.int .i64 1, .slice A xn c, .slice RA rn rc] 48)) := (Ext.refl w5).alloc _
            have HX6 := Lib.hid (RI.ext HX5.out hE56)
            have HR6 := Lib.hid (RI.ext hR5 hE56)
            have HE6w := Lib.hid (Ext.trans HE5w.out hE56)
            have hZ6 := HZ5.out.ext hE56
            have z0 := hZ6.c0
            have z1 := hZ6.c1
            have z2 := hZ6.c2
            have zf := hZ6.fr
            have y0 := HZ5.out.c0
            have y1 := HZ5.out.c1
            have y2 := HZ5.out.c2
            have yf := HZ5.out.fr
            have hyl := HZ5.out.lt
            have HSR := Lib.hid (show wb.heap.size ≤ wr.heap.size from hErb.size)
            have HR5 := Lib.hid hR5
            clear hZ6 hR5
            go_wp2_with fail
            refine bodyPost_ret (v := .tuple #[.agg #[.int .i64 1, .slice A xn c, .slice RA rn rc], .bool true]) (by simp [results, Try.results24, go_sem, y0, y1, y2, yf, hyl]) rfl ?_
            have hWt : W = ⟨1, xs, rk⟩ := by rw [← HWW.out, ho]; show (⟨1, xs, (rkO s xs s.ar.length).getD []⟩ : Wt) = _; rw [HNN.out, HO2.out]; rfl
            have hb0' : bb = true := by rw [← HBB.out, ho]; rfl
            subst hWt; subst hb0'
            have f1 : xn = 0 ∨ ∀ b o s, A = some ⟨b, o, s⟩ → b ≠ w.heap.size + 1 := .inr fun b o s e => by have := HFA.out b o s e; have := HBS.out; omega
            have f2 : rn = 0 ∨ ∀ b o s, RA = some ⟨b, o, s⟩ → b ≠ w.heap.size + 1 := hRF.imp id fun h b o s e => by have := h b o s e; have := HBS.out; have := HSR.out; omega
            first
              | exact ⟨A, xn, c, RA, rn, rc, rfl, RI.ext (((HX5.out.setW _ f1).setW _ f1).setW _ f1) ((Ext.refl _).alloc _), RI.ext (((HR5.out.setW _ f2).setW _ f2).setW _ f2) ((Ext.refl _).alloc _), (((HE5w.out.set (by simp) _).set (by simp) _).set (by simp) _).alloc _⟩
              | exact ⟨A, xn, c, RA, rn, rc, rfl, ((HX6.out.setW _ f1).setW _ f1).setW _ f1, ((HR6.out.setW _ f2).setW _ f2).setW _ f2, ((HE6w.out.set (by simp) _).set (by simp) _).set (by simp) _⟩
          | none =>
            have hout' : e = .returned (.tuple #[.agg #[.int .i64 0, .slice none 0 0, .slice none 0 0], .bool false]) := hout
            subst hout'
            clear hout
            have hgo : ¬ TW s xn xs := fun h => by have h2 : (rkO s xs xn).isSome = true := h; rw [HO2.out] at h2; cases h2
            rcases hup : up xs (List.replicate xn 0) (List.replicate xn most) with ⟨ys, b2⟩
            have HUP := Lib.hid hup
            have HNX := Lib.hid (show (b2 = true → ∃ m, m < leastOf (fun k => ∃ A' c' xs, Value.slice A xn c = .slice A' xn c' ∧ RI wr A' xn xs ∧ OnWay (TW s xn) (List.replicate xn 0) (List.replicate xn most) o k xs) ∧ OnWay (TW s xn) (List.replicate xn 0) (List.replicate xn most) o m ys) ∧ (b2 = false → o = none) from ⟨fun e => by subst e; exact HW.out.next hgo hup, fun e => by subst e; exact HW.out.stop hgo hup⟩)
            obtain ⟨w6, hw6⟩ : ∃ w6, w6 = w5.alloc (.cells #[.int .i64 0, .slice none 0 0, .slice none 0 0] 48) := ⟨_, rfl⟩
            have hE56 : Ext w5 w6 := by rw [hw6]; exact extX
            have HE6 := Lib.hid (Ext.trans HE5.out hE56)
            have HX6 := Lib.hid (RI.ext HX5.out hE56)
            have HSR := Lib.hid (show wb.heap.size ≤ w6.heap.size from by have h1 := hErb.size; have h2 := hE5.size; have h3 := hE56.size; omega)
            clear hup
            go_wp2_with fail
            rw [← hw6]
            clear hw6
            (with_reducible refine (c_l16Next HUP.out HX6.out (RI.ext HL4.out HE6.out) HW.out.btw HM.out (rep_big HM.out.2 xn).2).mono ?_)
            rintro e w7 ⟨YA, yc, rfl, hY7, hE7⟩
            have HY7 := Lib.hid hY7
            have HYF := Lib.hid (show ∀ b o s, YA = some ⟨b, o, s⟩ → wb.heap.size ≤ b from fun b o s e => by have := (hY7.bd b o s e).1; have := HSR.out; omega)
            have HE7 := Lib.hid (Ext.trans HE6.out hE7)
            clear hY7
            go_wp2_with fail
            go_roundw
            case rel => exact ⟨b2, rfl, ⟨YA, yc, rfl, Lib.hid ⟨HY7.out.cap, HYF.out, fun e => by
              obtain ⟨m, _, hm⟩ := HNX.out.1 e
              exact ⟨m, ys, HY7.out.ri, hm⟩, HNX.out.2⟩⟩, HE7⟩
            case measure =>
              rw [swMeas_t]
              cases b2 with
              | false => rw [swMeas_f]; omega
              | true =>
                rw [swMeas_t]
                obtain ⟨m, hm1', hm2⟩ := HNX.out.1 rfl
                have := leastOf_le (R := fun k => ∃ A' c' xs, Value.slice YA xn yc = .slice A' xn c' ∧ RI w7 A' xn xs ∧ OnWay (TW s xn) (List.replicate xn 0) (List.replicate xn most) o k xs) ⟨YA, yc, ys, rfl, HY7.out.ri, hm2⟩
                omega

end Go.Proofs.Ytjmdfjinicbkeaa
