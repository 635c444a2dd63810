/- KboOrients. -/
import Derived.Test.YtjmdfjinicbkeaaSysOk
import Derived.Test.YtjmdfjinicbkeaaKboS
-- rd: RdSyK RawSy RdWt
namespace Go.Proofs.Ytjmdfjinicbkeaa
open Go.RowKit
set_option linter.unusedSimpArgs false
set_option linter.unusedVariables false

/-- All rules go down. -/
def KbAll (s : Sy) (W : Wt) : Prop := ∀ (j : Nat) (r : Ru), s.rs[j]? = some r → kbo s.ar W (tmOf s.ar r.r) (tmOf s.ar r.l) ≠ 0
noncomputable def kbAll (s : Sy) (W : Wt) : Bool := @decide (KbAll s W) (Classical.propDecidable _)
theorem kbAll_f {s : Sy} {W : Wt} {j : Nat} {r : Ru} (hr : s.rs[j]? = some r) (h : kbo s.ar W (tmOf s.ar r.r) (tmOf s.ar r.l) = 0) : kbAll s W = false := by
  simp only [kbAll, decide_eq_false_iff_not]; exact fun a => a j r hr h
theorem kbAll_t {s : Sy} {W : Wt} (h : ∀ (j : Nat) (r : Ru), j < s.rs.length → s.rs[j]? = some r → kbo s.ar W (tmOf s.ar r.r) (tmOf s.ar r.l) ≠ 0) : kbAll s W = true := by
  simp only [kbAll, decide_eq_true_eq]; exact fun j r hr => h j r (List.getElem?_eq_some_iff.1 hr).1 hr
noncomputable def kboOrients (s : Sy) (W : Wt) : Bool := sysOk s && wtOk s.ar W && kbAll s W

set_option maxRecDepth 100000 in
set_option maxHeartbeats 2000000 in
theorem c_ikboOrients {v0 v1 : Value} {s : Sy} {W : Wt} {w : World} (h0 : RdSyC w v0 s) (h1 : RdWt w v1 W) (hs : SysP s) (hW : WtP s.ar W) :
    Calls Try.prog 68 #[v0, v1] w fun e w' => e = .returned (.bool (kbAll s W)) ∧ Ext w w' := by
  obtain ⟨A, n, c, B, m, d, rfl, ha, hb⟩ := h0
  obtain ⟨S, p, e, R, q, f, rfl, hsy, hrk⟩ := h1
  have hm := hb.le
  have HL := Lib.hid hb.len
  have HA := Lib.hid ha
  have HB := Lib.hid hb
  have HSY := Lib.hid hsy
  have HRK := Lib.hid hrk
  have HS := Lib.hid hs
  have HW := Lib.hid hW
  clear ha hb hsy hrk hs hW
  go_enter Try.func68, Try.ntmps68
  go_wp2_with fail
  obtain ⟨wo, hwo⟩ : ∃ wo, wo = (w.alloc (.cells #[.slice A n c, .slice B m d] 34)).alloc (.cells #[.int .i64 W.var, .slice S p e, .slice R q f] 48) := ⟨_, rfl⟩
  have hw0 : wo.cell? ⟨w.heap.size, 0, none⟩ = some (.slice A n c) := by rw [hwo]; simp [go_sem]
  have hw2 : wo.cell? ⟨w.heap.size + 1, 0, none⟩ = some (.int .i64 W.var) := by rw [hwo]; simp [go_sem]
  have hw3 : wo.cell? ⟨w.heap.size + 1, 1, none⟩ = some (.slice S p e) := by rw [hwo]; simp [go_sem]
  have hw4 : wo.cell? ⟨w.heap.size + 1, 2, none⟩ = some (.slice R q f) := by rw [hwo]; simp [go_sem]
  have hEo : Ext w wo := by rw [hwo]; exact extX
  rw [← hwo]
  clear hwo
  go_loopw [10] (fun i wr => ∃ k : Nat, i = .int .i64 k ∧ k ≤ m ∧ Hid (∀ (j : Nat) (r : Ru), j < k → s.rs[j]? = some r → kbo s.ar W (tmOf s.ar r.r) (tmOf s.ar r.l) ≠ 0) ∧ Ext wo wr) (fun i _ => m - (intOf i).toNat)
  case atStart => exact ⟨0, rfl, Nat.zero_le _, Lib.hid fun j y hj => by omega, Ext.refl _⟩
  case round =>
    obtain ⟨k, rfl, hk, hp, hE2⟩ := hrel
    have hw : Ext w wr := Ext.trans hEo hE2
    have hr0 : wr.cell? ⟨w.heap.size, 0, none⟩ = some (.slice A n c) := Ext.keep hE2 hw0
    have hr2 : wr.cell? ⟨w.heap.size + 1, 0, none⟩ = some (.int .i64 W.var) := Ext.keep hE2 hw2
    have hr3 : wr.cell? ⟨w.heap.size + 1, 1, none⟩ = some (.slice S p e) := Ext.keep hE2 hw3
    have hr4 : wr.cell? ⟨w.heap.size + 1, 2, none⟩ = some (.slice R q f) := Ext.keep hE2 hw4
    have hws : w.heap.size + 1 < wr.heap.size := World.block_lt_of_cell? wr _ hr2
    have hws0 : w.heap.size < wr.heap.size := by omega
    by_cases hlt : k < m
    · obtain ⟨b, o, r, A1, m1, c1, A2, m2, c2, rfl, hx, hd1, hd2, hr1, hr5, hcap1, hcap2⟩ := RR.at_ (RR.ext HB.out hw) hlt
      have HX := Lib.hid hx
      have HR1 := Lib.hid hr1
      have HR2 := Lib.hid hr5
      have HC1 := Lib.hid (hcap1 rfl)
      have HC2 := Lib.hid (hcap2 rfl)
      have hRP := HS.out.2.2 k r hx
      have HT1 := Lib.hid hRP.1
      have HT2 := Lib.hid hRP.2.1
      have HSG := Lib.hid HS.out.1
      have hbl : b < wr.heap.size := World.block_lt_of_cell? wr _ hd1
      clear hx hr1 hr5 hcap1 hcap2 hRP
      have hlt' : (k : Int) < (m : Int) := by omega
      by_cases hz : kbo s.ar W (tmOf s.ar r.r) (tmOf s.ar r.l) = 0
      · have HR := Lib.hid (kbAll_f HX.out hz)
        have hzb : (kbo s.ar W (tmOf s.ar r.r) (tmOf s.ar r.l) == 0) = true := by simpa using hz
        go_wp2_with (go_at_call 101; (with_reducible refine (c_why_ok (ar := s.ar) (W := W) (s := r.r) (t := r.l) HSG.out HW.out HT2.out HT1.out (RdWt.mk (RI.ext HSY.out (by exact extX)) (RI.ext HRK.out (by exact extX))) (RdSig.mk (RI.ext HA.out (by exact extX))) (RdIc.mk HC2.out (RI.ext HR2.out (by exact extX))) (RdIc.mk HC1.out (RI.ext HR1.out (by exact extX)))).mono ?_); rintro e w5 ⟨rfl, hE5⟩)
        go_ret
        exact ⟨ret_bool HR.out.symm, by exact extX⟩
      · have hzb : (kbo s.ar W (tmOf s.ar r.r) (tmOf s.ar r.l) == 0) = false := by simpa using hz
        have HP := Lib.hid (show ∀ (j : Nat) (r : Ru), j < k + 1 → s.rs[j]? = some r → kbo s.ar W (tmOf s.ar r.r) (tmOf s.ar r.l) ≠ 0 from fun j y hj e => by
          rcases Nat.lt_or_ge j k with h' | h'
          · exact hp.out j y h' e
          · obtain rfl : j = k := by omega
            rw [HX.out] at e; cases e; exact hz)
        go_wp2_with (go_at_call 101; (with_reducible refine (c_why_ok (ar := s.ar) (W := W) (s := r.r) (t := r.l) HSG.out HW.out HT2.out HT1.out (RdWt.mk (RI.ext HSY.out (by exact extX)) (RI.ext HRK.out (by exact extX))) (RdSig.mk (RI.ext HA.out (by exact extX))) (RdIc.mk HC2.out (RI.ext HR2.out (by exact extX))) (RdIc.mk HC1.out (RI.ext HR1.out (by exact extX)))).mono ?_); rintro e w5 ⟨rfl, hE5⟩)
        go_roundw
        case rel => exact ⟨k + 1, by go_num, by omega, HP, by exact extX⟩
        case measure => simp only [intOf]; omega
    · have HR := Lib.hid (kbAll_t (s := s) (W := W) fun j r hj e => hp.out j r (by rw [HL.out] at hj; omega) e)
      go_wp2
      go_ret
      exact ⟨ret_bool HR.out.symm, by exact extX⟩
set_option maxRecDepth 100000 in
set_option maxHeartbeats 2000000 in
theorem c_l14Orients {v0 v1 : Value} {s : Sy} {W : Wt} {w : World} (h0 : RdSyC w v0 s) (h1 : RdWt w v1 W) (hs : SysP s) (hW : WtP s.ar W) :
    Calls Try.prog 123 #[v0, v1] w fun e w' => e = .returned (.bool (kbAll s W)) ∧ Ext w w' := by
  obtain ⟨A, n, c, B, m, d, rfl, ha, hb⟩ := h0
  obtain ⟨S, p, e, R, q, f, rfl, hsy, hrk⟩ := h1
  have hm := hb.le
  have HL := Lib.hid hb.len
  have HA := Lib.hid ha
  have HB := Lib.hid hb
  have HSY := Lib.hid hsy
  have HRK := Lib.hid hrk
  have HS := Lib.hid hs
  have HW := Lib.hid hW
  clear ha hb hsy hrk hs hW
  go_enter Try.func123, Try.ntmps123
  go_wp2_with fail
  obtain ⟨wo, hwo⟩ : ∃ wo, wo = (w.alloc (.cells #[.slice A n c, .slice B m d] 34)).alloc (.cells #[.int .i64 W.var, .slice S p e, .slice R q f] 48) := ⟨_, rfl⟩
  have hw0 : wo.cell? ⟨w.heap.size, 0, none⟩ = some (.slice A n c) := by rw [hwo]; simp [go_sem]
  have hw1 : wo.cell? ⟨w.heap.size, 1, none⟩ = some (.slice B m d) := by rw [hwo]; simp [go_sem]
  have hw2 : wo.cell? ⟨w.heap.size + 1, 0, none⟩ = some (.int .i64 W.var) := by rw [hwo]; simp [go_sem]
  have hw3 : wo.cell? ⟨w.heap.size + 1, 1, none⟩ = some (.slice S p e) := by rw [hwo]; simp [go_sem]
  have hw4 : wo.cell? ⟨w.heap.size + 1, 2, none⟩ = some (.slice R q f) := by rw [hwo]; simp [go_sem]
  have hEo : Ext w wo := by rw [hwo]; exact extX
  rw [← hwo]
  clear hwo
  go_loopw [5] (fun i wr => ∃ k : Nat, i = .int .i64 k ∧ k ≤ m ∧ Hid (∀ (j : Nat) (r : Ru), j < k → s.rs[j]? = some r → kbo s.ar W (tmOf s.ar r.r) (tmOf s.ar r.l) ≠ 0) ∧ Ext wo wr) (fun i _ => m - (intOf i).toNat)
  case atStart => exact ⟨0, rfl, Nat.zero_le _, Lib.hid fun j y hj => by omega, Ext.refl _⟩
  case round =>
    obtain ⟨k, rfl, hk, hp, hE2⟩ := hrel
    have hw : Ext w wr := Ext.trans hEo hE2
    have hr0 : wr.cell? ⟨w.heap.size, 0, none⟩ = some (.slice A n c) := Ext.keep hE2 hw0
    have hr1' : wr.cell? ⟨w.heap.size, 1, none⟩ = some (.slice B m d) := Ext.keep hE2 hw1
    have hr2 : wr.cell? ⟨w.heap.size + 1, 0, none⟩ = some (.int .i64 W.var) := Ext.keep hE2 hw2
    have hr3 : wr.cell? ⟨w.heap.size + 1, 1, none⟩ = some (.slice S p e) := Ext.keep hE2 hw3
    have hr4 : wr.cell? ⟨w.heap.size + 1, 2, none⟩ = some (.slice R q f) := Ext.keep hE2 hw4
    have hws : w.heap.size + 1 < wr.heap.size := World.block_lt_of_cell? wr _ hr2
    have hws0 : w.heap.size < wr.heap.size := by omega
    by_cases hlt : k < m
    · obtain ⟨b, o, r, A1, m1, c1, A2, m2, c2, rfl, hx, hd1, hd2, hr1, hr5, hcap1, hcap2⟩ := RR.at_ (RR.ext HB.out hw) hlt
      have HX := Lib.hid hx
      have hEd : Ext wr wr.drew := (Ext.refl wr).drew
      have hEwd : Ext w wr.drew := hw.drew
      have HR1 := Lib.hid (hr1.ext hEd)
      have HR2 := Lib.hid (hr5.ext hEd)
      have HC1 := Lib.hid (hcap1 rfl)
      have HC2 := Lib.hid (hcap2 rfl)
      have hRP := HS.out.2.2 k r hx
      have HT1 := Lib.hid hRP.1
      have HT2 := Lib.hid hRP.2.1
      have HSG := Lib.hid HS.out.1
      have hbl : b < wr.heap.size := World.block_lt_of_cell? wr _ hd1
      clear hx hr1 hr5 hcap1 hcap2 hRP
      have hlt' : (k : Int) < (m : Int) := by omega
      by_cases hz : kbo s.ar W (tmOf s.ar r.r) (tmOf s.ar r.l) = 0
      · have HR := Lib.hid (kbAll_f HX.out hz)
        have hzb : (kbo s.ar W (tmOf s.ar r.r) (tmOf s.ar r.l) == 0) = true := by simpa using hz
        go_wp2_with fail
        go_still_tail 15, (by kernel_rfl)
        change wpList _ _ _ _ _ wr.drew
        go_wp2_with fail
        (with_reducible refine (c_l14Why_ok (ar := s.ar) (W := W) (s := r.r) (t := r.l) HSG.out HW.out HT2.out HT1.out (RdSig.mk (RI.ext HA.out hEwd)) (RdWt.mk (RI.ext HSY.out hEwd) (RI.ext HRK.out hEwd)) (RdIc.mk HC2.out HR2.out) (RdIc.mk HC1.out HR1.out)).mono ?_)
        rintro e w5 ⟨rfl, hE5⟩
        go_wp2_with fail
        go_ret
        exact ⟨ret_bool HR.out.symm, Ext.trans hEwd hE5⟩
      · have hzb : (kbo s.ar W (tmOf s.ar r.r) (tmOf s.ar r.l) == 0) = false := by simpa using hz
        have HP := Lib.hid (show ∀ (j : Nat) (r : Ru), j < k + 1 → s.rs[j]? = some r → kbo s.ar W (tmOf s.ar r.r) (tmOf s.ar r.l) ≠ 0 from fun j y hj e => by
          rcases Nat.lt_or_ge j k with h' | h'
          · exact hp.out j y h' e
          · obtain rfl : j = k := by omega
            rw [HX.out] at e; cases e; exact hz)
        go_wp2_with fail
        go_still_tail 15, (by kernel_rfl)
        change wpList _ _ _ _ _ wr.drew
        go_wp2_with fail
        (with_reducible refine (c_l14Why_ok (ar := s.ar) (W := W) (s := r.r) (t := r.l) HSG.out HW.out HT2.out HT1.out (RdSig.mk (RI.ext HA.out hEwd)) (RdWt.mk (RI.ext HSY.out hEwd) (RI.ext HRK.out hEwd)) (RdIc.mk HC2.out HR2.out) (RdIc.mk HC1.out HR1.out)).mono ?_)
        rintro e w5 ⟨rfl, hE5⟩
        go_wp2_with fail
        go_roundw
        case rel => exact ⟨k + 1, by go_num, by omega, HP, Ext.trans hE2 (Ext.trans hEd hE5)⟩
        case measure => simp only [intOf]; omega
    · have HR := Lib.hid (kbAll_t (s := s) (W := W) fun j r hj e => hp.out j r (by rw [HL.out] at hj; omega) e)
      go_wp2
      go_ret
      exact ⟨ret_bool HR.out.symm, by exact extX⟩
set_option maxHeartbeats 1000000 in
theorem c_sKboOrients {v0 v1 : Value} {s : Sy} {W : Wt} {w : World} (h0 : RdSyC w v0 s) (h1 : RdWt w v1 W) :
    Calls Try.prog 98 #[v0, v1] w fun e w' => e = .returned (.bool (kboOrients s W)) ∧ Ext w w' := by
  obtain ⟨A, n, c, B, m, d, rfl, ha, hb⟩ := h0
  obtain ⟨S, p, e, R, q, f, rfl, hsy, hrk⟩ := h1
  have HA := Lib.hid ha
  have HB := Lib.hid hb
  have HSY := Lib.hid hsy
  have HRK := Lib.hid hrk
  clear ha hb hsy hrk
  cases hs : sysOk s with
  | false =>
    have HR := Lib.hid (show kboOrients s W = false by unfold kboOrients; rw [hs]; rfl)
    go_enter Try.func98, Try.ntmps98
    go_wp2_with (go_at_call 38; (with_reducible refine (c_sSystemOk (s := s) (by (first | (first | (with_reducible exact RdI.mk (RI.ext (Hid.out (by with_reducible assumption)) (by exact extX))) | (with_reducible exact RdI.ext (by with_reducible assumption) (by exact extX))) | (with_reducible exact RdSyK.mk (by (first | (with_reducible exact RI.ext (Hid.out (by with_reducible assumption)) (by exact extX)))) (RR.ext (Hid.out (by with_reducible assumption)) (by exact extX))) | (with_reducible exact RdSyK.ext (by with_reducible assumption) (by exact extX)) | (with_reducible exact RdWt.mk (by (first | (with_reducible exact RI.ext (Hid.out (by with_reducible assumption)) (by exact extX)))) (by (first | (with_reducible exact RI.ext (Hid.out (by with_reducible assumption)) (by exact extX))))) | (with_reducible exact RdWt.ext (by with_reducible assumption) (by exact extX)) | (with_reducible exact RdSig.mk (by (first | (with_reducible exact RI.ext (Hid.out (by with_reducible assumption)) (by exact extX))))) | (with_reducible exact RdSig.ext (by with_reducible assumption) (by exact extX))))).mono ?_); rintro e w1 ⟨rfl, hE1⟩; have hz1 := sz_of hE1; (try simp only [World.size_alloc, World.size_setCell, World.size_drew] at hz1); obtain ⟨hc1, hf1⟩ := bcell hE1; (try have hq1_0 : w.heap.size < w1.heap.size := by omega); (try have hq1_1 : w.heap.size + 1 < w1.heap.size := by omega); (try have hq1_2 : w.heap.size + 1 + 1 < w1.heap.size := by omega); (try have hq1_3 : w.heap.size + 1 + 1 + 1 < w1.heap.size := by omega); (try have hq1_4 : w.heap.size + 1 + 1 + 1 + 1 < w1.heap.size := by omega); (try have hq1_5 : w.heap.size + 1 + 1 + 1 + 1 + 1 < w1.heap.size := by omega))
    go_ret
    exact ⟨ret_bool HR.out.symm, by exact extX⟩
  | true =>
    cases hw : wtOk s.ar W with
    | false =>
      have HR := Lib.hid (show kboOrients s W = false by unfold kboOrients; rw [hs, hw]; rfl)
      go_enter Try.func98, Try.ntmps98
      go_wp2_with (first
        | (go_at_call 38; (with_reducible refine (c_sSystemOk (s := s) (by (first | (first | (with_reducible exact RdI.mk (RI.ext (Hid.out (by with_reducible assumption)) (by exact extX))) | (with_reducible exact RdI.ext (by with_reducible assumption) (by exact extX))) | (with_reducible exact RdSyK.mk (by (first | (with_reducible exact RI.ext (Hid.out (by with_reducible assumption)) (by exact extX)))) (RR.ext (Hid.out (by with_reducible assumption)) (by exact extX))) | (with_reducible exact RdSyK.ext (by with_reducible assumption) (by exact extX)) | (with_reducible exact RdWt.mk (by (first | (with_reducible exact RI.ext (Hid.out (by with_reducible assumption)) (by exact extX)))) (by (first | (with_reducible exact RI.ext (Hid.out (by with_reducible assumption)) (by exact extX))))) | (with_reducible exact RdWt.ext (by with_reducible assumption) (by exact extX)) | (with_reducible exact RdSig.mk (by (first | (with_reducible exact RI.ext (Hid.out (by with_reducible assumption)) (by exact extX))))) | (with_reducible exact RdSig.ext (by with_reducible assumption) (by exact extX))))).mono ?_); rintro e w1 ⟨rfl, hE1⟩; have hz1 := sz_of hE1; (try simp only [World.size_alloc, World.size_setCell, World.size_drew] at hz1); obtain ⟨hc1, hf1⟩ := bcell hE1; (try have hq1_0 : w.heap.size < w1.heap.size := by omega); (try have hq1_1 : w.heap.size + 1 < w1.heap.size := by omega); (try have hq1_2 : w.heap.size + 1 + 1 < w1.heap.size := by omega); (try have hq1_3 : w.heap.size + 1 + 1 + 1 < w1.heap.size := by omega); (try have hq1_4 : w.heap.size + 1 + 1 + 1 + 1 < w1.heap.size := by omega); (try have hq1_5 : w.heap.size + 1 + 1 + 1 + 1 + 1 < w1.heap.size := by omega))
        | (go_at_call 122; (with_reducible refine (c_sWeightsOk (ar := s.ar) (t := W) (by (first | (first | (with_reducible exact RdI.mk (RI.ext (Hid.out (by with_reducible assumption)) (by exact extX))) | (with_reducible exact RdI.ext (by with_reducible assumption) (by exact extX))) | (with_reducible exact RdSyK.mk (by (first | (with_reducible exact RI.ext (Hid.out (by with_reducible assumption)) (by exact extX)))) (RR.ext (Hid.out (by with_reducible assumption)) (by exact extX))) | (with_reducible exact RdSyK.ext (by with_reducible assumption) (by exact extX)) | (with_reducible exact RdWt.mk (by (first | (with_reducible exact RI.ext (Hid.out (by with_reducible assumption)) (by exact extX)))) (by (first | (with_reducible exact RI.ext (Hid.out (by with_reducible assumption)) (by exact extX))))) | (with_reducible exact RdWt.ext (by with_reducible assumption) (by exact extX)) | (with_reducible exact RdSig.mk (by (first | (with_reducible exact RI.ext (Hid.out (by with_reducible assumption)) (by exact extX))))) | (with_reducible exact RdSig.ext (by with_reducible assumption) (by exact extX)))) (by (first | (first | (with_reducible exact RdI.mk (RI.ext (Hid.out (by with_reducible assumption)) (by exact extX))) | (with_reducible exact RdI.ext (by with_reducible assumption) (by exact extX))) | (with_reducible exact RdSyK.mk (by (first | (with_reducible exact RI.ext (Hid.out (by with_reducible assumption)) (by exact extX)))) (RR.ext (Hid.out (by with_reducible assumption)) (by exact extX))) | (with_reducible exact RdSyK.ext (by with_reducible assumption) (by exact extX)) | (with_reducible exact RdWt.mk (by (first | (with_reducible exact RI.ext (Hid.out (by with_reducible assumption)) (by exact extX)))) (by (first | (with_reducible exact RI.ext (Hid.out (by with_reducible assumption)) (by exact extX))))) | (with_reducible exact RdWt.ext (by with_reducible assumption) (by exact extX)) | (with_reducible exact RdSig.mk (by (first | (with_reducible exact RI.ext (Hid.out (by with_reducible assumption)) (by exact extX))))) | (with_reducible exact RdSig.ext (by with_reducible assumption) (by exact extX))))).mono ?_); rintro e w2 ⟨rfl, hE2⟩; have hz2 := sz_of hE2; (try simp only [World.size_alloc, World.size_setCell, World.size_drew] at hz2); obtain ⟨hc2, hf2⟩ := bcell hE2; (try have hq2_0 : w.heap.size < w2.heap.size := by omega); (try have hq2_1 : w.heap.size + 1 < w2.heap.size := by omega); (try have hq2_2 : w.heap.size + 1 + 1 < w2.heap.size := by omega); (try have hq2_3 : w.heap.size + 1 + 1 + 1 < w2.heap.size := by omega); (try have hq2_4 : w.heap.size + 1 + 1 + 1 + 1 < w2.heap.size := by omega); (try have hq2_5 : w.heap.size + 1 + 1 + 1 + 1 + 1 < w2.heap.size := by omega); (try have hx2_1 : w1.heap.size < w2.heap.size := by omega)))
      go_ret
      exact ⟨ret_bool HR.out.symm, by exact extX⟩
    | true =>
      have HR := Lib.hid (show kboOrients s W = kbAll s W by unfold kboOrients; rw [hs, hw]; rfl)
      have HS := Lib.hid (sysOk_iff.1 hs)
      have HW := Lib.hid (wtOk_iff.1 hw)
      go_enter Try.func98, Try.ntmps98
      go_wp2_with (first
        | (go_at_call 38; (with_reducible refine (c_sSystemOk (s := s) (by (first | (first | (with_reducible exact RdI.mk (RI.ext (Hid.out (by with_reducible assumption)) (by exact extX))) | (with_reducible exact RdI.ext (by with_reducible assumption) (by exact extX))) | (with_reducible exact RdSyK.mk (by (first | (with_reducible exact RI.ext (Hid.out (by with_reducible assumption)) (by exact extX)))) (RR.ext (Hid.out (by with_reducible assumption)) (by exact extX))) | (with_reducible exact RdSyK.ext (by with_reducible assumption) (by exact extX)) | (with_reducible exact RdWt.mk (by (first | (with_reducible exact RI.ext (Hid.out (by with_reducible assumption)) (by exact extX)))) (by (first | (with_reducible exact RI.ext (Hid.out (by with_reducible assumption)) (by exact extX))))) | (with_reducible exact RdWt.ext (by with_reducible assumption) (by exact extX)) | (with_reducible exact RdSig.mk (by (first | (with_reducible exact RI.ext (Hid.out (by with_reducible assumption)) (by exact extX))))) | (with_reducible exact RdSig.ext (by with_reducible assumption) (by exact extX))))).mono ?_); rintro e w1 ⟨rfl, hE1⟩; have hz1 := sz_of hE1; (try simp only [World.size_alloc, World.size_setCell, World.size_drew] at hz1); obtain ⟨hc1, hf1⟩ := bcell hE1; (try have hq1_0 : w.heap.size < w1.heap.size := by omega); (try have hq1_1 : w.heap.size + 1 < w1.heap.size := by omega); (try have hq1_2 : w.heap.size + 1 + 1 < w1.heap.size := by omega); (try have hq1_3 : w.heap.size + 1 + 1 + 1 < w1.heap.size := by omega); (try have hq1_4 : w.heap.size + 1 + 1 + 1 + 1 < w1.heap.size := by omega); (try have hq1_5 : w.heap.size + 1 + 1 + 1 + 1 + 1 < w1.heap.size := by omega))
        | (go_at_call 122; (with_reducible refine (c_sWeightsOk (ar := s.ar) (t := W) (by (first | (first | (with_reducible exact RdI.mk (RI.ext (Hid.out (by with_reducible assumption)) (by exact extX))) | (with_reducible exact RdI.ext (by with_reducible assumption) (by exact extX))) | (with_reducible exact RdSyK.mk (by (first | (with_reducible exact RI.ext (Hid.out (by with_reducible assumption)) (by exact extX)))) (RR.ext (Hid.out (by with_reducible assumption)) (by exact extX))) | (with_reducible exact RdSyK.ext (by with_reducible assumption) (by exact extX)) | (with_reducible exact RdWt.mk (by (first | (with_reducible exact RI.ext (Hid.out (by with_reducible assumption)) (by exact extX)))) (by (first | (with_reducible exact RI.ext (Hid.out (by with_reducible assumption)) (by exact extX))))) | (with_reducible exact RdWt.ext (by with_reducible assumption) (by exact extX)) | (with_reducible exact RdSig.mk (by (first | (with_reducible exact RI.ext (Hid.out (by with_reducible assumption)) (by exact extX))))) | (with_reducible exact RdSig.ext (by with_reducible assumption) (by exact extX)))) (by (first | (first | (with_reducible exact RdI.mk (RI.ext (Hid.out (by with_reducible assumption)) (by exact extX))) | (with_reducible exact RdI.ext (by with_reducible assumption) (by exact extX))) | (with_reducible exact RdSyK.mk (by (first | (with_reducible exact RI.ext (Hid.out (by with_reducible assumption)) (by exact extX)))) (RR.ext (Hid.out (by with_reducible assumption)) (by exact extX))) | (with_reducible exact RdSyK.ext (by with_reducible assumption) (by exact extX)) | (with_reducible exact RdWt.mk (by (first | (with_reducible exact RI.ext (Hid.out (by with_reducible assumption)) (by exact extX)))) (by (first | (with_reducible exact RI.ext (Hid.out (by with_reducible assumption)) (by exact extX))))) | (with_reducible exact RdWt.ext (by with_reducible assumption) (by exact extX)) | (with_reducible exact RdSig.mk (by (first | (with_reducible exact RI.ext (Hid.out (by with_reducible assumption)) (by exact extX))))) | (with_reducible exact RdSig.ext (by with_reducible assumption) (by exact extX))))).mono ?_); rintro e w2 ⟨rfl, hE2⟩; have hz2 := sz_of hE2; (try simp only [World.size_alloc, World.size_setCell, World.size_drew] at hz2); obtain ⟨hc2, hf2⟩ := bcell hE2; (try have hq2_0 : w.heap.size < w2.heap.size := by omega); (try have hq2_1 : w.heap.size + 1 < w2.heap.size := by omega); (try have hq2_2 : w.heap.size + 1 + 1 < w2.heap.size := by omega); (try have hq2_3 : w.heap.size + 1 + 1 + 1 < w2.heap.size := by omega); (try have hq2_4 : w.heap.size + 1 + 1 + 1 + 1 < w2.heap.size := by omega); (try have hq2_5 : w.heap.size + 1 + 1 + 1 + 1 + 1 < w2.heap.size := by omega); (try have hx2_1 : w1.heap.size < w2.heap.size := by omega))
        | (go_at_call 123; (with_reducible refine (c_l14Orients (s := s) (W := W) (by (first | (first | (with_reducible exact RdI.mk (RI.ext (Hid.out (by with_reducible assumption)) (by exact extX))) | (with_reducible exact RdI.ext (by with_reducible assumption) (by exact extX))) | (with_reducible exact RdSyK.mk (by (first | (with_reducible exact RI.ext (Hid.out (by with_reducible assumption)) (by exact extX)))) (RR.ext (Hid.out (by with_reducible assumption)) (by exact extX))) | (with_reducible exact RdSyK.ext (by with_reducible assumption) (by exact extX)) | (with_reducible exact RdWt.mk (by (first | (with_reducible exact RI.ext (Hid.out (by with_reducible assumption)) (by exact extX)))) (by (first | (with_reducible exact RI.ext (Hid.out (by with_reducible assumption)) (by exact extX))))) | (with_reducible exact RdWt.ext (by with_reducible assumption) (by exact extX)) | (with_reducible exact RdSig.mk (by (first | (with_reducible exact RI.ext (Hid.out (by with_reducible assumption)) (by exact extX))))) | (with_reducible exact RdSig.ext (by with_reducible assumption) (by exact extX)))) (by (first | (first | (with_reducible exact RdI.mk (RI.ext (Hid.out (by with_reducible assumption)) (by exact extX))) | (with_reducible exact RdI.ext (by with_reducible assumption) (by exact extX))) | (with_reducible exact RdSyK.mk (by (first | (with_reducible exact RI.ext (Hid.out (by with_reducible assumption)) (by exact extX)))) (RR.ext (Hid.out (by with_reducible assumption)) (by exact extX))) | (with_reducible exact RdSyK.ext (by with_reducible assumption) (by exact extX)) | (with_reducible exact RdWt.mk (by (first | (with_reducible exact RI.ext (Hid.out (by with_reducible assumption)) (by exact extX)))) (by (first | (with_reducible exact RI.ext (Hid.out (by with_reducible assumption)) (by exact extX))))) | (with_reducible exact RdWt.ext (by with_reducible assumption) (by exact extX)) | (with_reducible exact RdSig.mk (by (first | (with_reducible exact RI.ext (Hid.out (by with_reducible assumption)) (by exact extX))))) | (with_reducible exact RdSig.ext (by with_reducible assumption) (by exact extX)))) HS.out HW.out).mono ?_); rintro e w3 ⟨rfl, hE3⟩; have hz3 := sz_of hE3; (try simp only [World.size_alloc, World.size_setCell, World.size_drew] at hz3); obtain ⟨hc3, hf3⟩ := bcell hE3; (try have hq3_0 : w.heap.size < w3.heap.size := by omega); (try have hq3_1 : w.heap.size + 1 < w3.heap.size := by omega); (try have hq3_2 : w.heap.size + 1 + 1 < w3.heap.size := by omega); (try have hq3_3 : w.heap.size + 1 + 1 + 1 < w3.heap.size := by omega); (try have hq3_4 : w.heap.size + 1 + 1 + 1 + 1 < w3.heap.size := by omega); (try have hq3_5 : w.heap.size + 1 + 1 + 1 + 1 + 1 < w3.heap.size := by omega); (try have hx3_1 : w1.heap.size < w3.heap.size := by omega); (try have hx3_2 : w2.heap.size < w3.heap.size := by omega)))
      all_goals go_ret
      all_goals exact ⟨ret_bool HR.out.symm, by exact extX⟩

end Go.Proofs.Ytjmdfjinicbkeaa
