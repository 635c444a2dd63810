/- Several texts in one: LpsQ, BaM, OpenF, Turn. -/
import Derived.Test.YtibeelcnooelkaaQ16
import Derived.Test.YtibeelcnooelkaaQ19
import Derived.Test.YtibeelcnooelkaaQ31
import Derived.Test.YtibeelcnooelkaaQ30
import Derived.Deep.Slices
import Derived.Deep.Fields
import Derived.ChangeSame
import Derived.Test.YtibeelcnooelkaaQ13
import Derived.Test.YtibeelcnooelkaaQ12
namespace Go.Proofs.Ytibeelcnooelkaa
open Go.RowKit
set_option linter.unusedSimpArgs false
set_option linter.unusedVariables false
theorem c_l13BagO {v0 v1 v2 v3 : Value} {ar rk s t : List Int} {b : Bool} {w : World} (hok : lpoArgs ar rk s t = true) (hb : decide (0 < lpoA ar rk false s t) = b) (h0 : RdSig w v0 ar) (h1 : RdI w v1 rk) (h2 : RdIc w v2 s) (h3 : RdIc w v3 t) :
    Calls Try.prog 32 #[v0, v1, v2, v3] w fun e w' => e = .returned (.bool b) ∧ Ext w w' := by
  obtain ⟨A, n, c, rfl, ha⟩ := h0
  obtain ⟨R, rn, rc, rfl, hr⟩ := h1
  obtain ⟨D, k, l, rfl, hkl, hd⟩ := h2
  obtain ⟨B, m, d, rfl, hmd, hbb⟩ := h3
  obtain ⟨⟨g1, g2⟩, g3, g4, g5⟩ := lpoArgs_iff.1 hok
  subst hb
  exact c_l13Bag g3 g4 g2 g1 ha hr hbb hd hmd hkl
set_option maxRecDepth 100000 in
set_option maxHeartbeats 2000000 in
theorem c_sOrientsBags {v0 v1 : Value} {s : Sy} {rk : List Int} {w : World} (h0 : RdSyC w v0 s) (h1 : RdI w v1 rk) :
    Calls Try.prog 13 #[v0, v1] w fun e w' => e = .returned (.bool (orientsV false s rk)) ∧ Ext w w' := by
  obtain ⟨A, n, c, B, m, d, rfl, ha, hb⟩ := h0
  obtain ⟨R, q, f, rfl, hrk⟩ := h1
  have hm := hb.le
  have HL := Lib.hid hb.len
  have HA := Lib.hid ha
  have HB := Lib.hid hb
  have HRK := Lib.hid hrk
  clear ha hb hrk
  cases hs : sysOk s with
  | false =>
    have HR := Lib.hid (orientsV_sys (lex := false) (rk := rk) hs)
    go_enter Try.func13, Try.ntmps13
    go_wp2_with (go_at_call 29; (with_reducible refine (c_sSystemOk (s := s) (by (first | (first | (with_reducible exact RdI.mk (RI.ext (Hid.out (by with_reducible assumption)) (by exact extX))) | (with_reducible exact RdI.ext (by with_reducible assumption) (by exact extX))) | (with_reducible exact RdSyK.mk (by (first | (with_reducible exact RI.ext (Hid.out (by with_reducible assumption)) (by exact extX)))) (RR.ext (Hid.out (by with_reducible assumption)) (by exact extX))) | (with_reducible exact RdSyK.ext (by with_reducible assumption) (by exact extX)) | (with_reducible exact RdSig.mk (by (first | (with_reducible exact RI.ext (Hid.out (by with_reducible assumption)) (by exact extX))))) | (with_reducible exact RdSig.ext (by with_reducible assumption) (by exact extX))))).mono ?_); rintro e w1 ⟨rfl, hE1⟩; have hz1 := sz_of hE1; (try simp only [World.size_alloc, World.size_setCell, World.size_drew] at hz1); obtain ⟨hc1, hf1⟩ := bcell hE1; (try have hq1_0 : w.heap.size < w1.heap.size := by omega); (try have hq1_1 : w.heap.size + 1 < w1.heap.size := by omega); (try have hq1_2 : w.heap.size + 1 + 1 < w1.heap.size := by omega); (try have hq1_3 : w.heap.size + 1 + 1 + 1 < w1.heap.size := by omega); (try have hq1_4 : w.heap.size + 1 + 1 + 1 + 1 < w1.heap.size := by omega); (try have hq1_5 : w.heap.size + 1 + 1 + 1 + 1 + 1 < w1.heap.size := by omega))
    go_ret
    exact ⟨ret_bool HR.out.symm, by exact extX⟩
  | true =>
    cases hk : rankOk s.ar rk with
    | false =>
      have HR := Lib.hid (orientsV_rank (lex := false) hs hk)
      go_enter Try.func13, Try.ntmps13
      go_wp2_with (first
        | (go_at_call 29; (with_reducible refine (c_sSystemOk (s := s) (by (first | (first | (with_reducible exact RdI.mk (RI.ext (Hid.out (by with_reducible assumption)) (by exact extX))) | (with_reducible exact RdI.ext (by with_reducible assumption) (by exact extX))) | (with_reducible exact RdSyK.mk (by (first | (with_reducible exact RI.ext (Hid.out (by with_reducible assumption)) (by exact extX)))) (RR.ext (Hid.out (by with_reducible assumption)) (by exact extX))) | (with_reducible exact RdSyK.ext (by with_reducible assumption) (by exact extX)) | (with_reducible exact RdSig.mk (by (first | (with_reducible exact RI.ext (Hid.out (by with_reducible assumption)) (by exact extX))))) | (with_reducible exact RdSig.ext (by with_reducible assumption) (by exact extX))))).mono ?_); rintro e w1 ⟨rfl, hE1⟩; have hz1 := sz_of hE1; (try simp only [World.size_alloc, World.size_setCell, World.size_drew] at hz1); obtain ⟨hc1, hf1⟩ := bcell hE1; (try have hq1_0 : w.heap.size < w1.heap.size := by omega); (try have hq1_1 : w.heap.size + 1 < w1.heap.size := by omega); (try have hq1_2 : w.heap.size + 1 + 1 < w1.heap.size := by omega); (try have hq1_3 : w.heap.size + 1 + 1 + 1 < w1.heap.size := by omega); (try have hq1_4 : w.heap.size + 1 + 1 + 1 + 1 < w1.heap.size := by omega); (try have hq1_5 : w.heap.size + 1 + 1 + 1 + 1 + 1 < w1.heap.size := by omega))
        | (go_at_call 30; (with_reducible refine (c_sRankOk (ar := s.ar) (rk := rk) (by (first | (first | (with_reducible exact RdI.mk (RI.ext (Hid.out (by with_reducible assumption)) (by exact extX))) | (with_reducible exact RdI.ext (by with_reducible assumption) (by exact extX))) | (with_reducible exact RdSyK.mk (by (first | (with_reducible exact RI.ext (Hid.out (by with_reducible assumption)) (by exact extX)))) (RR.ext (Hid.out (by with_reducible assumption)) (by exact extX))) | (with_reducible exact RdSyK.ext (by with_reducible assumption) (by exact extX)) | (with_reducible exact RdSig.mk (by (first | (with_reducible exact RI.ext (Hid.out (by with_reducible assumption)) (by exact extX))))) | (with_reducible exact RdSig.ext (by with_reducible assumption) (by exact extX)))) (by (first | (first | (with_reducible exact RdI.mk (RI.ext (Hid.out (by with_reducible assumption)) (by exact extX))) | (with_reducible exact RdI.ext (by with_reducible assumption) (by exact extX))) | (with_reducible exact RdSyK.mk (by (first | (with_reducible exact RI.ext (Hid.out (by with_reducible assumption)) (by exact extX)))) (RR.ext (Hid.out (by with_reducible assumption)) (by exact extX))) | (with_reducible exact RdSyK.ext (by with_reducible assumption) (by exact extX)) | (with_reducible exact RdSig.mk (by (first | (with_reducible exact RI.ext (Hid.out (by with_reducible assumption)) (by exact extX))))) | (with_reducible exact RdSig.ext (by with_reducible assumption) (by exact extX))))).mono ?_); rintro e w2 ⟨rfl, hE2⟩; have hz2 := sz_of hE2; (try simp only [World.size_alloc, World.size_setCell, World.size_drew] at hz2); obtain ⟨hc2, hf2⟩ := bcell hE2; (try have hq2_0 : w.heap.size < w2.heap.size := by omega); (try have hq2_1 : w.heap.size + 1 < w2.heap.size := by omega); (try have hq2_2 : w.heap.size + 1 + 1 < w2.heap.size := by omega); (try have hq2_3 : w.heap.size + 1 + 1 + 1 < w2.heap.size := by omega); (try have hq2_4 : w.heap.size + 1 + 1 + 1 + 1 < w2.heap.size := by omega); (try have hq2_5 : w.heap.size + 1 + 1 + 1 + 1 + 1 < w2.heap.size := by omega); (try have hx2_1 : w1.heap.size < w2.heap.size := by omega)))
      go_ret
      exact ⟨ret_bool HR.out.symm, by exact extX⟩
    | true =>
      have HR0 := Lib.hid (orientsV_all (lex := false) hs hk)
      have HS := Lib.hid (sysOk_iff.1 hs)
      have HK := Lib.hid hk
      clear hs hk
      have hsok : sysOk s = true := sysOk_iff.2 HS.out
      have hkok : rankOk s.ar rk = true := HK.out
      go_enter Try.func13, Try.ntmps13
      go_wp2_with fail
      (with_reducible refine (c_sSystemOk (s := s) (by (first | (first | (with_reducible exact RdI.mk (RI.ext (Hid.out (by with_reducible assumption)) (by exact extX))) | (with_reducible exact RdI.ext (by with_reducible assumption) (by exact extX))) | (with_reducible exact RdSyK.mk (by (first | (with_reducible exact RI.ext (Hid.out (by with_reducible assumption)) (by exact extX)))) (RR.ext (Hid.out (by with_reducible assumption)) (by exact extX))) | (with_reducible exact RdSyK.ext (by with_reducible assumption) (by exact extX)) | (with_reducible exact RdSig.mk (by (first | (with_reducible exact RI.ext (Hid.out (by with_reducible assumption)) (by exact extX))))) | (with_reducible exact RdSig.ext (by with_reducible assumption) (by exact extX))))).mono ?_); rintro e w1 ⟨rfl, hE1⟩; have hz1 := sz_of hE1; (try simp only [World.size_alloc, World.size_setCell, World.size_drew] at hz1); obtain ⟨hc1, hf1⟩ := bcell hE1; (try have hq1_0 : w.heap.size < w1.heap.size := by omega); (try have hq1_1 : w.heap.size + 1 < w1.heap.size := by omega); (try have hq1_2 : w.heap.size + 1 + 1 < w1.heap.size := by omega); (try have hq1_3 : w.heap.size + 1 + 1 + 1 < w1.heap.size := by omega); (try have hq1_4 : w.heap.size + 1 + 1 + 1 + 1 < w1.heap.size := by omega); (try have hq1_5 : w.heap.size + 1 + 1 + 1 + 1 + 1 < w1.heap.size := by omega)
      have hs0 : w1.cell? ⟨w.heap.size, 0, none⟩ = some (.slice A n c) := Ext.keep hE1 (by simp [go_sem])
      have hs1 : w1.cell? ⟨w.heap.size, 1, none⟩ = some (.slice B m d) := Ext.keep hE1 (by simp [go_sem])
      go_wp2_with fail
      (with_reducible refine (c_sRankOk (ar := s.ar) (rk := rk) (by (first | (first | (with_reducible exact RdI.mk (RI.ext (Hid.out (by with_reducible assumption)) (by exact extX))) | (with_reducible exact RdI.ext (by with_reducible assumption) (by exact extX))) | (with_reducible exact RdSyK.mk (by (first | (with_reducible exact RI.ext (Hid.out (by with_reducible assumption)) (by exact extX)))) (RR.ext (Hid.out (by with_reducible assumption)) (by exact extX))) | (with_reducible exact RdSyK.ext (by with_reducible assumption) (by exact extX)) | (with_reducible exact RdSig.mk (by (first | (with_reducible exact RI.ext (Hid.out (by with_reducible assumption)) (by exact extX))))) | (with_reducible exact RdSig.ext (by with_reducible assumption) (by exact extX)))) (by (first | (first | (with_reducible exact RdI.mk (RI.ext (Hid.out (by with_reducible assumption)) (by exact extX))) | (with_reducible exact RdI.ext (by with_reducible assumption) (by exact extX))) | (with_reducible exact RdSyK.mk (by (first | (with_reducible exact RI.ext (Hid.out (by with_reducible assumption)) (by exact extX)))) (RR.ext (Hid.out (by with_reducible assumption)) (by exact extX))) | (with_reducible exact RdSyK.ext (by with_reducible assumption) (by exact extX)) | (with_reducible exact RdSig.mk (by (first | (with_reducible exact RI.ext (Hid.out (by with_reducible assumption)) (by exact extX))))) | (with_reducible exact RdSig.ext (by with_reducible assumption) (by exact extX))))).mono ?_); rintro e w2 ⟨rfl, hE2⟩; have hz2 := sz_of hE2; (try simp only [World.size_alloc, World.size_setCell, World.size_drew] at hz2); obtain ⟨hc2, hf2⟩ := bcell hE2; (try have hq2_0 : w.heap.size < w2.heap.size := by omega); (try have hq2_1 : w.heap.size + 1 < w2.heap.size := by omega); (try have hq2_2 : w.heap.size + 1 + 1 < w2.heap.size := by omega); (try have hq2_3 : w.heap.size + 1 + 1 + 1 < w2.heap.size := by omega); (try have hq2_4 : w.heap.size + 1 + 1 + 1 + 1 < w2.heap.size := by omega); (try have hq2_5 : w.heap.size + 1 + 1 + 1 + 1 + 1 < w2.heap.size := by omega); (try have hx2_1 : w1.heap.size < w2.heap.size := by omega)
      have hw0 : w2.cell? ⟨w.heap.size, 0, none⟩ = some (.slice A n c) := Ext.keep hE2 hs0
      have hw1 : w2.cell? ⟨w.heap.size, 1, none⟩ = some (.slice B m d) := Ext.keep hE2 hs1
      have hEo : Ext w w2 := by exact extX
      go_wp2_with fail
      go_loopw [5] (fun i wr => ∃ k : Nat, i = .int .i64 k ∧ k ≤ m ∧ Hid (∀ (j : Nat) (r : Ru), j < k → s.rs[j]? = some r → lpoA s.ar rk false r.r r.l ≠ 0) ∧ Ext w2 wr) (fun i _ => m - (intOf i).toNat)
      case atStart => exact ⟨0, rfl, Nat.zero_le _, Lib.hid fun j y hj => by omega, Ext.refl _⟩
      case round =>
        obtain ⟨k, rfl, hk, hp, hE9⟩ := hrel
        have hw : Ext w wr := Ext.trans hEo hE9
        have hr0 : wr.cell? ⟨w.heap.size, 0, none⟩ = some (.slice A n c) := Ext.keep hE9 hw0
        have hr1' : wr.cell? ⟨w.heap.size, 1, none⟩ = some (.slice B m d) := Ext.keep hE9 hw1
        have hws0 : w.heap.size < wr.heap.size := World.block_lt_of_cell? wr _ hr0
        by_cases hlt : k < m
        · obtain ⟨b, o, r, A1, m1, c1, A2, m2, c2, rfl, hx, hd1, hd2, hr1, hr5, hcap1, hcap2⟩ := RR.at_ (RR.ext HB.out hw) hlt
          have hEd : Ext wr wr.drew := (Ext.refl wr).drew
          have hEwd : Ext w wr.drew := hw.drew
          have HX := Lib.hid hx
          have HR1 := Lib.hid (hr1.ext hEd)
          have HR2 := Lib.hid (hr5.ext hEd)
          have HC1 := Lib.hid (hcap1 rfl)
          have HC2 := Lib.hid (hcap2 rfl)
          have HOK := Lib.hid (lpoArgs_rule HS.out HK.out hx)
          have hbl : b < wr.heap.size := World.block_lt_of_cell? wr _ hd1
          clear hx hr1 hr5 hcap1 hcap2
          have hlt' : (k : Int) < (m : Int) := by omega
          obtain ⟨V, hV⟩ : ∃ V, decide (0 < lpoA s.ar rk false r.r r.l) = V := ⟨_, rfl⟩
          have HV := Lib.hid hV
          clear hV
          by_cases hz : V = false
          · have HR := Lib.hid (lpAll_f (lex := false) (rk := rk) HX.out (by have := HV.out; rw [hz, decide_eq_false_iff_not] at this; omega))
            have hzb : (!V) = true := by rw [hz]; rfl
            clear hz
            go_wp2_with fail
            go_still_tail 15, (by kernel_rfl)
            change wpList _ _ _ _ _ wr.drew
            go_wp2_with fail
            (with_reducible refine (c_l13BagO HOK.out HV.out (RdSig.mk (RI.ext HA.out hEwd)) (RdI.mk (RI.ext HRK.out hEwd)) (RdIc.mk HC2.out HR2.out) (RdIc.mk HC1.out HR1.out)).mono ?_)
            rintro e w5 ⟨rfl, hE5⟩
            go_wp2
            go_ret
            exact ⟨ret_bool (by rw [HR0.out, HR.out]), Ext.trans hEwd hE5⟩
          · have hzb : (!V) = false := by cases V with | false => exact absurd rfl hz | true => rfl
            have HP := Lib.hid (show ∀ (j : Nat) (r : Ru), j < k + 1 → s.rs[j]? = some r → lpoA s.ar rk false r.r r.l ≠ 0 from fun j y hj e => by
              rcases Nat.lt_or_ge j k with h' | h'
              · exact hp.out j y h' e
              · obtain rfl : j = k := by omega
                rw [HX.out] at e; cases e; have := HV.out; rw [show V = true by cases V with | false => exact absurd rfl hz | true => rfl, decide_eq_true_eq] at this; omega)
            clear hz
            go_wp2_with fail
            go_still_tail 15, (by kernel_rfl)
            change wpList _ _ _ _ _ wr.drew
            go_wp2_with fail
            (with_reducible refine (c_l13BagO HOK.out HV.out (RdSig.mk (RI.ext HA.out hEwd)) (RdI.mk (RI.ext HRK.out hEwd)) (RdIc.mk HC2.out HR2.out) (RdIc.mk HC1.out HR1.out)).mono ?_)
            rintro e w5 ⟨rfl, hE5⟩
            go_wp2
            go_roundw
            case rel => exact ⟨k + 1, by go_num, by omega, HP, Ext.trans hE9 (Ext.trans hEd hE5)⟩
            case measure => simp only [intOf]; omega
        · have HR := Lib.hid (lpAll_t (s := s) (rk := rk) (lex := false) fun j r hj e => hp.out j r (by rw [HL.out] at hj; omega) e)
          go_wp2
          go_ret
          exact ⟨ret_bool (by rw [HR0.out, HR.out]), by exact extX⟩
end Go.Proofs.Ytibeelcnooelkaa
namespace Go.Proofs.Ytibeelcnooelkaa
open Go.RowKit
set_option linter.unusedSimpArgs false
set_option linter.unusedVariables false
theorem c_sOrBF {v0 v1 : Value} {s : Sy} {rk : List Int} {b : Bool} {w : World} (hb : orientsV false s rk = b) (h0 : RdSyC w v0 s) (h1 : RdI w v1 rk) :
    Calls Try.prog 13 #[v0, v1] w fun e w' => e = .returned (.bool b) ∧ Ext w w' := by subst hb; exact c_sOrientsBags h0 h1
set_option maxRecDepth 100000 in
set_option maxHeartbeats 8000000 in
theorem c_sFirstBags {v0 : Value} {s : Sy} {o : Option (List Int)} {w : World} (ho : ansF false s = o) (h0 : RdSyC w v0 s) :
    Calls Try.prog 23 #[v0] w fun e w' => SfOut w o e w' := by
  obtain ⟨A0, n0, c0, B0, m0, d0, rfl, ha, hb⟩ := h0
  have HA := Lib.hid ha
  have HB := Lib.hid hb
  have hL := ha.1.1
  clear ha hb
  cases hs : sysOk s with
  | false =>
    have hn : o = none := by rw [← ho]; unfold ansF; rw [hs]; rfl
    subst hn
    have HSO := Lib.hid hs
    clear ho hs
    go_enter Try.func23, Try.ntmps23
    go_wp2_with fail
    (with_reducible refine (c_sSystemOkF HSO.out (RdSyK.mk (RI.ext HA.out (by exact extX)) (RR.ext HB.out (by exact extX)))).mono ?_)
    rintro e w2 ⟨rfl, hE2⟩
    have HE2 := Lib.hid (show Ext w w2 by exact extX)
    clear hE2
    go_wp2_with fail
    refine bodyPost_ret (v := .tuple #[.slice (some ⟨w2.heap.size, 0, none⟩) 0 0, .bool false]) (by simp [results, Try.results23, go_sem]) rfl ?_
    exact ⟨_, 0, 0, rfl, ⟨⟨rfl, by decide⟩, by omega⟩, HE2.out.alloc _⟩
  | true =>
    have hSy := sysOk_iff.1 hs
    have h8 : s.ar.length ≤ 8 := hSy.1.2.1
    have HSP := Lib.hid hSy
    have HSO := Lib.hid hs
    have HW0 := Lib.hid (show OnG (TO false s) o (muR (upI 0 n0) + 1) (upI 0 n0) from OnG.start (upI_ok (by omega)) (by rw [← hL, ansF_gs hs]; exact ho))
    clear ho hs hSy
    go_enter Try.func23, Try.ntmps23
    go_wp2_with fail
    (with_reducible refine (c_sSystemOkF HSO.out (RdSyK.mk (RI.ext HA.out (by exact extX)) (RR.ext HB.out (by exact extX)))).mono ?_)
    rintro e w2 ⟨rfl, hE2⟩
    have b0 : w2.cell? ⟨w.heap.size, 0, none⟩ = some (.slice A0 n0 c0) := Ext.keep hE2 (by simp [go_sem])
    have b1 : w2.cell? ⟨w.heap.size, 1, none⟩ = some (.slice B0 m0 d0) := Ext.keep hE2 (by simp [go_sem])
    have HE2 := Lib.hid (show Ext w w2 by exact extX)
    clear hE2
    go_wp2_with fail
    (with_reducible refine (c_l16First (n := n0) (by omega)).mono ?_)
    rintro e w3 ⟨RA, rn, rc, rfl, hR3, hE3⟩
    have hcp3 := hR3.cap
    have HR3 := Lib.hid hR3.ri
    have k0 := Ext.keep hE3 b0
    have k1 := Ext.keep hE3 b1
    have HE3 := Lib.hid (Ext.trans HE2.out hE3)
    clear hR3 hE3 b0 b1
    go_wp2_with fail
    go_loopw [4, 5] (fun rv mv wr => ∃ more : Bool, mv = .bool more ∧ Hid (Ext w3 wr) ∧ Hid ((more = true → ∃ k RA rn rc rk, rv = .slice RA rn rc ∧ RI wr RA rn rk ∧ (rn ≤ rc ∧ rc ≤ 9223372036854775807) ∧ rk.length = n0 ∧ OnG (TO false s) o k rk) ∧ (more = false → o = none))) (fun rv mv wr => frMeas (TO false s) n0 o rv mv wr)
    case atStart => exact ⟨true, rfl, Lib.hid (Ext.refl _), Lib.hid ⟨fun _ => ⟨_, RA, rn, rc, _, rfl, HR3.out, hcp3, upI_len _ _, HW0.out⟩, fun h => by cases h⟩⟩
    case round =>
      obtain ⟨more, rfl, hEr, hI⟩ := hrel
      have HErw := Lib.hid (Ext.trans HE3.out hEr.out)
      have y0 := Ext.keep hEr.out k0
      have y1 := Ext.keep hEr.out k1
      cases more with
      | false =>
        have HN := Lib.hid (hI.out.2 rfl)
        go_wp2_with fail
        rw [HN.out]
        refine bodyPost_ret (v := .tuple #[.slice (some ⟨wr.heap.size, 0, none⟩) 0 0, .bool false]) (by simp [results, Try.results23, go_sem]) rfl ?_
        exact ⟨_, 0, 0, rfl, ⟨⟨rfl, by decide⟩, by omega⟩, HErw.out.alloc _⟩
      | true =>
        obtain ⟨_, RA, rn, rc, _, rfl, _, hcp, _, _⟩ := hI.out.1 rfl
        have hex : ∃ k, ∃ A n c rk, Value.slice RA rn rc = .slice A n c ∧ RI wr A n rk ∧ rk.length = n0 ∧ OnG (TO false s) o k rk := by
          obtain ⟨k, RA', rn', rc', rk, h0, h1, h2, h3, h4⟩ := hI.out.1 rfl
          exact ⟨k, RA', rn', rc', rk, h0, h1, h3, h4⟩
        obtain ⟨⟨A', n', c', rk, e', hX, hlen, hW⟩, _⟩ := leastOf_spec hex
        have e1 : RA = A' := by cases e'; rfl
        have e2 : rn = n' := by cases e'; rfl
        have e3 : rc = c' := by cases e'; rfl
        subst e1; subst e2; subst e3
        clear e'
        have hk : rankOk s.ar rk = true := rank_of_perm HSP.out hW.1 (by rw [hlen, hL])
        have HK := Lib.hid hk
        have HTO := Lib.hid (show TO false s rk ↔ orientsV false s rk = true by unfold TO; exact Iff.rfl)
        have HX := Lib.hid hX
        have HW := Lib.hid hW
        have HLN := Lib.hid hlen
        obtain ⟨g, hg⟩ : ∃ g, orientsV false s rk = g := ⟨_, rfl⟩
        have HG := Lib.hid hg
        clear hX hW hex hg hk hlen
        go_wp2_with fail
        (with_reducible refine (c_sOrBF HG.out (RdSyK.mk (RI.ext HA.out HErw.out) (RR.ext HB.out HErw.out)) (RdI.mk HX.out)).mono ?_)
        rintro e w5 ⟨rfl, hE5⟩
        have HE5 := Lib.hid (Ext.trans hEr.out hE5)
        have HE5w := Lib.hid (Ext.trans HErw.out hE5)
        have HX5 := Lib.hid (RI.ext HX.out hE5)
        have z0 := Ext.keep hE5 y0
        have z1 := Ext.keep hE5 y1
        clear hE5 y0 y1
        cases g with
        | true =>
          have ho : o = some rk := HW.out.yes (HTO.out.2 HG.out)
          go_wp2_with fail
          refine bodyPost_ret (v := .tuple #[.slice RA rn rc, .bool true]) (by simp [results, Try.results23, go_sem]) rfl ?_
          rw [ho]
          exact ⟨RA, rn, rc, rfl, HX5.out, HE5w.out⟩
        | false =>
          have hgo : ¬ TO false s rk := fun h => by have h2 := HTO.out.1 h; rw [HG.out] at h2; cases h2
          obtain ⟨nb, hnb⟩ : ∃ b, nextB rk = b := ⟨_, rfl⟩
          have HNB := Lib.hid hnb
          clear hnb
          go_wp2_with fail
          (with_reducible refine (c_sNextRank HX5.out hcp).mono ?_)
          rintro e w6 ⟨NA, nn, nc, rfl, hncp, hnfar, hNR, hE6⟩
          rw [HNB.out]
          have HE6 := Lib.hid (Ext.trans HE5.out hE6)
          have HNR := Lib.hid hNR
          have HNX := Lib.hid (show (nb = true → ∃ m, m < leastOf (fun k => ∃ A n c rk, Value.slice RA rn rc = .slice A n c ∧ RI wr A n rk ∧ rk.length = n0 ∧ OnG (TO false s) o k rk) ∧ OnG (TO false s) o m (nextV rk)) ∧ (nb = false → o = none) from ⟨fun e => by rw [e] at HNB; exact HW.out.next hgo HNB.out, fun e => by rw [e] at HNB; exact HW.out.stop hgo HNB.out⟩)
          have HNL := Lib.hid (show nb = true → (nextV rk).length = n0 from fun e => by rw [e] at HNB; rw [(nextV_up HNB.out).2.1]; exact HLN.out)
          clear hNR hnfar z0 z1 hE6
          go_wp2_with fail
          go_roundw
          case rel => exact ⟨nb, rfl, HE6, Lib.hid ⟨fun e => by
            obtain ⟨m, _, hm⟩ := HNX.out.1 e
            exact ⟨m, NA, nn, nc, _, rfl, HNR.out, hncp, HNL.out e, hm⟩, HNX.out.2⟩⟩
          case measure =>
            rw [frMeas_t]
            cases nb with
            | false => rw [frMeas_f]; omega
            | true =>
              rw [frMeas_t]
              obtain ⟨m, hm1', hm2⟩ := HNX.out.1 rfl
              have := leastOf_le (R := fun k => ∃ A n c rk, Value.slice NA nn nc = .slice A n c ∧ RI w6 A n rk ∧ rk.length = n0 ∧ OnG (TO false s) o k rk) ⟨NA, nn, nc, _, rfl, HNR.out, HNL.out rfl, hm2⟩
              omega
end Go.Proofs.Ytibeelcnooelkaa
namespace Go.Proofs.Ytibeelcnooelkaa
open Go.ChangeShapes Go.WideShapes Go.ChangeAt Go.RowKit Go.Joins Go.Deep
set_option linter.unusedSimpArgs false
set_option linter.unusedVariables false
set_option linter.constructorNameAsVariable false
section
variable {H : Type} {enc : TypeId × Value → H} {P : Program} {w : World} {base : Nat} {spare : Nat → Bool} {held : Bool}
theorem open_slice_fields {t e : TypeId} {fs : Array Field} {fuel : Nat} {cs : List Value} {x : DataW H × List MemPlace} (ht : P.underlying t = some (.slice e)) (he : P.underlying e = some (.struct fs))
    (hone : oneCellFields P fs = true) (hC : P.cellsOf e = fs.size) (h : DataW.trod enc P w base spare held fuel t cs = some x) :
    (cs = [.slice none 0 0] ∧ x = (.nil, [])) ∨
    ∃ (a : Addr) (len cap m : Nat) (D : Nat → DataW H) (Pl : Nat → List MemPlace), cs = [.slice (some a) len cap] ∧ base ≤ a.block ∧ len ≤ cap ∧ cap ≤ maxLen ∧ m = (if spare a.block then cap else len) ∧
      x = (.slice ((List.range len).map D) ((List.range (m - len)).map fun j => D (len + j)), MemPlace.row a (m * fs.size) ++ (List.range m).flatMap Pl) ∧
      ∀ i, i < m → ∃ (ys : List (DataW H × List MemPlace)) (n : Nat), D i = .agg (ys.map (·.1)) ∧ Pl i = ys.flatMap (·.2) ∧ ys.length = fs.size ∧
        ∀ (j : Nat) (f : Field), fs[j]? = some f → ∃ (v : Value) (y : DataW H × List MemPlace), w.cell? (a.add (i * fs.size + j)) = some v ∧ ys[j]? = some y ∧ DataW.trod enc P w base spare held n f.type [v] = some y := by
  rcases open_slice ht h with h0 | ⟨a, len, cap, m, n, D, Pl, hcs, hb, hl, hm, hmm, hx, hi⟩
  · exact .inl h0
  · refine .inr ⟨a, len, cap, m, D, Pl, hcs, hb, hl, hm, hmm, by rw [hC] at hx; exact hx, fun i him => ?_⟩
    obtain ⟨cs', hc, ht'⟩ := hi i him
    rw [hC] at hc
    obtain ⟨ys, n', hn', hy, hlen, hyl, hf⟩ := DataW.trod_struct he ht'
    obtain ⟨_, hcl, hat⟩ := World.cells?_some hc
    simp only [Prod.mk.injEq] at hy
    refine ⟨ys, n', hy.1, hy.2, hyl, fun j f hj => ?_⟩
    obtain ⟨ho, hk⟩ := hone_of hone j f hj
    have hjl : j < fs.size := (Array.getElem?_eq_some_iff.1 hj).1
    have hcell := hat j hjl
    have hv : cs'[j]? = some (cs'[j]'(by omega)) := List.getElem?_eq_getElem (by omega)
    have h1 := hf j f hj
    rw [ho, hk] at h1
    have hone' : (cs'.drop j).take 1 = [cs'[j]'(by omega)] := by
      rw [List.drop_eq_getElem_cons (by omega)]
      rfl
    rw [hone'] at h1
    have hys : ys[j]? = some (ys[j]'(by omega)) := List.getElem?_eq_getElem (by omega)
    refine ⟨_, _, ?_, hys, h1.trans hys⟩
    rw [← Go.Deep.add_add, hcell, hv]
end
end Go.Proofs.Ytibeelcnooelkaa
namespace Go.Proofs.Ytibeelcnooelkaa
open Go.RowKit
set_option linter.unusedSimpArgs false
set_option linter.unusedVariables false
structure Turn (lo hi : Nat) (w w' : World) : Prop where
  os : w'.os = w.os
  tape : w'.tape = w.tape
  output : w'.output = w.output
  size : w.heap.size ≤ w'.heap.size
  block : ∀ i, i < w.heap.size → (i < lo ∨ hi ≤ i) → w'.heap[i]? = w.heap[i]?
section
variable {lo hi : Nat} {a w w' w'' : World} {A : Option Addr} {n c D : Nat} {xs : List Int}
theorem Turn.refl (lo hi : Nat) (w : World) : Turn lo hi w w := ⟨rfl, rfl, rfl, Nat.le_refl _, fun _ _ _ => rfl⟩
theorem Turn.trans (h : Turn lo hi w w') (k : Turn lo hi w' w'') : Turn lo hi w w'' :=
  ⟨k.os.trans h.os, k.tape.trans h.tape, k.output.trans h.output, Nat.le_trans h.size k.size, fun i hi' ho => (k.block i (Nat.lt_of_lt_of_le hi' h.size) ho).trans (h.block i hi' ho)⟩
theorem Turn.of_ext (h : Ext w w') : Turn lo hi w w' := ⟨h.os, h.tape, h.output, h.size, fun i hi' _ => h.block i hi'⟩
theorem Turn.of_only (h : OnlyA w w' A) (hA : ∀ g o s, A = some ⟨g, o, s⟩ → lo ≤ g ∧ g < hi) : Turn lo hi w w' :=
  ⟨h.os, h.tape, h.output, h.size, fun i hi' ho => h.block i hi' (fun e => by
    cases A with
    | none => cases e
    | some p =>
      obtain ⟨g, o, s⟩ := p
      have e' : i = g := by simpa using e
      have := hA g o s rfl
      omega)⟩
theorem Turn.set {p : Addr} {v : Value} (hp : lo ≤ p.block ∧ p.block < hi) : Turn lo hi w (w.setCell p v) :=
  ⟨rfl, rfl, rfl, by simp [World.setCell], fun i _ ho => Below.heap_setCell w p v i (fun e => by omega)⟩
theorem Turn.cell (h : Turn lo hi w w') {b o : Nat} (hb : b < w.heap.size) (ho : b < lo ∨ hi ≤ b) : w'.cell? ⟨b, o, none⟩ = w.cell? ⟨b, o, none⟩ := World.cell?_of_block (h.block b hb ho)
theorem Turn.keep (h : Turn lo hi w w') {b o : Nat} {v : Value} (hc : w.cell? ⟨b, o, none⟩ = some v) (ho : b < lo ∨ hi ≤ b) : w'.cell? ⟨b, o, none⟩ = some v :=
  (h.cell (World.block_lt_of_cell? w _ hc) ho).trans hc
theorem RI.turn (h : RI w A n xs) (k : Turn lo hi w w') (hd : ∀ g o s, A = some ⟨g, o, s⟩ → g < lo ∨ hi ≤ g) : RI w' A n xs :=
  ⟨h.1, fun hn => by
    obtain ⟨b, o, hB, hc⟩ := h.2 hn
    exact ⟨b, o, hB, fun j x hx => k.keep (hc j x hx) (hd _ _ _ hB)⟩⟩
theorem OwI.turn (h : OwI w D A n c xs) (k : Turn lo hi w w') (hd : ∀ g o s, A = some ⟨g, o, s⟩ → g < lo ∨ hi ≤ g) : OwI w' D A n c xs := by
  refine h.heap fun g hB => ?_
  rcases h.form with ⟨h0, _⟩ | ⟨g', hB', _, hlt⟩
  · rw [h0] at hB; cases hB
  · rw [hB'] at hB; cases hB
    exact k.block g hlt (hd _ _ _ hB')
end
set_option maxHeartbeats 1000000 in
theorem c_markInts {A : Option Addr} {n c B : Nat} {xs : List Int} {k : Int} {w : World} (h0 : OwI w B A n c xs) (hk : 0 ≤ k) (hk2 : k ≤ 1000000000000000) :
    Calls Try.prog 21 #[.slice A n c, .int .i64 k] w fun e w' => e = .returned (.int .i64 (k + n)) ∧ OwI w' B A n c (marks k n) ∧ OnlyA w w' A := by
  have hn := h0.le
  have hl := h0.len
  have H0 := Lib.hid h0
  have HL := Lib.hid hl
  clear h0 hl
  go_enter Try.func21, Try.ntmps21
  go_wp2
  go_loopw [1, 5] (fun x i wr => ∃ q : Nat, i = .int .i64 q ∧ q ≤ n ∧ x = .int .i64 (k + q) ∧ Hid (OwI wr B A n c (marks k q ++ xs.drop q)) ∧ Hid (OnlyA w wr A)) (fun _ i _ => n - (intOf i).toNat)
  case atStart => exact ⟨0, rfl, Nat.zero_le _, by simp, Lib.hid (by simpa [marks] using H0.out), Lib.hid (World.grownBy.refl w _)⟩
  case round =>
    obtain ⟨q, rfl, hq, rfl, hO, hG⟩ := hrel
    by_cases hlt : q < n
    · rcases hO.out.form with ⟨rfl, rfl, _⟩ | ⟨g, rfl, hg1, hg2⟩
      · omega
      · obtain ⟨x, _, hcx, hfx⟩ := hO.out.at_ hlt
        have HS := Lib.hid (marks_set (k := k) (xs := xs) (n := q) (by rw [HL.out]; exact hlt))
        have HN := Lib.hid (OwI.set hO.out q (k + (q : Int)))
        have HG := Lib.hid (Only.trans hG.out (Only.setCell wr g q (.int .i64 (k + (q : Int)))))
        go_wp2
        go_roundw
        case rel => exact ⟨q + 1, by go_num, by omega, by go_num, Lib.hid (by rw [← HS.out]; exact HN.out), HG⟩
        case measure => simp only [intOf]; omega
    · go_wp2
      go_ret
      have hqn : q = n := by omega
      subst hqn
      refine ⟨rfl, ?_, hG.out⟩
      have := hO.out
      rwa [List.drop_of_length_le (by rw [HL.out]; exact Nat.le_refl _), List.append_nil] at this
set_option maxHeartbeats 1000000 in
theorem c_heldInts {A : Option Addr} {n c : Nat} {k : Int} {w : World} (h0 : RI w A n (marks k n)) (hk : 0 ≤ k) (hk2 : k ≤ 1000000000000000) :
    Calls Try.prog 22 #[.slice A n c, .int .i64 k] w fun e w' => e = .returned (.int .i64 (k + n)) ∧ w = w' := by
  have hn := h0.le
  have H0 := Lib.hid h0
  clear h0
  go_enter Try.func22, Try.ntmps22
  go_wp2
  go_loop [1, 5] (fun x i => ∃ q : Nat, i = .int .i64 q ∧ q ≤ n ∧ x = .int .i64 (k + q)) (fun _ i => n - (intOf i).toNat)
  case atStart => exact ⟨0, rfl, Nat.zero_le _, by simp⟩
  case round =>
    obtain ⟨q, rfl, hq, rfl⟩ := hrel
    by_cases hlt : q < n
    · obtain ⟨b, o, x, rfl, hx, hcx⟩ := RI.at_ H0.out hlt
      rw [marks_get hlt] at hx
      cases hx
      have hb : ((k + (q : Int)) != (k + (q : Int))) = false := by simp
      go_wp2
      go_round
      case rel => exact ⟨q + 1, by go_num, by omega, by go_num⟩
      case measure => simp only [intOf]; omega
    · go_wp2
      go_ret
      exact ⟨ret_int (by omega), rfl⟩
end Go.Proofs.Ytibeelcnooelkaa
