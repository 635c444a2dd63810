/- PolyOrients, PolyAllows of both. -/
import Derived.Test.YtjmdfjinicbkeaaSysOk
import Derived.Test.YtjmdfjinicbkeaaFormX
import Derived.Test.YtjmdfjinicbkeaaStrict
import Derived.Test.YtjmdfjinicbkeaaStrictS
-- rd: RdSyK RawSy RdPs
namespace Go.Proofs.Ytjmdfjinicbkeaa
open Go.RowKit
set_option linter.unusedSimpArgs false
set_option linter.unusedVariables false

/-- How a rule's sides must compare. -/
noncomputable def cmpB (d : Bool) (o o' : Option Pl) : Bool := if d then cmpLess o o' else cmpMost o o'
theorem less_most {o o' : Option Pl} (h : cmpLess o o' = true) : cmpMost o o' = true := by
  cases o with
  | none => cases h
  | some a =>
    cases o' with
    | none => cases h
    | some b =>
      simp only [cmpLess, cmpMost, Bool.and_eq_true, decide_eq_true_eq] at h ⊢
      exact ⟨h.1, by omega⟩
noncomputable def ruB (d : Bool) (ar : List Int) (ps : List Pl) (r : Ru) : Bool := cmpB d (form ps (tmOf ar r.r)) (form ps (tmOf ar r.l))
def PolyAll (d : Bool) (s : Sy) (ps : List Pl) : Prop := ∀ (j : Nat) (r : Ru), s.rs[j]? = some r → ruB d s.ar ps r = true
noncomputable def polyAll (d : Bool) (s : Sy) (ps : List Pl) : Bool := @decide (PolyAll d s ps) (Classical.propDecidable _)
theorem polyAll_f {d : Bool} {s : Sy} {ps : List Pl} {j : Nat} {r : Ru} (hr : s.rs[j]? = some r) (h : ruB d s.ar ps r = false) : polyAll d s ps = false := by
  simp only [polyAll, decide_eq_false_iff_not]; exact fun a => by have := a j r hr; rw [h] at this; cases this
theorem polyAll_t {d : Bool} {s : Sy} {ps : List Pl} (h : ∀ (j : Nat) (r : Ru), j < s.rs.length → s.rs[j]? = some r → ruB d s.ar ps r = true) : polyAll d s ps = true := by
  simp only [polyAll, decide_eq_true_eq]; exact fun j r hr => h j r (List.getElem?_eq_some_iff.1 hr).1 hr
theorem strictIn_polys {ar : List Int} {ps : List Pl} (h : strictIn ar ps = true) : PolysP ar ps := by
  simp only [strictIn, decide_eq_true_eq] at h; exact h.1
noncomputable def polyOrients (s : Sy) (ps : List Pl) : Bool := sysOk s && strictIn s.ar ps && polyAll true s ps
noncomputable def polyAllows (s : Sy) (ps : List Pl) : Bool := sysOk s && polysOk s.ar ps && polyAll false s ps
theorem polyArgs_t {ar : List Int} {ps : List Pl} {s t : List Int} (hp : PolysP ar ps) (hs : TermP ar s) (ht : TermP ar t) : polyArgs ar ps s t = true := polyArgs_iff.2 ⟨polysOk_iff.2 hp, termOk_iff.2 hs, termOk_iff.2 ht⟩
theorem ret_tup {a b c d : Bool} (h1 : a = c) (h2 : b = d) : Ending.returned (.tuple #[.bool a, .bool b]) = .returned (.tuple #[.bool c, .bool d]) := by rw [h1, h2]
theorem c_compareForms' {v0 v1 v2 v3 : Value} {ar : List Int} {ps : List Pl} {s t : List Int} {w : World} {m l : Bool} (hm : cmpMost (form ps (tmOf ar s)) (form ps (tmOf ar t)) = m) (hl : cmpLess (form ps (tmOf ar s)) (form ps (tmOf ar t)) = l) (h0 : RdSig w v0 ar) (h1 : RdPs w v1 ps) (h2 : RdI w v2 s) (h3 : RdI w v3 t) (hp : PolysP ar ps) (hs : TermP ar s) (ht : TermP ar t) :
    Calls Try.prog 97 #[v0, v1, v2, v3] w fun e w' => e = .returned (.tuple #[.bool m, .bool l]) ∧ Ext w w' :=
  (c_compareForms h0 h1 h2 h3 hp hs ht).mono fun _ _ ⟨he, hw⟩ => ⟨he.trans (ret_tup hm hl), hw⟩
set_option maxRecDepth 100000 in
set_option maxHeartbeats 2000000 in
theorem c_polyRules {v0 v1 : Value} {d : Bool} {s : Sy} {ps : List Pl} {w : World} (h0 : RdSyC w v0 s) (h1 : RdPs w v1 ps) (hs : SysP s) (hP : PolysP s.ar ps) :
    Calls Try.prog 62 #[v0, v1, .bool d] w fun e w' => e = .returned (.bool (polyAll d s ps)) ∧ Ext w w' := by
  obtain ⟨A, n, c, B, m, d0, rfl, ha, hb⟩ := h0
  obtain ⟨S, p, e, rfl, hps⟩ := h1
  have hm := hb.le
  have HL := Lib.hid hb.len
  have HA := Lib.hid ha
  have HB := Lib.hid hb
  have HPS := Lib.hid hps
  have HS := Lib.hid hs
  have HP := Lib.hid hP
  clear ha hb hps hs hP
  go_enter Try.func62, Try.ntmps62
  go_wp2_with fail
  obtain ⟨wo, hwo⟩ : ∃ wo, wo = w.alloc (.cells #[.slice A n c, .slice B m d0] 34) := ⟨_, rfl⟩
  have hw0 : wo.cell? ⟨w.heap.size, 0, none⟩ = some (.slice A n c) := by rw [hwo]; simp [go_sem]
  have hEo : Ext w wo := by rw [hwo]; exact extX
  rw [← hwo]
  clear hwo
  go_loopw [14] (fun i wr => ∃ k : Nat, i = .int .i64 k ∧ k ≤ m ∧ Hid (∀ (j : Nat) (r : Ru), j < k → s.rs[j]? = some r → ruB d s.ar ps r = true) ∧ Ext wo wr) (fun i _ => m - (intOf i).toNat)
  case atStart => exact ⟨0, rfl, Nat.zero_le _, Lib.hid fun j y hj => by omega, Ext.refl _⟩
  case round =>
    obtain ⟨k, rfl, hk, hp, hE2⟩ := hrel
    have hw : Ext w wr := Ext.trans hEo hE2
    have hr0 : wr.cell? ⟨w.heap.size, 0, none⟩ = some (.slice A n c) := Ext.keep hE2 hw0
    have hws0 : w.heap.size < wr.heap.size := World.block_lt_of_cell? wr _ hr0
    by_cases hlt : k < m
    · obtain ⟨b, o, r, A1, m1, c1, A2, m2, c2, rfl, hx, hd1, hd2, hr1, hr5, hcap1, hcap2⟩ := RR.at_ (RR.ext HB.out hw) hlt
      have HX := Lib.hid hx
      have HR1 := Lib.hid hr1
      have HR2 := Lib.hid hr5
      have hRP := HS.out.2.2 k r hx
      have HT1 := Lib.hid hRP.1
      have HT2 := Lib.hid hRP.2.1
      have hbl : b < wr.heap.size := World.block_lt_of_cell? wr _ hd1
      clear hx hr1 hr5 hcap1 hcap2 hRP
      have hlt' : (k : Int) < (m : Int) := by omega
      have hHP := fun (hz : ruB d s.ar ps r = true) => Lib.hid (show ∀ (j : Nat) (r : Ru), j < k + 1 → s.rs[j]? = some r → ruB d s.ar ps r = true from fun j y hj e => by
        rcases Nat.lt_or_ge j k with h' | h'
        · exact hp.out j y h' e
        · obtain rfl : j = k := by omega
          rw [HX.out] at e; cases e; exact hz)
      have HHP := Lib.hid hHP
      clear hHP
      cases hmo : cmpMost (form ps (tmOf s.ar r.r)) (form ps (tmOf s.ar r.l)) with
      | false =>
        have hle : cmpLess (form ps (tmOf s.ar r.r)) (form ps (tmOf s.ar r.l)) = false := by
          cases h : cmpLess (form ps (tmOf s.ar r.r)) (form ps (tmOf s.ar r.l)) with
          | false => rfl
          | true => rw [less_most h] at hmo; cases hmo
        have HR := Lib.hid (polyAll_f (d := d) HX.out (by unfold ruB cmpB; rw [hmo, hle]; cases d <;> rfl))
        have HMO := Lib.hid hmo
        have HLE := Lib.hid hle
        clear hmo hle
        go_wp2_with (go_at_call 97; (with_reducible refine (c_compareForms' (ar := s.ar) (ps := ps) (s := r.r) (t := r.l) HMO.out HLE.out (RdSig.mk (RI.ext HA.out (by exact extX))) (RdPs.mk (RP.ext HPS.out (by exact extX))) (RdI.mk (RI.ext HR2.out (by exact extX))) (RdI.mk (RI.ext HR1.out (by exact extX))) HP.out HT2.out HT1.out).mono ?_); rintro e w5 ⟨rfl, hE5⟩)
        go_ret
        exact ⟨ret_bool HR.out.symm, by exact extX⟩
      | true =>
        cases hle : cmpLess (form ps (tmOf s.ar r.r)) (form ps (tmOf s.ar r.l)) with
        | false =>
          have HMO := Lib.hid hmo
          have HLE := Lib.hid hle
          cases d with
          | true =>
            have HR := Lib.hid (polyAll_f (d := true) HX.out (by unfold ruB cmpB; rw [hle]; rfl))
            clear hmo hle
            go_wp2_with (go_at_call 97; (with_reducible refine (c_compareForms' (ar := s.ar) (ps := ps) (s := r.r) (t := r.l) HMO.out HLE.out (RdSig.mk (RI.ext HA.out (by exact extX))) (RdPs.mk (RP.ext HPS.out (by exact extX))) (RdI.mk (RI.ext HR2.out (by exact extX))) (RdI.mk (RI.ext HR1.out (by exact extX))) HP.out HT2.out HT1.out).mono ?_); rintro e w5 ⟨rfl, hE5⟩)
            go_ret
            exact ⟨ret_bool HR.out.symm, by exact extX⟩
          | false =>
            have HQ := HHP.out (by unfold ruB cmpB; rw [hmo]; rfl)
            clear hmo hle
            go_wp2_with (go_at_call 97; (with_reducible refine (c_compareForms' (ar := s.ar) (ps := ps) (s := r.r) (t := r.l) HMO.out HLE.out (RdSig.mk (RI.ext HA.out (by exact extX))) (RdPs.mk (RP.ext HPS.out (by exact extX))) (RdI.mk (RI.ext HR2.out (by exact extX))) (RdI.mk (RI.ext HR1.out (by exact extX))) HP.out HT2.out HT1.out).mono ?_); rintro e w5 ⟨rfl, hE5⟩)
            go_roundw
            case rel => exact ⟨k + 1, by go_num, by omega, HQ, by exact extX⟩
            case measure => simp only [intOf]; omega
        | true =>
          have HQ := HHP.out (by unfold ruB cmpB; rw [hmo, hle]; cases d <;> rfl)
          have HMO := Lib.hid hmo
          have HLE := Lib.hid hle
          clear hmo hle
          cases d with
          | true =>
            go_wp2_with (go_at_call 97; (with_reducible refine (c_compareForms' (ar := s.ar) (ps := ps) (s := r.r) (t := r.l) HMO.out HLE.out (RdSig.mk (RI.ext HA.out (by exact extX))) (RdPs.mk (RP.ext HPS.out (by exact extX))) (RdI.mk (RI.ext HR2.out (by exact extX))) (RdI.mk (RI.ext HR1.out (by exact extX))) HP.out HT2.out HT1.out).mono ?_); rintro e w5 ⟨rfl, hE5⟩)
            go_roundw
            case rel => exact ⟨k + 1, by go_num, by omega, HQ, by exact extX⟩
            case measure => simp only [intOf]; omega
          | false =>
            go_wp2_with (go_at_call 97; (with_reducible refine (c_compareForms' (ar := s.ar) (ps := ps) (s := r.r) (t := r.l) HMO.out HLE.out (RdSig.mk (RI.ext HA.out (by exact extX))) (RdPs.mk (RP.ext HPS.out (by exact extX))) (RdI.mk (RI.ext HR2.out (by exact extX))) (RdI.mk (RI.ext HR1.out (by exact extX))) HP.out HT2.out HT1.out).mono ?_); rintro e w5 ⟨rfl, hE5⟩)
            go_roundw
            case rel => exact ⟨k + 1, by go_num, by omega, HQ, by exact extX⟩
            case measure => simp only [intOf]; omega
    · have HR := Lib.hid (polyAll_t (d := d) (s := s) (ps := ps) fun j r hj e => hp.out j r (by rw [HL.out] at hj; omega) e)
      go_wp2
      go_ret
      exact ⟨ret_bool HR.out.symm, by exact extX⟩
theorem c_sPolyLess' {v0 v1 v2 v3 : Value} {ar : List Int} {ps : List Pl} {s t : List Int} {w : World} {b : Bool} (hb : cmpLess (form ps (tmOf ar s)) (form ps (tmOf ar t)) = b) (hp : PolysP ar ps) (hs : TermP ar s) (ht : TermP ar t) (h0 : RdSig w v0 ar) (h1 : RdPs w v1 ps) (h2 : RdIc w v2 s) (h3 : RdIc w v3 t) :
    Calls Try.prog 92 #[v0, v1, v2, v3] w fun e w' => e = .returned (.bool b) ∧ Ext w w' :=
  (c_sPolyLess h0 h1 h2 h3).mono fun _ _ ⟨he, hw⟩ => ⟨he.trans (ret_bool (by rw [polyArgs_t hp hs ht, hb]; rfl)), hw⟩
set_option maxRecDepth 100000 in
set_option maxHeartbeats 2000000 in
theorem c_sPolyOrients {v0 v1 : Value} {s : Sy} {ps : List Pl} {w : World} (h0 : RdSyC w v0 s) (h1 : RdPs w v1 ps) :
    Calls Try.prog 53 #[v0, v1] w fun e w' => e = .returned (.bool (polyOrients s ps)) ∧ Ext w w' := by
  obtain ⟨A, n, c, B, m, d, rfl, ha, hb⟩ := h0
  obtain ⟨S, p, e, rfl, hps⟩ := h1
  have hm := hb.le
  have HL := Lib.hid hb.len
  have HA := Lib.hid ha
  have HB := Lib.hid hb
  have HPS := Lib.hid hps
  clear ha hb hps
  cases hs : sysOk s with
  | false =>
    have HR := Lib.hid (show polyOrients s ps = false by unfold polyOrients; rw [hs]; rfl)
    go_enter Try.func53, Try.ntmps53
    go_wp2_with (go_at_call 38; (with_reducible refine (c_sSystemOk (s := s) (by (first | (first | (with_reducible exact RdI.mk (RI.ext (Hid.out (by with_reducible assumption)) (by exact extX))) | (with_reducible exact RdI.ext (by with_reducible assumption) (by exact extX))) | (with_reducible exact RdSyK.mk (by (first | (with_reducible exact RI.ext (Hid.out (by with_reducible assumption)) (by exact extX)))) (RR.ext (Hid.out (by with_reducible assumption)) (by exact extX))) | (with_reducible exact RdSyK.ext (by with_reducible assumption) (by exact extX)) | (with_reducible exact RdPs.mk (RP.ext (Hid.out (by with_reducible assumption)) (by exact extX))) | (with_reducible exact RdPs.ext (by with_reducible assumption) (by exact extX)) | (with_reducible exact RdSig.mk (by (first | (with_reducible exact RI.ext (Hid.out (by with_reducible assumption)) (by exact extX))))) | (with_reducible exact RdSig.ext (by with_reducible assumption) (by exact extX))))).mono ?_); rintro e w1 ⟨rfl, hE1⟩; have hz1 := sz_of hE1; (try simp only [World.size_alloc, World.size_setCell, World.size_drew] at hz1); obtain ⟨hc1, hf1⟩ := bcell hE1; (try have hq1_0 : w.heap.size < w1.heap.size := by omega); (try have hq1_1 : w.heap.size + 1 < w1.heap.size := by omega); (try have hq1_2 : w.heap.size + 1 + 1 < w1.heap.size := by omega); (try have hq1_3 : w.heap.size + 1 + 1 + 1 < w1.heap.size := by omega); (try have hq1_4 : w.heap.size + 1 + 1 + 1 + 1 < w1.heap.size := by omega); (try have hq1_5 : w.heap.size + 1 + 1 + 1 + 1 + 1 < w1.heap.size := by omega))
    go_ret
    exact ⟨ret_bool HR.out.symm, by exact extX⟩
  | true =>
    cases hw : strictIn s.ar ps with
    | false =>
      have HR := Lib.hid (show polyOrients s ps = false by unfold polyOrients; rw [hs, hw]; rfl)
      go_enter Try.func53, Try.ntmps53
      go_wp2_with (first
        | (go_at_call 38; (with_reducible refine (c_sSystemOk (s := s) (by (first | (first | (with_reducible exact RdI.mk (RI.ext (Hid.out (by with_reducible assumption)) (by exact extX))) | (with_reducible exact RdI.ext (by with_reducible assumption) (by exact extX))) | (with_reducible exact RdSyK.mk (by (first | (with_reducible exact RI.ext (Hid.out (by with_reducible assumption)) (by exact extX)))) (RR.ext (Hid.out (by with_reducible assumption)) (by exact extX))) | (with_reducible exact RdSyK.ext (by with_reducible assumption) (by exact extX)) | (with_reducible exact RdPs.mk (RP.ext (Hid.out (by with_reducible assumption)) (by exact extX))) | (with_reducible exact RdPs.ext (by with_reducible assumption) (by exact extX)) | (with_reducible exact RdSig.mk (by (first | (with_reducible exact RI.ext (Hid.out (by with_reducible assumption)) (by exact extX))))) | (with_reducible exact RdSig.ext (by with_reducible assumption) (by exact extX))))).mono ?_); rintro e w1 ⟨rfl, hE1⟩; have hz1 := sz_of hE1; (try simp only [World.size_alloc, World.size_setCell, World.size_drew] at hz1); obtain ⟨hc1, hf1⟩ := bcell hE1; (try have hq1_0 : w.heap.size < w1.heap.size := by omega); (try have hq1_1 : w.heap.size + 1 < w1.heap.size := by omega); (try have hq1_2 : w.heap.size + 1 + 1 < w1.heap.size := by omega); (try have hq1_3 : w.heap.size + 1 + 1 + 1 < w1.heap.size := by omega); (try have hq1_4 : w.heap.size + 1 + 1 + 1 + 1 < w1.heap.size := by omega); (try have hq1_5 : w.heap.size + 1 + 1 + 1 + 1 + 1 < w1.heap.size := by omega))
        | (go_at_call 91; (with_reducible refine (c_sStrictIn (ar := s.ar) (ps := ps) (by (first | (first | (with_reducible exact RdI.mk (RI.ext (Hid.out (by with_reducible assumption)) (by exact extX))) | (with_reducible exact RdI.ext (by with_reducible assumption) (by exact extX))) | (with_reducible exact RdSyK.mk (by (first | (with_reducible exact RI.ext (Hid.out (by with_reducible assumption)) (by exact extX)))) (RR.ext (Hid.out (by with_reducible assumption)) (by exact extX))) | (with_reducible exact RdSyK.ext (by with_reducible assumption) (by exact extX)) | (with_reducible exact RdPs.mk (RP.ext (Hid.out (by with_reducible assumption)) (by exact extX))) | (with_reducible exact RdPs.ext (by with_reducible assumption) (by exact extX)) | (with_reducible exact RdSig.mk (by (first | (with_reducible exact RI.ext (Hid.out (by with_reducible assumption)) (by exact extX))))) | (with_reducible exact RdSig.ext (by with_reducible assumption) (by exact extX)))) (by (first | (first | (with_reducible exact RdI.mk (RI.ext (Hid.out (by with_reducible assumption)) (by exact extX))) | (with_reducible exact RdI.ext (by with_reducible assumption) (by exact extX))) | (with_reducible exact RdSyK.mk (by (first | (with_reducible exact RI.ext (Hid.out (by with_reducible assumption)) (by exact extX)))) (RR.ext (Hid.out (by with_reducible assumption)) (by exact extX))) | (with_reducible exact RdSyK.ext (by with_reducible assumption) (by exact extX)) | (with_reducible exact RdPs.mk (RP.ext (Hid.out (by with_reducible assumption)) (by exact extX))) | (with_reducible exact RdPs.ext (by with_reducible assumption) (by exact extX)) | (with_reducible exact RdSig.mk (by (first | (with_reducible exact RI.ext (Hid.out (by with_reducible assumption)) (by exact extX))))) | (with_reducible exact RdSig.ext (by with_reducible assumption) (by exact extX))))).mono ?_); rintro e w2 ⟨rfl, hE2⟩; have hz2 := sz_of hE2; (try simp only [World.size_alloc, World.size_setCell, World.size_drew] at hz2); obtain ⟨hc2, hf2⟩ := bcell hE2; (try have hq2_0 : w.heap.size < w2.heap.size := by omega); (try have hq2_1 : w.heap.size + 1 < w2.heap.size := by omega); (try have hq2_2 : w.heap.size + 1 + 1 < w2.heap.size := by omega); (try have hq2_3 : w.heap.size + 1 + 1 + 1 < w2.heap.size := by omega); (try have hq2_4 : w.heap.size + 1 + 1 + 1 + 1 < w2.heap.size := by omega); (try have hq2_5 : w.heap.size + 1 + 1 + 1 + 1 + 1 < w2.heap.size := by omega); (try have hx2_1 : w1.heap.size < w2.heap.size := by omega)))
      go_ret
      exact ⟨ret_bool HR.out.symm, by exact extX⟩
    | true =>
      have HF := Lib.hid (show polyOrients s ps = polyAll true s ps by unfold polyOrients; rw [hs, hw]; rfl)
      have HS := Lib.hid (sysOk_iff.1 hs)
      have HP := Lib.hid (show PolysP s.ar ps from strictIn_polys hw)
      go_enter Try.func53, Try.ntmps53
      go_wp2_with (first
        | (go_at_call 38; (with_reducible refine (c_sSystemOk (s := s) (by (first | (first | (with_reducible exact RdI.mk (RI.ext (Hid.out (by with_reducible assumption)) (by exact extX))) | (with_reducible exact RdI.ext (by with_reducible assumption) (by exact extX))) | (with_reducible exact RdSyK.mk (by (first | (with_reducible exact RI.ext (Hid.out (by with_reducible assumption)) (by exact extX)))) (RR.ext (Hid.out (by with_reducible assumption)) (by exact extX))) | (with_reducible exact RdSyK.ext (by with_reducible assumption) (by exact extX)) | (with_reducible exact RdPs.mk (RP.ext (Hid.out (by with_reducible assumption)) (by exact extX))) | (with_reducible exact RdPs.ext (by with_reducible assumption) (by exact extX)) | (with_reducible exact RdSig.mk (by (first | (with_reducible exact RI.ext (Hid.out (by with_reducible assumption)) (by exact extX))))) | (with_reducible exact RdSig.ext (by with_reducible assumption) (by exact extX))))).mono ?_); rintro e w1 ⟨rfl, hE1⟩; have hz1 := sz_of hE1; (try simp only [World.size_alloc, World.size_setCell, World.size_drew] at hz1); obtain ⟨hc1, hf1⟩ := bcell hE1; (try have hq1_0 : w.heap.size < w1.heap.size := by omega); (try have hq1_1 : w.heap.size + 1 < w1.heap.size := by omega); (try have hq1_2 : w.heap.size + 1 + 1 < w1.heap.size := by omega); (try have hq1_3 : w.heap.size + 1 + 1 + 1 < w1.heap.size := by omega); (try have hq1_4 : w.heap.size + 1 + 1 + 1 + 1 < w1.heap.size := by omega); (try have hq1_5 : w.heap.size + 1 + 1 + 1 + 1 + 1 < w1.heap.size := by omega))
        | (go_at_call 91; (with_reducible refine (c_sStrictIn (ar := s.ar) (ps := ps) (by (first | (first | (with_reducible exact RdI.mk (RI.ext (Hid.out (by with_reducible assumption)) (by exact extX))) | (with_reducible exact RdI.ext (by with_reducible assumption) (by exact extX))) | (with_reducible exact RdSyK.mk (by (first | (with_reducible exact RI.ext (Hid.out (by with_reducible assumption)) (by exact extX)))) (RR.ext (Hid.out (by with_reducible assumption)) (by exact extX))) | (with_reducible exact RdSyK.ext (by with_reducible assumption) (by exact extX)) | (with_reducible exact RdPs.mk (RP.ext (Hid.out (by with_reducible assumption)) (by exact extX))) | (with_reducible exact RdPs.ext (by with_reducible assumption) (by exact extX)) | (with_reducible exact RdSig.mk (by (first | (with_reducible exact RI.ext (Hid.out (by with_reducible assumption)) (by exact extX))))) | (with_reducible exact RdSig.ext (by with_reducible assumption) (by exact extX)))) (by (first | (first | (with_reducible exact RdI.mk (RI.ext (Hid.out (by with_reducible assumption)) (by exact extX))) | (with_reducible exact RdI.ext (by with_reducible assumption) (by exact extX))) | (with_reducible exact RdSyK.mk (by (first | (with_reducible exact RI.ext (Hid.out (by with_reducible assumption)) (by exact extX)))) (RR.ext (Hid.out (by with_reducible assumption)) (by exact extX))) | (with_reducible exact RdSyK.ext (by with_reducible assumption) (by exact extX)) | (with_reducible exact RdPs.mk (RP.ext (Hid.out (by with_reducible assumption)) (by exact extX))) | (with_reducible exact RdPs.ext (by with_reducible assumption) (by exact extX)) | (with_reducible exact RdSig.mk (by (first | (with_reducible exact RI.ext (Hid.out (by with_reducible assumption)) (by exact extX))))) | (with_reducible exact RdSig.ext (by with_reducible assumption) (by exact extX))))).mono ?_); rintro e w2 ⟨rfl, hE2⟩; have hz2 := sz_of hE2; (try simp only [World.size_alloc, World.size_setCell, World.size_drew] at hz2); obtain ⟨hc2, hf2⟩ := bcell hE2; (try have hq2_0 : w.heap.size < w2.heap.size := by omega); (try have hq2_1 : w.heap.size + 1 < w2.heap.size := by omega); (try have hq2_2 : w.heap.size + 1 + 1 < w2.heap.size := by omega); (try have hq2_3 : w.heap.size + 1 + 1 + 1 < w2.heap.size := by omega); (try have hq2_4 : w.heap.size + 1 + 1 + 1 + 1 < w2.heap.size := by omega); (try have hq2_5 : w.heap.size + 1 + 1 + 1 + 1 + 1 < w2.heap.size := by omega); (try have hx2_1 : w1.heap.size < w2.heap.size := by omega)))
      have hw0 : w2.cell? ⟨w.heap.size, 0, none⟩ = some (.slice A n c) := Ext.keep hE2 (Ext.keep hE1 (by simp [go_sem]))
      have hw1 : w2.cell? ⟨w.heap.size, 1, none⟩ = some (.slice B m d) := Ext.keep hE2 (Ext.keep hE1 (by simp [go_sem]))
      have hEo : Ext w w2 := Ext.trans (by exact extX) (Ext.trans hE1 hE2)
      obtain ⟨wo, hwo⟩ : ∃ wo, wo = w2 := ⟨_, rfl⟩
      rw [← hwo] at hw0 hw1 hEo ⊢
      clear hwo
      go_loopw [5] (fun i wr => ∃ k : Nat, i = .int .i64 k ∧ k ≤ m ∧ Hid (∀ (j : Nat) (r : Ru), j < k → s.rs[j]? = some r → ruB true s.ar ps r = true) ∧ Ext wo wr) (fun i _ => m - (intOf i).toNat)
      case atStart => exact ⟨0, rfl, Nat.zero_le _, Lib.hid fun j y hj => by omega, Ext.refl _⟩
      case round =>
        obtain ⟨k, rfl, hk, hp, hE9⟩ := hrel
        have hw : Ext w wr := Ext.trans hEo hE9
        have hr0 : wr.cell? ⟨w.heap.size, 0, none⟩ = some (.slice A n c) := Ext.keep hE9 hw0
        have hr1' : wr.cell? ⟨w.heap.size, 1, none⟩ = some (.slice B m d) := Ext.keep hE9 hw1
        have hws0 : w.heap.size < wr.heap.size := World.block_lt_of_cell? wr _ hr0
        by_cases hlt : k < m
        · obtain ⟨b, o, r, A1, m1, c1, A2, m2, c2, rfl, hx, hd1, hd2, hr1, hr5, hcap1, hcap2⟩ := RR.at_ (RR.ext HB.out hw) hlt
          have HX := Lib.hid hx
          have hEd : Ext wr wr.drew := (Ext.refl wr).drew
          have hEwd : Ext w wr.drew := hw.drew
          have HR1 := Lib.hid (hr1.ext hEd)
          have HR2 := Lib.hid (hr5.ext hEd)
          have HC1 := Lib.hid (hcap1 rfl)
          have HC2 := Lib.hid (hcap2 rfl)
          have hRP := HS.out.2.2 k r hx
          have HT1 := Lib.hid hRP.1
          have HT2 := Lib.hid hRP.2.1
          have hbl : b < wr.heap.size := World.block_lt_of_cell? wr _ hd1
          clear hx hr1 hr5 hcap1 hcap2 hRP
          have hlt' : (k : Int) < (m : Int) := by omega
          cases hz : cmpLess (form ps (tmOf s.ar r.r)) (form ps (tmOf s.ar r.l)) with
          | false =>
            have HR := Lib.hid (polyAll_f (d := true) HX.out (show ruB true s.ar ps r = false by unfold ruB cmpB; exact hz))
            have HZ := Lib.hid hz
            clear hz
            go_wp2_with fail
            go_still_tail 15, (by kernel_rfl)
            change wpList _ _ _ _ _ wr.drew
            go_wp2_with (go_at_call 92; (with_reducible refine (c_sPolyLess' HZ.out HP.out HT2.out HT1.out (RdSig.mk (RI.ext HA.out hEwd)) (RdPs.mk (RP.ext HPS.out hEwd)) (RdIc.mk HC2.out HR2.out) (RdIc.mk HC1.out HR1.out)).mono ?_); rintro e w5 ⟨rfl, hE5⟩)
            go_ret
            exact ⟨ret_bool (HR.out.symm.trans HF.out.symm), Ext.trans hEwd hE5⟩
          | true =>
            have HQ := Lib.hid (show ∀ (j : Nat) (r : Ru), j < k + 1 → s.rs[j]? = some r → ruB true s.ar ps r = true from fun j y hj e => by
              rcases Nat.lt_or_ge j k with h' | h'
              · exact hp.out j y h' e
              · obtain rfl : j = k := by omega
                rw [HX.out] at e; cases e; exact hz)
            have HZ := Lib.hid hz
            clear hz
            go_wp2_with fail
            go_still_tail 15, (by kernel_rfl)
            change wpList _ _ _ _ _ wr.drew
            go_wp2_with (go_at_call 92; (with_reducible refine (c_sPolyLess' HZ.out HP.out HT2.out HT1.out (RdSig.mk (RI.ext HA.out hEwd)) (RdPs.mk (RP.ext HPS.out hEwd)) (RdIc.mk HC2.out HR2.out) (RdIc.mk HC1.out HR1.out)).mono ?_); rintro e w5 ⟨rfl, hE5⟩)
            go_roundw
            case rel => exact ⟨k + 1, by go_num, by omega, HQ, Ext.trans hE9 (Ext.trans hEd hE5)⟩
            case measure => simp only [intOf]; omega
        · have HR := Lib.hid (polyAll_t (d := true) (s := s) (ps := ps) fun j r hj e => hp.out j r (by rw [HL.out] at hj; omega) e)
          go_wp2
          go_ret
          exact ⟨ret_bool (HR.out.symm.trans HF.out.symm), by exact extX⟩

end Go.Proofs.Ytjmdfjinicbkeaa
