/- ValueAt of both. -/
import Derived.Test.YtljbjabgdalabaaFormX
-- rd: RdPl RdPs
namespace Go.Proofs.Ytljbjabgdalabaa
open Go.RowKit
set_option linter.unusedSimpArgs false
set_option linter.unusedVariables false

/-- The constant and the first factors by their values. -/
def vsum (f : Pl) (vs : List Int) : Nat → Int
  | 0 => f.c
  | k + 1 => vsum f vs k + nth f.cf k * nth vs k
def ValsOk (vs : List Int) : Prop := vs.length ≤ 24 ∧ ∀ x ∈ vs, 0 ≤ x ∧ x ≤ 1000
theorem ValsOk.nth {vs : List Int} (h : ValsOk vs) (k : Nat) : 0 ≤ nth vs k ∧ nth vs k ≤ 1000 := by
  unfold Go.Proofs.Ytljbjabgdalabaa.nth
  rw [List.getD_eq_getElem?_getD]
  rcases hj : vs[k]? with _ | x
  · simp
  · exact h.2 x (List.mem_of_getElem? hj)
theorem Fm.nth {f : Pl} (h : Fm f) (k : Nat) : 0 ≤ nth f.cf k ∧ nth f.cf k ≤ 1000000000000 := h.1.getD (by omega) k
theorem vmul_bd {f : Pl} {vs : List Int} (hf : Fm f) (hv : ValsOk vs) (k : Nat) : 0 ≤ nth f.cf k * nth vs k ∧ nth f.cf k * nth vs k ≤ 1000000000000000 := by
  have h1 := hf.nth k
  have h2 := hv.nth k
  refine ⟨Int.mul_nonneg h1.1 h2.1, Int.le_trans (Int.mul_le_mul_of_nonneg_right h1.2 h2.1) ?_⟩
  omega
theorem vsum_bd {f : Pl} {vs : List Int} (hf : Fm f) (hv : ValsOk vs) : ∀ k : Nat, 0 ≤ vsum f vs k ∧ vsum f vs k ≤ 1000000000000 + k * 1000000000000000
  | 0 => by have := hf.1.1; show 0 ≤ f.c ∧ f.c ≤ _; omega
  | k + 1 => by
    have := vsum_bd hf hv k
    have := vmul_bd hf hv k
    show 0 ≤ vsum f vs k + _ ∧ vsum f vs k + _ ≤ _
    omega
theorem nth_past {xs : List Int} {k : Nat} (h : xs.length ≤ k) : nth xs k = 0 := by
  unfold nth; rw [List.getD_eq_getElem?_getD, List.getElem?_eq_none h]; rfl
theorem vsum_past {f : Pl} {vs : List Int} {k : Nat} (h : f.cf.length ≤ k) : ∀ n, k ≤ n → vsum f vs n = vsum f vs k
  | 0, hn => by obtain rfl : k = 0 := by omega
                rfl
  | n + 1, hn => by
    rcases Nat.lt_or_ge k (n + 1) with h1 | h1
    · show vsum f vs n + _ = _
      rw [nth_past (by omega), vsum_past h n (by omega)]; simp
    · obtain rfl : k = n + 1 := by omega
      rfl
open Classical in
noncomputable def valOk (ar : List Int) (ps : List Pl) (t vs : List Int) : Bool := decide ((formO ar ps t).isSome = true ∧ ValsOk vs ∧ vsum (rp (formO ar ps t)) vs vs.length ≤ 1000000000000)
noncomputable def valAt (ar : List Int) (ps : List Pl) (t vs : List Int) : Int := if valOk ar ps t vs = true then vsum (rp (formO ar ps t)) vs vs.length else 0
theorem val_none {ar : List Int} {ps : List Pl} {t vs : List Int} (h : formO ar ps t = none) : valOk ar ps t vs = false := by unfold valOk; rw [h]; simp
theorem val_bad {ar : List Int} {ps : List Pl} {t vs : List Int} (h : ¬ ValsOk vs) : valOk ar ps t vs = false := by unfold valOk; simp [h]
theorem val_big {ar : List Int} {ps : List Pl} {t vs : List Int} {f : Pl} {n : Nat} (h : formO ar ps t = some f) (hn : vs.length = n) (hb : ¬ vsum f vs n ≤ 1000000000000) : valOk ar ps t vs = false := by
  unfold valOk; rw [h, hn]; simp only [decide_eq_false_iff_not]; rintro ⟨_, _, h3⟩; exact hb h3
theorem val_ok {ar : List Int} {ps : List Pl} {t vs : List Int} {f : Pl} {n : Nat} (h : formO ar ps t = some f) (hv : ValsOk vs) (hn : vs.length = n) (hb : vsum f vs n ≤ 1000000000000) : valOk ar ps t vs = true ∧ valAt ar ps t vs = vsum f vs n := by
  have h1 : valOk ar ps t vs = true := by unfold valOk; rw [h, hn]; simp only [decide_eq_true_eq]; exact ⟨rfl, hv, hb⟩
  refine ⟨h1, ?_⟩
  unfold valAt; rw [if_pos h1, h, hn]; rfl
theorem val_no {ar : List Int} {ps : List Pl} {t vs : List Int} (h : valOk ar ps t vs = false) : Ending.returned (.tuple #[.int .i64 0, .bool false]) = .returned (.tuple #[.int .i64 (valAt ar ps t vs), .bool (valOk ar ps t vs)]) := by
  unfold valAt; rw [h]; rfl
theorem val_yes {ar : List Int} {ps : List Pl} {t vs : List Int} {f : Pl} {n : Nat} {y : Int} (h : valOk ar ps t vs = true ∧ valAt ar ps t vs = vsum f vs n) (hy : y = vsum f vs n) : Ending.returned (.tuple #[.int .i64 y, .bool true]) = .returned (.tuple #[.int .i64 (valAt ar ps t vs), .bool (valOk ar ps t vs)]) := by
  rw [h.1, h.2, hy]
theorem not_vals {vs : List Int} {k : Nat} {x : Int} (hx : vs[k]? = some x) (h : ¬ (0 ≤ x ∧ x ≤ 1000)) : ¬ ValsOk vs := fun h2 => h (h2.2 x (List.mem_of_getElem? hx))
theorem vals_of {vs : List Int} {n : Nat} (hn : vs.length = n) (h24 : n ≤ 24) (h : ∀ j x, j < n → vs[j]? = some x → 0 ≤ x ∧ x ≤ 1000) : ValsOk vs := by
  refine ⟨by omega, fun x hx => ?_⟩
  obtain ⟨j, hj, rfl⟩ := List.mem_iff_getElem.1 hx
  exact h j _ (by omega) (List.getElem?_eq_getElem hj)
set_option maxRecDepth 100000 in
set_option maxHeartbeats 2000000 in
theorem c_sValueAt0 {v0 v1 v2 v3 : Value} {ar : List Int} {ps : List Pl} {t vs : List Int} {w : World} (h0 : RdSig w v0 ar) (h1 : RdPs w v1 ps) (h2 : RdIc w v2 t) (h3 : RdI w v3 vs) :
    Calls Try.prog 29 #[v0, v1, v2, v3] w fun e w' => e = .returned (.tuple #[.int .i64 (valAt ar ps t vs), .bool (valOk ar ps t vs)]) ∧ Ext w w' := by
  obtain ⟨A, n, c, rfl, ha⟩ := h0
  obtain ⟨B, m, d, rfl, hb⟩ := h1
  obtain ⟨D, q, l, rfl, hcap, hd⟩ := h2
  obtain ⟨F, q', l', rfl, hf⟩ := h3
  have HA := Lib.hid ha
  have HB := Lib.hid hb
  have HD := Lib.hid hd
  have HF := Lib.hid hf
  have HFL := Lib.hid hf.len
  have hq' := hf.le
  have HCP := Lib.hid hcap
  clear ha hb hd hf hcap
  obtain ⟨of, hof⟩ : ∃ of, of = formO ar ps t := ⟨_, rfl⟩
  have HOF := Lib.hid hof
  clear hof
  go_enter Try.func29, Try.ntmps29
  go_wp2_with fail
  (with_reducible refine (c_sFormOf (t := t) (RdSig.mk (RI.ext HA.out (by exact extX))) (RdPs.mk (RP.ext HB.out (by exact extX))) (RdIc.mk HCP.out (RI.ext HD.out (by exact extX)))).mono ?_)
  rw [← HOF.out]
  rintro e2 w2 ⟨A2, n2, c2, rfl, hO2, hE2⟩
  have HL2 := Lib.hid hO2.ri
  have hEw2 : Ext w w2 := Ext.trans (by exact extX) hE2
  clear hO2 hE2
  cases of with
  | none =>
    have HR := Lib.hid (val_no (vs := vs) (val_none HOF.out.symm))
    go_wp2
    go_ret2
    exact ⟨HR.out, by exact extX⟩
  | some f =>
    by_cases h24 : q' ≤ 24
    · have hq24 : (q' : Int) ≤ 24 := by omega
      have HFM := Lib.hid (formO_fm HOF.out.symm)
      go_wp2_with fail
      obtain ⟨wq, hwq⟩ : ∃ wq, wq = w2.alloc (.cells #[.int .i64 (rp (some f)).c, .slice A2 n2 c2] 38) := ⟨_, rfl⟩
      have hg0 : wq.cell? ⟨w2.heap.size, 0, none⟩ = some (.int .i64 f.c) := by rw [hwq]; simp [go_sem, rp]
      have hg1 : wq.cell? ⟨w2.heap.size, 1, none⟩ = some (.slice A2 n2 c2) := by rw [hwq]; simp [go_sem]
      have hEq : Ext w2 wq := by rw [hwq]; exact (Ext.refl _).alloc _
      rw [← hwq]
      clear hwq
      have hEwq : Ext w wq := Ext.trans hEw2 hEq
      go_loopw [12] (fun i wr => ∃ k : Nat, i = .int .i64 k ∧ k ≤ q' ∧ Hid (∀ (j : Nat) (x : Int), j < k → vs[j]? = some x → 0 ≤ x ∧ x ≤ 1000) ∧ Ext wq wr) (fun i _ => q' - (intOf i).toNat)
      case atStart => exact ⟨0, rfl, Nat.zero_le _, Lib.hid fun j x hj => by omega, Ext.refl _⟩
      case round =>
        obtain ⟨k, rfl, hk, hp, hE⟩ := hrel
        have hEw : Ext w wr := Ext.trans hEwq hE
        by_cases hlt : k < q'
        · obtain ⟨b, o, x, rfl, hx, hcx⟩ := RI.at_ (RI.ext HF.out hEw) hlt
          have HX := Lib.hid hx
          clear hx
          have hki : (k : Int) < (q' : Int) := by omega
          have hk0 : (0 : Int) ≤ (k : Int) := by omega
          by_cases hin : 0 ≤ x ∧ x ≤ 1000
          · have HIN := Lib.hid hin
            have HP := Lib.hid (show ∀ (j : Nat) (y : Int), j < k + 1 → vs[j]? = some y → 0 ≤ y ∧ y ≤ 1000 from fun j y hj e => by
              rcases Nat.lt_or_ge j k with h | h
              · exact hp.out j y h e
              · obtain rfl : j = k := by omega
                rw [HX.out] at e; cases e; exact hin)
            clear hin
            go_wp2_with (go_at_call 60; (with_reducible refine (s_l1In_t HIN.out).mono ?_); rintro e w3 ⟨rfl, rfl⟩)
            go_roundw
            case rel => exact ⟨k + 1, by go_num, by omega, HP, by exact extX⟩
            case measure => simp only [intOf]; omega
          · have HIN := Lib.hid hin
            have HR := Lib.hid (val_no (ar := ar) (ps := ps) (t := t) (val_bad (not_vals HX.out hin)))
            clear hin
            go_wp2_with (go_at_call 60; (with_reducible refine (s_l1In_f HIN.out).mono ?_); rintro e w3 ⟨rfl, rfl⟩)
            go_ret2
            exact ⟨HR.out, by exact extX⟩
        · have hkq : k = q' := by omega
          have HV := Lib.hid (vals_of HFL.out h24 (fun j x hj e => hp.out j x (by omega) e))
          have hr0 := Ext.keep hE hg0
          have hr1 := Ext.keep hE hg1
          have hn2 : n2 ≤ 24 := by have := HFM.out.2; have h2 : f.cf.length = n2 := HL2.out.len; omega
          have HNL : Hid (f.cf.length = n2) := Lib.hid HL2.out.len
          have HKQ := Lib.hid hkq
          clear hkq
          obtain ⟨wo, rfl⟩ : ∃ wo : World, wo = wr := ⟨_, rfl⟩
          go_wp2_with fail
          go_loopw [13, 14] (fun s i wr => ∃ j : Nat, i = .int .i64 j ∧ j ≤ q' ∧ j ≤ n2 ∧ (∃ y, s = .int .i64 y ∧ Hid (y = vsum f vs j)) ∧ Ext wo wr) (fun _ i _ => q' - (intOf i).toNat)
          case atStart => exact ⟨0, rfl, Nat.zero_le _, Nat.zero_le _, ⟨_, rfl, Lib.hid rfl⟩, Ext.refl _⟩
          case round =>
            obtain ⟨j, rfl, hj, hjn, ⟨y, rfl, hy⟩, hE3⟩ := hrel
            have hs0 := Ext.keep hE3 hr0
            have hs1 := Ext.keep hE3 hr1
            have hEw3 : Ext w wr := Ext.trans hEw hE3
            by_cases hjb : j < n2
            · have hji : (j : Int) < (n2 : Int) := by omega
              have hj0 : (0 : Int) ≤ (j : Int) := by omega
              by_cases hjq : j < q'
              · have hjqi : (j : Int) < (q' : Int) := by omega
                obtain ⟨b, o, x, rfl, hx, hcx⟩ := RI.at_ (RI.ext HF.out hEw3) hjq
                obtain ⟨b2, o2, z, rfl, hz, hcz⟩ := RI.at_ (RI.ext HL2.out (Ext.trans hEq (Ext.trans hE hE3))) hjb
                have e1 := getD_at hx
                have e2 := getD_at hz
                have hb1 := vmul_bd HFM.out HV.out j
                have hb2 := vsum_bd HFM.out HV.out j
                rw [e1, show nth f.cf j = z from e2] at hb1
                rw [← hy.out] at hb2
                have hz1 : IntKind.i64.wrap (z * x) = z * x := IntWalk.i64_in _ (by omega)
                have hz2 : IntKind.i64.wrap (y + z * x) = y + z * x := IntWalk.i64_in _ (by omega)
                have HS := Lib.hid (show y + z * x = vsum f vs (j + 1) by show _ = vsum f vs j + _; rw [hy.out, e1, show nth f.cf j = z from e2])
                clear e1 e2 hx hz
                go_wp2_with fail
                go_still_tail 11, (by kernel_rfl)
                change wpList _ _ _ _ _ wr.drew
                go_wp2_with fail
                go_roundw
                case rel => exact ⟨j + 1, by go_num, by omega, by omega, ⟨_, rfl, HS⟩, by exact extX⟩
                case measure => simp only [intOf]; omega
              · have hjqi : (q' : Int) ≤ (j : Int) := by omega
                have hjeq : j = q' := by omega
                have HSV := Lib.hid (show y = vsum f vs q' by rw [hy.out, hjeq])
                by_cases hbig : y ≤ 1000000000000
                · have HR := Lib.hid (val_yes (val_ok HOF.out.symm HV.out HFL.out (by rw [← HSV.out]; exact hbig)) HSV.out)
                  go_wp2
                  go_ret2
                  exact ⟨HR.out, by exact extX⟩
                · have HR := Lib.hid (val_no (val_big HOF.out.symm HFL.out (by rw [← HSV.out]; exact hbig)))
                  go_wp2
                  go_ret2
                  exact ⟨HR.out, by exact extX⟩
            · have hji : (n2 : Int) ≤ (j : Int) := by omega
              have hjn2 : j = n2 := by omega
              have HSV := Lib.hid (show y = vsum f vs q' by rw [hy.out, vsum_past (by rw [HNL.out]; omega) q' hj])
              by_cases hbig : y ≤ 1000000000000
              · have HR := Lib.hid (val_yes (val_ok HOF.out.symm HV.out HFL.out (by rw [← HSV.out]; exact hbig)) HSV.out)
                go_wp2
                go_ret2
                exact ⟨HR.out, by exact extX⟩
              · have HR := Lib.hid (val_no (val_big HOF.out.symm HFL.out (by rw [← HSV.out]; exact hbig)))
                go_wp2
                go_ret2
                exact ⟨HR.out, by exact extX⟩
    · have HR := Lib.hid (val_no (ar := ar) (ps := ps) (t := t) (vs := vs) (val_bad (fun h => by have := h.1; rw [HFL.out] at this; omega)))
      have hq24 : (24 : Int) < (q' : Int) := by omega
      go_wp2
      go_ret2
      exact ⟨HR.out, by exact extX⟩
theorem c_sValueAt {v0 v1 v2 v3 : Value} {ar : List Int} {ps : List Pl} {t vs : List Int} {w : World} (h0 : RdSig w v0 ar) (h1 : RdPs w v1 ps) (h2 : RdIc w v2 t) (h3 : RdIc w v3 vs) :
    Calls Try.prog 29 #[v0, v1, v2, v3] w fun e w' => e = .returned (.tuple #[.int .i64 (valAt ar ps t vs), .bool (valOk ar ps t vs)]) ∧ Ext w w' := c_sValueAt0 h0 h1 h2 h3.rd
set_option maxRecDepth 100000 in
set_option maxHeartbeats 2000000 in
theorem c_iValueAt {v0 v1 v2 v3 : Value} {ar : List Int} {ps : List Pl} {t vs : List Int} {w : World} (h0 : RdSig w v0 ar) (h1 : RdPs w v1 ps) (h2 : RdI w v2 t) (h3 : RdI w v3 vs) :
    Calls Try.prog 12 #[v0, v1, v2, v3] w fun e w' => e = .returned (.tuple #[.int .i64 (valAt ar ps t vs), .bool (valOk ar ps t vs)]) ∧ Ext w w' := by
  obtain ⟨A, n, c, rfl, ha⟩ := h0
  obtain ⟨B, m, d, rfl, hb⟩ := h1
  obtain ⟨D, q, l, rfl, hd⟩ := h2
  obtain ⟨F, q', l', rfl, hf⟩ := h3
  have HA := Lib.hid ha
  have HB := Lib.hid hb
  have HD := Lib.hid hd
  have HF := Lib.hid hf
  have HFL := Lib.hid hf.len
  have hq' := hf.le
  clear ha hb hd hf
  obtain ⟨of, hof⟩ : ∃ of, of = formO ar ps t := ⟨_, rfl⟩
  have HOF := Lib.hid hof
  clear hof
  by_cases h24 : q' ≤ 24
  · have hq24 : (q' : Int) ≤ 24 := by omega
    go_enter Try.func12, Try.ntmps12
    go_wp2_with fail
    obtain ⟨wq, hwq⟩ : ∃ wq, wq = w.alloc (.cells #[.slice A n c] 29) := ⟨_, rfl⟩
    have hs0 : wq.cell? ⟨w.heap.size, 0, none⟩ = some (.slice A n c) := by rw [hwq]; simp [go_sem]
    have hEq : Ext w wq := by rw [hwq]; exact extX
    rw [← hwq]
    clear hwq
    go_loopw [22] (fun i wr => ∃ k : Nat, i = .int .i64 k ∧ k ≤ q' ∧ Hid (∀ (j : Nat) (x : Int), j < k → vs[j]? = some x → 0 ≤ x ∧ x ≤ 1000) ∧ Ext wq wr) (fun i _ => q' - (intOf i).toNat)
    case atStart => exact ⟨0, rfl, Nat.zero_le _, Lib.hid fun j x hj => by omega, Ext.refl _⟩
    case round =>
      obtain ⟨k, rfl, hk, hp, hE⟩ := hrel
      have hEw : Ext w wr := Ext.trans hEq hE
      have hr0 := Ext.keep hE hs0
      by_cases hlt : k < q'
      · obtain ⟨b, o, x, rfl, hx, hcx⟩ := RI.at_ (RI.ext HF.out hEw) hlt
        have HX := Lib.hid hx
        clear hx
        have hki : (k : Int) < (q' : Int) := by omega
        have hk0 : (0 : Int) ≤ (k : Int) := by omega
        by_cases hin : 0 ≤ x ∧ x ≤ 1000
        · have HP := Lib.hid (show ∀ (j : Nat) (y : Int), j < k + 1 → vs[j]? = some y → 0 ≤ y ∧ y ≤ 1000 from fun j y hj e => by
            rcases Nat.lt_or_ge j k with h | h
            · exact hp.out j y h e
            · obtain rfl : j = k := by omega
              rw [HX.out] at e; cases e; exact hin)
          obtain ⟨hi1, hi2⟩ := hin
          go_wp2
          go_roundw
          case rel => exact ⟨k + 1, by go_num, by omega, HP, by exact extX⟩
          case measure => simp only [intOf]; omega
        · have HR := Lib.hid (val_no (ar := ar) (ps := ps) (t := t) (val_bad (not_vals HX.out hin)))
          by_cases hx0 : x < 0
          · go_wp2
            go_ret2
            exact ⟨HR.out, by exact extX⟩
          · have hx1 : 1000 < x := by omega
            go_wp2
            go_ret2
            exact ⟨HR.out, by exact extX⟩
      · have hkq : k = q' := by omega
        have HV := Lib.hid (vals_of HFL.out h24 (fun j x hj e => hp.out j x (by omega) e))
        have HKQ := Lib.hid hkq
        clear hkq
        go_wp2_with fail
        (with_reducible refine (c_iFormOf (t := t) (RdSig.mk (RI.ext HA.out (by exact extX))) (RdPs.mk (RP.ext HB.out (by exact extX))) (RdI.mk (RI.ext HD.out (by exact extX)))).mono ?_)
        rw [← HOF.out]
        rintro e2 w2 ⟨A2, n2, c2, rfl, hO2, hE2⟩
        have HL2 := Lib.hid hO2.ri
        have hEw2 : Ext w w2 := Ext.trans hEw hE2
        clear hO2 hE2
        cases of with
        | none =>
          have HR := Lib.hid (val_no (vs := vs) (val_none HOF.out.symm))
          go_wp2
          go_ret2
          exact ⟨HR.out, by exact extX⟩
        | some f =>
          have HFM := Lib.hid (formO_fm HOF.out.symm)
          go_wp2_with fail
          obtain ⟨wo, hwo⟩ : ∃ wo, wo = w2.alloc (.cells #[.int .i64 (rp (some f)).c, .slice A2 n2 c2] 38) := ⟨_, rfl⟩
          have hg0 : wo.cell? ⟨w2.heap.size, 0, none⟩ = some (.int .i64 f.c) := by rw [hwo]; simp [go_sem, rp]
          have hg1 : wo.cell? ⟨w2.heap.size, 1, none⟩ = some (.slice A2 n2 c2) := by rw [hwo]; simp [go_sem]
          have hEo : Ext w2 wo := by rw [hwo]; exact (Ext.refl _).alloc _
          rw [← hwo]
          clear hwo
          have hEwo : Ext w wo := Ext.trans hEw2 hEo
          go_wp2_with fail
          go_loopw [14, 46] (fun s i wr => ∃ j : Nat, i = .int .i64 j ∧ j ≤ q' ∧ (∃ y, s = .int .i64 y ∧ Hid (y = vsum f vs j)) ∧ Ext wo wr) (fun _ i _ => q' - (intOf i).toNat)
          case atStart => exact ⟨0, rfl, Nat.zero_le _, ⟨_, rfl, Lib.hid rfl⟩, Ext.refl _⟩
          case round =>
            obtain ⟨j, rfl, hj, ⟨y, rfl, hy⟩, hE3⟩ := hrel
            have hs0 := Ext.keep hE3 hg0
            have hs1 := Ext.keep hE3 hg1
            have hEw3 : Ext w wr := Ext.trans hEwo hE3
            by_cases hjq : j < q'
            · have hjqi : (j : Int) < (q' : Int) := by omega
              have hj0 : (0 : Int) ≤ (j : Int) := by omega
              obtain ⟨b, o, x, rfl, hx, hcx⟩ := RI.at_ (RI.ext HF.out hEw3) hjq
              have e1 := getD_at hx
              obtain ⟨z, hz⟩ : ∃ z, z = nth f.cf j := ⟨_, rfl⟩
              have hb1 := vmul_bd HFM.out HV.out j
              have hb2 := vsum_bd HFM.out HV.out j
              rw [e1, ← hz] at hb1
              rw [← hy.out] at hb2
              have hz1 : IntKind.i64.wrap (z * x) = z * x := IntWalk.i64_in _ (by omega)
              have hz2 : IntKind.i64.wrap (y + z * x) = y + z * x := IntWalk.i64_in _ (by omega)
              have HS := Lib.hid (show y + z * x = vsum f vs (j + 1) by show _ = vsum f vs j + _; rw [hy.out, e1, hz])
              have HZ := Lib.hid hz
              clear e1 hx hz
              go_wp2_with fail
              (with_reducible refine (c_coef (p := f) (k := j) (RI.ext HL2.out (Ext.trans hEo hE3)) (by omega)).mono ?_)
              rw [← HZ.out]
              rintro e5 w5 ⟨rfl, hE5⟩
              go_wp2
              go_roundw
              case rel => exact ⟨j + 1, by go_num, by omega, ⟨_, rfl, HS⟩, Ext.trans hE3 hE5⟩
              case measure => simp only [intOf]; omega
            · have hjqi : (q' : Int) ≤ (j : Int) := by omega
              have hjeq : j = q' := by omega
              have HSV := Lib.hid (show y = vsum f vs q' by rw [hy.out, hjeq])
              clear hjeq
              by_cases hbig : y ≤ 1000000000000
              · have HR := Lib.hid (val_yes (val_ok HOF.out.symm HV.out HFL.out (by rw [← HSV.out]; exact hbig)) HSV.out)
                go_wp2
                go_ret2
                exact ⟨HR.out, by exact extX⟩
              · have HR := Lib.hid (val_no (val_big HOF.out.symm HFL.out (by rw [← HSV.out]; exact hbig)))
                go_wp2
                go_ret2
                exact ⟨HR.out, by exact extX⟩
  · have HR := Lib.hid (val_no (ar := ar) (ps := ps) (t := t) (vs := vs) (val_bad (fun h => by have := h.1; rw [HFL.out] at this; omega)))
    have hq24 : (24 : Int) < (q' : Int) := by omega
    go_enter Try.func12, Try.ntmps12
    go_wp2
    go_ret2
    exact ⟨HR.out, by exact extX⟩

end Go.Proofs.Ytljbjabgdalabaa
