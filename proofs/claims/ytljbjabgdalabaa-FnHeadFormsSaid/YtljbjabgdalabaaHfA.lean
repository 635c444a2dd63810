/- Several texts in one: FormY, DicP, PolyVal, Fx, Pap. -/
import Derived.Test.YtljbjabgdalabaaHfE
import Derived.Test.YtljbjabgdalabaaDicT
import Derived.Test.YtljbjabgdalabaaPoly
import Derived.Test.YtljbjabgdalabaaMSub
import Derived.Test.YtljbjabgdalabaaDicU
import Derived.Test.YtljbjabgdalabaaPG
import Derived.Test.YtljbjabgdalabaaFormD
-- rd: RdPl RdPs
namespace Go.Proofs.Ytljbjabgdalabaa
open Go.RowKit
set_option linter.unusedSimpArgs false
set_option linter.unusedVariables false

/-! ValueAt of both. -/
/-- The constant and the first factors by their values. -/
def vsum (f : Pl) (vs : List Int) : Nat → Int
  | 0 => f.c
  | k + 1 => vsum f vs k + nth f.cf k * nth vs k
def ValsOk (vs : List Int) : Prop := vs.length ≤ 24 ∧ ∀ x ∈ vs, 0 ≤ x ∧ x ≤ 1000
theorem ValsOk.nth {vs : List Int} (h : ValsOk vs) (k : Nat) : 0 ≤ nth vs k ∧ nth vs k ≤ 1000 := by
  unfold Go.Proofs.Ytljbjabgdalabaa.nth
  rw [List.getD_eq_getElem?_getD]
  rcases hj : vs[k]? with _ | x
  · simp
  · exact h.2 x (List.mem_of_getElem? hj)
theorem Fm.nth {f : Pl} (h : Fm f) (k : Nat) : 0 ≤ nth f.cf k ∧ nth f.cf k ≤ 1000000000000 := h.1.getD (by omega) k
theorem vmul_bd {f : Pl} {vs : List Int} (hf : Fm f) (hv : ValsOk vs) (k : Nat) : 0 ≤ nth f.cf k * nth vs k ∧ nth f.cf k * nth vs k ≤ 1000000000000000 := by
  have h1 := hf.nth k
  have h2 := hv.nth k
  refine ⟨Int.mul_nonneg h1.1 h2.1, Int.le_trans (Int.mul_le_mul_of_nonneg_right h1.2 h2.1) ?_⟩
  omega
theorem vsum_bd {f : Pl} {vs : List Int} (hf : Fm f) (hv : ValsOk vs) : ∀ k : Nat, 0 ≤ vsum f vs k ∧ vsum f vs k ≤ 1000000000000 + k * 1000000000000000
  | 0 => by have := hf.1.1; show 0 ≤ f.c ∧ f.c ≤ _; omega
  | k + 1 => by
    have := vsum_bd hf hv k
    have := vmul_bd hf hv k
    show 0 ≤ vsum f vs k + _ ∧ vsum f vs k + _ ≤ _
    omega
theorem nth_past {xs : List Int} {k : Nat} (h : xs.length ≤ k) : nth xs k = 0 := by
  unfold nth; rw [List.getD_eq_getElem?_getD, List.getElem?_eq_none h]; rfl
theorem vsum_past {f : Pl} {vs : List Int} {k : Nat} (h : f.cf.length ≤ k) : ∀ n, k ≤ n → vsum f vs n = vsum f vs k
  | 0, hn => by obtain rfl : k = 0 := by omega
                rfl
  | n + 1, hn => by
    rcases Nat.lt_or_ge k (n + 1) with h1 | h1
    · show vsum f vs n + _ = _
      rw [nth_past (by omega), vsum_past h n (by omega)]; simp
    · obtain rfl : k = n + 1 := by omega
      rfl
open Classical in
noncomputable def valOk (ar : List Int) (ps : List Pl) (t vs : List Int) : Bool := decide ((formO ar ps t).isSome = true ∧ ValsOk vs ∧ vsum (rp (formO ar ps t)) vs vs.length ≤ 1000000000000)
noncomputable def valAt (ar : List Int) (ps : List Pl) (t vs : List Int) : Int := if valOk ar ps t vs = true then vsum (rp (formO ar ps t)) vs vs.length else 0
theorem val_none {ar : List Int} {ps : List Pl} {t vs : List Int} (h : formO ar ps t = none) : valOk ar ps t vs = false := by unfold valOk; rw [h]; simp
theorem val_bad {ar : List Int} {ps : List Pl} {t vs : List Int} (h : ¬ ValsOk vs) : valOk ar ps t vs = false := by unfold valOk; simp [h]
theorem val_big {ar : List Int} {ps : List Pl} {t vs : List Int} {f : Pl} {n : Nat} (h : formO ar ps t = some f) (hn : vs.length = n) (hb : ¬ vsum f vs n ≤ 1000000000000) : valOk ar ps t vs = false := by
  unfold valOk; rw [h, hn]; simp only [decide_eq_false_iff_not]; rintro ⟨_, _, h3⟩; exact hb h3
theorem val_ok {ar : List Int} {ps : List Pl} {t vs : List Int} {f : Pl} {n : Nat} (h : formO ar ps t = some f) (hv : ValsOk vs) (hn : vs.length = n) (hb : vsum f vs n ≤ 1000000000000) : valOk ar ps t vs = true ∧ valAt ar ps t vs = vsum f vs n := by
  have h1 : valOk ar ps t vs = true := by unfold valOk; rw [h, hn]; simp only [decide_eq_true_eq]; exact ⟨rfl, hv, hb⟩
  refine ⟨h1, ?_⟩
  unfold valAt; rw [if_pos h1, h, hn]; rfl
theorem val_no {ar : List Int} {ps : List Pl} {t vs : List Int} (h : valOk ar ps t vs = false) : Ending.returned (.tuple #[.int .i64 0, .bool false]) = .returned (.tuple #[.int .i64 (valAt ar ps t vs), .bool (valOk ar ps t vs)]) := by
  unfold valAt; rw [h]; rfl
theorem val_yes {ar : List Int} {ps : List Pl} {t vs : List Int} {f : Pl} {n : Nat} {y : Int} (h : valOk ar ps t vs = true ∧ valAt ar ps t vs = vsum f vs n) (hy : y = vsum f vs n) : Ending.returned (.tuple #[.int .i64 y, .bool true]) = .returned (.tuple #[.int .i64 (valAt ar ps t vs), .bool (valOk ar ps t vs)]) := by
  rw [h.1, h.2, hy]
theorem not_vals {vs : List Int} {k : Nat} {x : Int} (hx : vs[k]? = some x) (h : ¬ (0 ≤ x ∧ x ≤ 1000)) : ¬ ValsOk vs := fun h2 => h (h2.2 x (List.mem_of_getElem? hx))
theorem vals_of {vs : List Int} {n : Nat} (hn : vs.length = n) (h24 : n ≤ 24) (h : ∀ j x, j < n → vs[j]? = some x → 0 ≤ x ∧ x ≤ 1000) : ValsOk vs := by
  refine ⟨by omega, fun x hx => ?_⟩
  obtain ⟨j, hj, rfl⟩ := List.mem_iff_getElem.1 hx
  exact h j _ (by omega) (List.getElem?_eq_getElem hj)
set_option maxRecDepth 100000 in
set_option maxHeartbeats 2000000 in
theorem c_sValueAt0 {v0 v1 v2 v3 : Value} {ar : List Int} {ps : List Pl} {t vs : List Int} {w : World} (h0 : RdSig w v0 ar) (h1 : RdPs w v1 ps) (h2 : RdIc w v2 t) (h3 : RdI w v3 vs) :
    Calls Try.prog 29 #[v0, v1, v2, v3] w fun e w' => e = .returned (.tuple #[.int .i64 (valAt ar ps t vs), .bool (valOk ar ps t vs)]) ∧ Ext w w' := by
  obtain ⟨A, n, c, rfl, ha⟩ := h0
  obtain ⟨B, m, d, rfl, hb⟩ := h1
  obtain ⟨D, q, l, rfl, hcap, hd⟩ := h2
  obtain ⟨F, q', l', rfl, hf⟩ := h3
  have HA := Lib.hid ha
  have HB := Lib.hid hb
  have HD := Lib.hid hd
  have HF := Lib.hid hf
  have HFL := Lib.hid hf.len
  have hq' := hf.le
  have HCP := Lib.hid hcap
  clear ha hb hd hf hcap
  obtain ⟨of, hof⟩ : ∃ of, of = formO ar ps t := ⟨_, rfl⟩
  have HOF := Lib.hid hof
  clear hof
  go_enter Try.func29, Try.ntmps29
  go_wp2_with fail
  (with_reducible refine (c_sFormOf (t := t) (RdSig.mk (RI.ext HA.out (by exact extX))) (RdPs.mk (RP.ext HB.out (by exact extX))) (RdIc.mk HCP.out (RI.ext HD.out (by exact extX)))).mono ?_)
  rw [← HOF.out]
  rintro e2 w2 ⟨A2, n2, c2, rfl, hO2, hE2⟩
  have HL2 := Lib.hid hO2.ri
  have hEw2 : Ext w w2 := Ext.trans (by exact extX) hE2
  clear hO2 hE2
  cases of with
  | none =>
    have HR := Lib.hid (val_no (vs := vs) (val_none HOF.out.symm))
    go_wp2
    go_ret2
    exact ⟨HR.out, by exact extX⟩
  | some f =>
    by_cases h24 : q' ≤ 24
    · have hq24 : (q' : Int) ≤ 24 := by omega
      have HFM := Lib.hid (formO_fm HOF.out.symm)
      go_wp2_with fail
      obtain ⟨wq, hwq⟩ : ∃ wq, wq = w2.alloc (.cells #[.int .i64 (rp (some f)).c, .slice A2 n2 c2] 38) := ⟨_, rfl⟩
      have hg0 : wq.cell? ⟨w2.heap.size, 0, none⟩ = some (.int .i64 f.c) := by rw [hwq]; simp [go_sem, rp]
      have hg1 : wq.cell? ⟨w2.heap.size, 1, none⟩ = some (.slice A2 n2 c2) := by rw [hwq]; simp [go_sem]
      have hEq : Ext w2 wq := by rw [hwq]; exact (Ext.refl _).alloc _
      rw [← hwq]
      clear hwq
      have hEwq : Ext w wq := Ext.trans hEw2 hEq
      go_loopw [12] (fun i wr => ∃ k : Nat, i = .int .i64 k ∧ k ≤ q' ∧ Hid (∀ (j : Nat) (x : Int), j < k → vs[j]? = some x → 0 ≤ x ∧ x ≤ 1000) ∧ Ext wq wr) (fun i _ => q' - (intOf i).toNat)
      case atStart => exact ⟨0, rfl, Nat.zero_le _, Lib.hid fun j x hj => by omega, Ext.refl _⟩
      case round =>
        obtain ⟨k, rfl, hk, hp, hE⟩ := hrel
        have hEw : Ext w wr := Ext.trans hEwq hE
        by_cases hlt : k < q'
        · obtain ⟨b, o, x, rfl, hx, hcx⟩ := RI.at_ (RI.ext HF.out hEw) hlt
          have HX := Lib.hid hx
          clear hx
          have hki : (k : Int) < (q' : Int) := by omega
          have hk0 : (0 : Int) ≤ (k : Int) := by omega
          by_cases hin : 0 ≤ x ∧ x ≤ 1000
          · have HIN := Lib.hid hin
            have HP := Lib.hid (show ∀ (j : Nat) (y : Int), j < k + 1 → vs[j]? = some y → 0 ≤ y ∧ y ≤ 1000 from fun j y hj e => by
              rcases Nat.lt_or_ge j k with h | h
              · exact hp.out j y h e
              · obtain rfl : j = k := by omega
                rw [HX.out] at e; cases e; exact hin)
            clear hin
            go_wp2_with (go_at_call 60; (with_reducible refine (s_l1In_t HIN.out).mono ?_); rintro e w3 ⟨rfl, rfl⟩)
            go_roundw
            case rel => exact ⟨k + 1, by go_num, by omega, HP, by exact extX⟩
            case measure => simp only [intOf]; omega
          · have HIN := Lib.hid hin
            have HR := Lib.hid (val_no (ar := ar) (ps := ps) (t := t) (val_bad (not_vals HX.out hin)))
            clear hin
            go_wp2_with (go_at_call 60; (with_reducible refine (s_l1In_f HIN.out).mono ?_); rintro e w3 ⟨rfl, rfl⟩)
            go_ret2
            exact ⟨HR.out, by exact extX⟩
        · have hkq : k = q' := by omega
          have HV := Lib.hid (vals_of HFL.out h24 (fun j x hj e => hp.out j x (by omega) e))
          have hr0 := Ext.keep hE hg0
          have hr1 := Ext.keep hE hg1
          have hn2 : n2 ≤ 24 := by have := HFM.out.2; have h2 : f.cf.length = n2 := HL2.out.len; omega
          have HNL : Hid (f.cf.length = n2) := Lib.hid HL2.out.len
          have HKQ := Lib.hid hkq
          clear hkq
          obtain ⟨wo, rfl⟩ : ∃ wo : World, wo = wr := ⟨_, rfl⟩
          go_wp2_with fail
          go_loopw [13, 14] (fun s i wr => ∃ j : Nat, i = .int .i64 j ∧ j ≤ q' ∧ j ≤ n2 ∧ (∃ y, s = .int .i64 y ∧ Hid (y = vsum f vs j)) ∧ Ext wo wr) (fun _ i _ => q' - (intOf i).toNat)
          case atStart => exact ⟨0, rfl, Nat.zero_le _, Nat.zero_le _, ⟨_, rfl, Lib.hid rfl⟩, Ext.refl _⟩
          case round =>
            obtain ⟨j, rfl, hj, hjn, ⟨y, rfl, hy⟩, hE3⟩ := hrel
            have hs0 := Ext.keep hE3 hr0
            have hs1 := Ext.keep hE3 hr1
            have hEw3 : Ext w wr := Ext.trans hEw hE3
            by_cases hjb : j < n2
            · have hji : (j : Int) < (n2 : Int) := by omega
              have hj0 : (0 : Int) ≤ (j : Int) := by omega
              by_cases hjq : j < q'
              · have hjqi : (j : Int) < (q' : Int) := by omega
                obtain ⟨b, o, x, rfl, hx, hcx⟩ := RI.at_ (RI.ext HF.out hEw3) hjq
                obtain ⟨b2, o2, z, rfl, hz, hcz⟩ := RI.at_ (RI.ext HL2.out (Ext.trans hEq (Ext.trans hE hE3))) hjb
                have e1 := getD_at hx
                have e2 := getD_at hz
                have hb1 := vmul_bd HFM.out HV.out j
                have hb2 := vsum_bd HFM.out HV.out j
                rw [e1, show nth f.cf j = z from e2] at hb1
                rw [← hy.out] at hb2
                have hz1 : IntKind.i64.wrap (z * x) = z * x := IntWalk.i64_in _ (by omega)
                have hz2 : IntKind.i64.wrap (y + z * x) = y + z * x := IntWalk.i64_in _ (by omega)
                have HS := Lib.hid (show y + z * x = vsum f vs (j + 1) by show _ = vsum f vs j + _; rw [hy.out, e1, show nth f.cf j = z from e2])
                clear e1 e2 hx hz
                go_wp2_with fail
                go_still_tail 11, (by kernel_rfl)
                change wpList _ _ _ _ _ wr.drew
                go_wp2_with fail
                go_roundw
                case rel => exact ⟨j + 1, by go_num, by omega, by omega, ⟨_, rfl, HS⟩, by exact extX⟩
                case measure => simp only [intOf]; omega
              · have hjqi : (q' : Int) ≤ (j : Int) := by omega
                have hjeq : j = q' := by omega
                have HSV := Lib.hid (show y = vsum f vs q' by rw [hy.out, hjeq])
                by_cases hbig : y ≤ 1000000000000
                · have HR := Lib.hid (val_yes (val_ok HOF.out.symm HV.out HFL.out (by rw [← HSV.out]; exact hbig)) HSV.out)
                  go_wp2
                  go_ret2
                  exact ⟨HR.out, by exact extX⟩
                · have HR := Lib.hid (val_no (val_big HOF.out.symm HFL.out (by rw [← HSV.out]; exact hbig)))
                  go_wp2
                  go_ret2
                  exact ⟨HR.out, by exact extX⟩
            · have hji : (n2 : Int) ≤ (j : Int) := by omega
              have hjn2 : j = n2 := by omega
              have HSV := Lib.hid (show y = vsum f vs q' by rw [hy.out, vsum_past (by rw [HNL.out]; omega) q' hj])
              by_cases hbig : y ≤ 1000000000000
              · have HR := Lib.hid (val_yes (val_ok HOF.out.symm HV.out HFL.out (by rw [← HSV.out]; exact hbig)) HSV.out)
                go_wp2
                go_ret2
                exact ⟨HR.out, by exact extX⟩
              · have HR := Lib.hid (val_no (val_big HOF.out.symm HFL.out (by rw [← HSV.out]; exact hbig)))
                go_wp2
                go_ret2
                exact ⟨HR.out, by exact extX⟩
    · have HR := Lib.hid (val_no (ar := ar) (ps := ps) (t := t) (vs := vs) (val_bad (fun h => by have := h.1; rw [HFL.out] at this; omega)))
      have hq24 : (24 : Int) < (q' : Int) := by omega
      go_wp2
      go_ret2
      exact ⟨HR.out, by exact extX⟩
theorem c_sValueAt {v0 v1 v2 v3 : Value} {ar : List Int} {ps : List Pl} {t vs : List Int} {w : World} (h0 : RdSig w v0 ar) (h1 : RdPs w v1 ps) (h2 : RdIc w v2 t) (h3 : RdIc w v3 vs) :
    Calls Try.prog 29 #[v0, v1, v2, v3] w fun e w' => e = .returned (.tuple #[.int .i64 (valAt ar ps t vs), .bool (valOk ar ps t vs)]) ∧ Ext w w' := c_sValueAt0 h0 h1 h2 h3.rd
set_option maxRecDepth 100000 in
set_option maxHeartbeats 2000000 in
theorem c_iValueAt {v0 v1 v2 v3 : Value} {ar : List Int} {ps : List Pl} {t vs : List Int} {w : World} (h0 : RdSig w v0 ar) (h1 : RdPs w v1 ps) (h2 : RdI w v2 t) (h3 : RdI w v3 vs) :
    Calls Try.prog 12 #[v0, v1, v2, v3] w fun e w' => e = .returned (.tuple #[.int .i64 (valAt ar ps t vs), .bool (valOk ar ps t vs)]) ∧ Ext w w' := by
  obtain ⟨A, n, c, rfl, ha⟩ := h0
  obtain ⟨B, m, d, rfl, hb⟩ := h1
  obtain ⟨D, q, l, rfl, hd⟩ := h2
  obtain ⟨F, q', l', rfl, hf⟩ := h3
  have HA := Lib.hid ha
  have HB := Lib.hid hb
  have HD := Lib.hid hd
  have HF := Lib.hid hf
  have HFL := Lib.hid hf.len
  have hq' := hf.le
  clear ha hb hd hf
  obtain ⟨of, hof⟩ : ∃ of, of = formO ar ps t := ⟨_, rfl⟩
  have HOF := Lib.hid hof
  clear hof
  by_cases h24 : q' ≤ 24
  · have hq24 : (q' : Int) ≤ 24 := by omega
    go_enter Try.func12, Try.ntmps12
    go_wp2_with fail
    obtain ⟨wq, hwq⟩ : ∃ wq, wq = w.alloc (.cells #[.slice A n c] 29) := ⟨_, rfl⟩
    have hs0 : wq.cell? ⟨w.heap.size, 0, none⟩ = some (.slice A n c) := by rw [hwq]; simp [go_sem]
    have hEq : Ext w wq := by rw [hwq]; exact extX
    rw [← hwq]
    clear hwq
    go_loopw [22] (fun i wr => ∃ k : Nat, i = .int .i64 k ∧ k ≤ q' ∧ Hid (∀ (j : Nat) (x : Int), j < k → vs[j]? = some x → 0 ≤ x ∧ x ≤ 1000) ∧ Ext wq wr) (fun i _ => q' - (intOf i).toNat)
    case atStart => exact ⟨0, rfl, Nat.zero_le _, Lib.hid fun j x hj => by omega, Ext.refl _⟩
    case round =>
      obtain ⟨k, rfl, hk, hp, hE⟩ := hrel
      have hEw : Ext w wr := Ext.trans hEq hE
      have hr0 := Ext.keep hE hs0
      by_cases hlt : k < q'
      · obtain ⟨b, o, x, rfl, hx, hcx⟩ := RI.at_ (RI.ext HF.out hEw) hlt
        have HX := Lib.hid hx
        clear hx
        have hki : (k : Int) < (q' : Int) := by omega
        have hk0 : (0 : Int) ≤ (k : Int) := by omega
        by_cases hin : 0 ≤ x ∧ x ≤ 1000
        · have HP := Lib.hid (show ∀ (j : Nat) (y : Int), j < k + 1 → vs[j]? = some y → 0 ≤ y ∧ y ≤ 1000 from fun j y hj e => by
            rcases Nat.lt_or_ge j k with h | h
            · exact hp.out j y h e
            · obtain rfl : j = k := by omega
              rw [HX.out] at e; cases e; exact hin)
          obtain ⟨hi1, hi2⟩ := hin
          go_wp2
          go_roundw
          case rel => exact ⟨k + 1, by go_num, by omega, HP, by exact extX⟩
          case measure => simp only [intOf]; omega
        · have HR := Lib.hid (val_no (ar := ar) (ps := ps) (t := t) (val_bad (not_vals HX.out hin)))
          by_cases hx0 : x < 0
          · go_wp2
            go_ret2
            exact ⟨HR.out, by exact extX⟩
          · have hx1 : 1000 < x := by omega
            go_wp2
            go_ret2
            exact ⟨HR.out, by exact extX⟩
      · have hkq : k = q' := by omega
        have HV := Lib.hid (vals_of HFL.out h24 (fun j x hj e => hp.out j x (by omega) e))
        have HKQ := Lib.hid hkq
        clear hkq
        go_wp2_with fail
        (with_reducible refine (c_iFormOf (t := t) (RdSig.mk (RI.ext HA.out (by exact extX))) (RdPs.mk (RP.ext HB.out (by exact extX))) (RdI.mk (RI.ext HD.out (by exact extX)))).mono ?_)
        rw [← HOF.out]
        rintro e2 w2 ⟨A2, n2, c2, rfl, hO2, hE2⟩
        have HL2 := Lib.hid hO2.ri
        have hEw2 : Ext w w2 := Ext.trans hEw hE2
        clear hO2 hE2
        cases of with
        | none =>
          have HR := Lib.hid (val_no (vs := vs) (val_none HOF.out.symm))
          go_wp2
          go_ret2
          exact ⟨HR.out, by exact extX⟩
        | some f =>
          have HFM := Lib.hid (formO_fm HOF.out.symm)
          go_wp2_with fail
          obtain ⟨wo, hwo⟩ : ∃ wo, wo = w2.alloc (.cells #[.int .i64 (rp (some f)).c, .slice A2 n2 c2] 38) := ⟨_, rfl⟩
          have hg0 : wo.cell? ⟨w2.heap.size, 0, none⟩ = some (.int .i64 f.c) := by rw [hwo]; simp [go_sem, rp]
          have hg1 : wo.cell? ⟨w2.heap.size, 1, none⟩ = some (.slice A2 n2 c2) := by rw [hwo]; simp [go_sem]
          have hEo : Ext w2 wo := by rw [hwo]; exact (Ext.refl _).alloc _
          rw [← hwo]
          clear hwo
          have hEwo : Ext w wo := Ext.trans hEw2 hEo
          go_wp2_with fail
          go_loopw [14, 46] (fun s i wr => ∃ j : Nat, i = .int .i64 j ∧ j ≤ q' ∧ (∃ y, s = .int .i64 y ∧ Hid (y = vsum f vs j)) ∧ Ext wo wr) (fun _ i _ => q' - (intOf i).toNat)
          case atStart => exact ⟨0, rfl, Nat.zero_le _, ⟨_, rfl, Lib.hid rfl⟩, Ext.refl _⟩
          case round =>
            obtain ⟨j, rfl, hj, ⟨y, rfl, hy⟩, hE3⟩ := hrel
            have hs0 := Ext.keep hE3 hg0
            have hs1 := Ext.keep hE3 hg1
            have hEw3 : Ext w wr := Ext.trans hEwo hE3
            by_cases hjq : j < q'
            · have hjqi : (j : Int) < (q' : Int) := by omega
              have hj0 : (0 : Int) ≤ (j : Int) := by omega
              obtain ⟨b, o, x, rfl, hx, hcx⟩ := RI.at_ (RI.ext HF.out hEw3) hjq
              have e1 := getD_at hx
              obtain ⟨z, hz⟩ : ∃ z, z = nth f.cf j := ⟨_, rfl⟩
              have hb1 := vmul_bd HFM.out HV.out j
              have hb2 := vsum_bd HFM.out HV.out j
              rw [e1, ← hz] at hb1
              rw [← hy.out] at hb2
              have hz1 : IntKind.i64.wrap (z * x) = z * x := IntWalk.i64_in _ (by omega)
              have hz2 : IntKind.i64.wrap (y + z * x) = y + z * x := IntWalk.i64_in _ (by omega)
              have HS := Lib.hid (show y + z * x = vsum f vs (j + 1) by show _ = vsum f vs j + _; rw [hy.out, e1, hz])
              have HZ := Lib.hid hz
              clear e1 hx hz
              go_wp2_with fail
              (with_reducible refine (c_coef (p := f) (k := j) (RI.ext HL2.out (Ext.trans hEo hE3)) (by omega)).mono ?_)
              rw [← HZ.out]
              rintro e5 w5 ⟨rfl, hE5⟩
              go_wp2
              go_roundw
              case rel => exact ⟨j + 1, by go_num, by omega, ⟨_, rfl, HS⟩, Ext.trans hE3 hE5⟩
              case measure => simp only [intOf]; omega
            · have hjqi : (q' : Int) ≤ (j : Int) := by omega
              have hjeq : j = q' := by omega
              have HSV := Lib.hid (show y = vsum f vs q' by rw [hy.out, hjeq])
              clear hjeq
              by_cases hbig : y ≤ 1000000000000
              · have HR := Lib.hid (val_yes (val_ok HOF.out.symm HV.out HFL.out (by rw [← HSV.out]; exact hbig)) HSV.out)
                go_wp2
                go_ret2
                exact ⟨HR.out, by exact extX⟩
              · have HR := Lib.hid (val_no (val_big HOF.out.symm HFL.out (by rw [← HSV.out]; exact hbig)))
                go_wp2
                go_ret2
                exact ⟨HR.out, by exact extX⟩
  · have HR := Lib.hid (val_no (ar := ar) (ps := ps) (t := t) (vs := vs) (val_bad (fun h => by have := h.1; rw [HFL.out] at this; omega)))
    have hq24 : (24 : Int) < (q' : Int) := by omega
    go_enter Try.func12, Try.ntmps12
    go_wp2
    go_ret2
    exact ⟨HR.out, by exact extX⟩

/-! Polynomials by dice. -/
/-- Polynomials that are there and not in block g. -/
def RPg (w : World) (g : Nat) (A : Option Addr) (n : Nat) (ps : List Pl) : Prop :=
  (ps.length = n ∧ n ≤ 4194304) ∧ ∃ b o, A = some ⟨b, o, none⟩ ∧ b ≠ g ∧ ∀ j p, ps[j]? = some p → w.cell? ⟨b, o + j * 2, none⟩ = some (.int .i64 p.c) ∧ ∃ A' m' c', w.cell? ⟨b, o + j * 2 + 1, none⟩ = some (.slice A' m' c') ∧ RIg w g A' m' p.cf
theorem RPg.rp {w : World} {g n : Nat} {A : Option Addr} {ps : List Pl} (h : RPg w g A n ps) : RP w A n ps := by
  obtain ⟨h1, b, o, e, _, h2⟩ := h
  refine ⟨h1, fun _ => ⟨b, o, e, fun j p hp => ?_⟩⟩
  obtain ⟨h3, A', m', c', h4, h5⟩ := h2 j p hp
  exact ⟨h3, A', m', c', h4, h5.1⟩
theorem cell_only {w w' : World} {g b o : Nat} {v : Value} (k : Only w w' g) (hb : b ≠ g) (hc : w.cell? ⟨b, o, none⟩ = some v) : w'.cell? ⟨b, o, none⟩ = some v := by
  rw [World.cell?_of_block (w := w) (w' := w') (a := ⟨b, o, none⟩) (k.block _ (World.block_lt_of_cell? w _ hc) (fun e => by cases e; exact hb rfl))]; exact hc
theorem RPg.only {w w' : World} {g n : Nat} {A : Option Addr} {ps : List Pl} (h : RPg w g A n ps) (k : Only w w' g) : RPg w' g A n ps := by
  obtain ⟨h1, b, o, e, hb, h2⟩ := h
  refine ⟨h1, b, o, e, hb, fun j p hp => ?_⟩
  obtain ⟨h3, A', m', c', h4, h5⟩ := h2 j p hp
  exact ⟨cell_only k hb h3, A', m', c', cell_only k hb h4, h5.only k⟩
theorem RPg.ext {w w' : World} {g n : Nat} {A : Option Addr} {ps : List Pl} (h : RPg w g A n ps) (k : Ext w w') : RPg w' g A n ps := h.only (Only.of_ext k g)
/-- Polynomials for the signature of the laws, their factors from a least one on. -/
def Ps3 (least : Int) (ps : List Pl) : Prop := ∃ c0 a0 a1 c1 b0 c2 : Int, ps = [⟨c0, [a0, a1]⟩, ⟨c1, [b0]⟩, ⟨c2, []⟩] ∧ (0 ≤ c0 ∧ c0 ≤ 2) ∧ (0 ≤ c1 ∧ c1 ≤ 2) ∧ (0 ≤ c2 ∧ c2 ≤ 2) ∧ (least ≤ a0 ∧ a0 ≤ least + 1) ∧ (least ≤ a1 ∧ a1 ≤ least + 1) ∧ (least ≤ b0 ∧ b0 ≤ least + 1)
def NewP3 (w : World) (g : Nat) (least : Int) (e : Ending) (w' : World) : Prop := ∃ (A : Option Addr) (ps : List Pl), e = .returned (.slice A 3 3) ∧ RPg w' g A 3 ps ∧ Ps3 least ps ∧ Dice w' g ∧ Only w w' g ∧ ∀ b o s, A = some ⟨b, o, s⟩ → w.heap.size ≤ b
set_option maxRecDepth 100000 in
set_option maxHeartbeats 4000000 in
theorem c_w9Polys {g : Nat} {least : Int} {w : World} (h0 : Dice w g) (hl : 0 ≤ least ∧ least ≤ 1) : Calls Try.prog 9 #[.pointer (some ⟨g, 0, none⟩), .int .i64 least] w (NewP3 w g least) := by
  have hgl := h0.lt
  go_enter Try.func9, Try.ntmps9
  go_wp2_with fail
  (with_reducible refine (c_below h0 (by omega) (by omega)).mono ?_)
  rintro e w1 ⟨c0, rfl, hc0, hD1, hO1⟩
  go_wp2_with fail
  (with_reducible refine (c_below hD1 (by omega) (by omega)).mono ?_)
  rintro e w2 ⟨a0, rfl, ha0, hD2, hO2⟩
  have hw1 : IntKind.i64.wrap (least + a0) = least + a0 := IntWalk.i64_in _ (by omega)
  go_wp2_with fail
  (with_reducible refine (c_below hD2 (by omega) (by omega)).mono ?_)
  rintro e w3 ⟨a1, rfl, ha1, hD3, hO3⟩
  have hw2 : IntKind.i64.wrap (least + a1) = least + a1 := IntWalk.i64_in _ (by omega)
  have hs3 := (hO1.trans (hO2.trans hO3)).size
  have hA := RIg.of (OwI.fresh (w := w3) [least + a0, least + a1] (by simp)) (by omega : g < w3.heap.size)
  have hD3' := hD3.ext ((Ext.refl w3).alloc (.cells #[.int .i64 (least + a0), .int .i64 (least + a1)] 2))
  have hO3' := (hO1.trans (hO2.trans hO3)).trans (Only.of_ext ((Ext.refl w3).alloc (.cells #[.int .i64 (least + a0), .int .i64 (least + a1)] 2)) g)
  go_wp2_with fail
  (with_reducible refine (c_below hD3' (by omega) (by omega)).mono ?_)
  rintro e w4 ⟨c1, rfl, hc1, hD4, hO4⟩
  go_wp2_with fail
  (with_reducible refine (c_below hD4 (by omega) (by omega)).mono ?_)
  rintro e w5 ⟨b0, rfl, hb0, hD5, hO5⟩
  have hw3 : IntKind.i64.wrap (least + b0) = least + b0 := IntWalk.i64_in _ (by omega)
  have hO05 := hO3'.trans (hO4.trans hO5)
  have hs5 := hO05.size
  have hA5 := hA.only (hO4.trans hO5)
  have hB := RIg.of (OwI.fresh (w := w5) [least + b0] (by simp)) (by omega : g < w5.heap.size)
  have hD5' := hD5.ext ((Ext.refl w5).alloc (.cells #[.int .i64 (least + b0)] 2))
  have hO5' := hO05.trans (Only.of_ext ((Ext.refl w5).alloc (.cells #[.int .i64 (least + b0)] 2)) g)
  go_wp2_with fail
  (with_reducible refine (c_below hD5' (by omega) (by omega)).mono ?_)
  rintro e w6 ⟨c2, rfl, hc2, hD6, hO6⟩
  have hO06 := hO5'.trans hO6
  have hs6 := hO06.size
  have hA6 := (hA5.ext ((Ext.refl w5).alloc (.cells #[.int .i64 (least + b0)] 2))).only hO6
  have hB6 := hB.only hO6
  have HA := Lib.hid (hA6.ext ((Ext.refl w6).alloc (.cells #[.int .i64 c0, .slice (some ⟨w3.heap.size, 0, none⟩) 2 2, .int .i64 c1, .slice (some ⟨w5.heap.size, 0, none⟩) 1 1, .int .i64 c2, .slice none 0 0] 38)))
  have HB := Lib.hid (hB6.ext ((Ext.refl w6).alloc (.cells #[.int .i64 c0, .slice (some ⟨w3.heap.size, 0, none⟩) 2 2, .int .i64 c1, .slice (some ⟨w5.heap.size, 0, none⟩) 1 1, .int .i64 c2, .slice none 0 0] 38)))
  have HD := Lib.hid (hD6.ext ((Ext.refl w6).alloc (.cells #[.int .i64 c0, .slice (some ⟨w3.heap.size, 0, none⟩) 2 2, .int .i64 c1, .slice (some ⟨w5.heap.size, 0, none⟩) 1 1, .int .i64 c2, .slice none 0 0] 38)))
  have HO := Lib.hid (hO06.trans (Only.of_ext ((Ext.refl w6).alloc (.cells #[.int .i64 c0, .slice (some ⟨w3.heap.size, 0, none⟩) 2 2, .int .i64 c1, .slice (some ⟨w5.heap.size, 0, none⟩) 1 1, .int .i64 c2, .slice none 0 0] 38)) g))
  clear hA hB hA5 hA6 hB6 hD6 hO06
  go_wp2_with fail
  go_ret
  refine ⟨_, _, rfl, ⟨⟨rfl, by omega⟩, w6.heap.size, 0, rfl, by omega, fun j p hp => ?_⟩, ⟨c0, least + a0, least + a1, c1, least + b0, c2, rfl, by omega, by omega, by omega, by omega, by omega, by omega⟩, HD.out, HO.out, fun b o s e => by cases e; omega⟩
  have hcell : ∀ i : Nat, (w6.alloc (.cells #[.int .i64 c0, .slice (some ⟨w3.heap.size, 0, none⟩) 2 2, .int .i64 c1, .slice (some ⟨w5.heap.size, 0, none⟩) 1 1, .int .i64 c2, .slice none 0 0] 38)).cell? ⟨w6.heap.size, i, none⟩ = #[Value.int .i64 c0, .slice (some ⟨w3.heap.size, 0, none⟩) 2 2, .int .i64 c1, .slice (some ⟨w5.heap.size, 0, none⟩) 1 1, .int .i64 c2, .slice none 0 0][i]? := fun i => cell_of_row _ _ _ _ _ (0, 0) (heap_alloc_new w6 _)
  match j, hp with
  | 0, hp => cases hp; exact ⟨hcell 0, _, 2, 2, hcell 1, HA.out⟩
  | 1, hp => cases hp; exact ⟨hcell 2, _, 1, 1, hcell 3, HB.out⟩
  | 2, hp => cases hp; exact ⟨hcell 4, none, 0, 0, hcell 5, RI.nil _ _, fun b o s e => by cases e⟩
  | j + 3, hp => simp at hp

/-! FnPolyValues, its law on numbers. -/
theorem nth_addL (a b : List Int) (m : Int) (k : Nat) : nth (addL a b m) k = nth a k + m * nth b k := addL_get a b m k
theorem vsum_addP (a b : Pl) (m : Int) (vs : List Int) : ∀ n : Nat, vsum (addP a b m) vs n = vsum a vs n + m * vsum b vs n
  | 0 => rfl
  | n + 1 => by
    show vsum (addP a b m) vs n + nth (addL a.cf b.cf m) n * nth vs n = (vsum a vs n + nth a.cf n * nth vs n) + m * (vsum b vs n + nth b.cf n * nth vs n)
    rw [vsum_addP a b m vs n, nth_addL, Int.add_mul, Int.mul_add, Int.mul_assoc]
    omega
theorem vsum_const (c : Int) (vs : List Int) : ∀ n : Nat, vsum ⟨c, []⟩ vs n = c
  | 0 => rfl
  | n + 1 => by
    show vsum ⟨c, []⟩ vs n + nth [] n * nth vs n = c
    rw [vsum_const c vs n, show nth [] n = 0 from by simp [nth]]
    omega
theorem addP_upto2 {A B : Int} {a b : Pl} {m : Int} (ha : Upto A a) (hA : 0 ≤ A) (hb : Upto B b) (hB : 0 ≤ B) (hm : 0 ≤ m ∧ m ≤ 2) : Upto (A + 2 * B) (addP a b m) := by
  have hmul : ∀ x : Int, 0 ≤ x → x ≤ B → 0 ≤ m * x ∧ m * x ≤ 2 * B := fun x h1 h2 =>
    ⟨Int.mul_nonneg hm.1 h1, Int.le_trans (Int.mul_le_mul_of_nonneg_right hm.2 h1) (by omega)⟩
  refine Upto.of_getD ?_ fun j hj => ?_
  · have h1 := ha.1
    have h2 := hmul b.c hb.1.1 hb.1.2
    show 0 ≤ a.c + m * b.c ∧ a.c + m * b.c ≤ _
    omega
  · show 0 ≤ (addL a.cf b.cf m).getD j 0 ∧ (addL a.cf b.cf m).getD j 0 ≤ _
    rw [addL_get]
    have h1 := ha.getD hA j
    have h2 := hb.getD hB j
    have h3 := hmul _ h2.1 h2.2
    omega
def Sm (ps : List Pl) : Prop := ps.length = 3 ∧ ∀ p ∈ ps, (0 ≤ p.c ∧ p.c ≤ 2) ∧ ∀ x ∈ p.cf, 0 ≤ x ∧ x ≤ 2
theorem Sm.get {ps : List Pl} (h : Sm ps) (k : Nat) : (0 ≤ (ps.getD k ⟨0, []⟩).c ∧ (ps.getD k ⟨0, []⟩).c ≤ 2) ∧ ∀ j, 0 ≤ (ps.getD k ⟨0, []⟩).cf.getD j 0 ∧ (ps.getD k ⟨0, []⟩).cf.getD j 0 ≤ 2 := by
  rw [List.getD_eq_getElem?_getD]
  rcases hk : ps[k]? with _ | p
  · simp
  · obtain ⟨h1, h2⟩ := h.2 p (List.mem_of_getElem? hk)
    refine ⟨h1, fun j => ?_⟩
    rw [List.getD_eq_getElem?_getD]
    show 0 ≤ (p.cf[j]?).getD 0 ∧ (p.cf[j]?).getD 0 ≤ 2
    rcases hj : p.cf[j]? with _ | x
    · simp
    · exact h2 x (List.mem_of_getElem? hj)
theorem not_big {f : Pl} {M : Int} (h : Upto M f) (hM : M ≤ 1000000000000) : ¬ Big f := by
  rintro (h1 | ⟨x, hx, h1⟩)
  · have := h.1; omega
  · have := h.2 x hx; omega
theorem Upto.mono {M N : Int} {f : Pl} (h : Upto M f) (hMN : M ≤ N) : Upto N f := ⟨⟨h.1.1, by have := h.1.2; omega⟩, fun x hx => ⟨(h.2 x hx).1, by have := (h.2 x hx).2; omega⟩⟩
theorem varPl_upto {x : Int} : Upto 1 (varPl x) := by
  refine ⟨⟨Int.le_refl _, by show (0 : Int) ≤ 1; omega⟩, fun y hy => ?_⟩
  simp only [varPl, List.mem_append, List.mem_replicate, List.mem_singleton] at hy
  omega
def p4 (n : Nat) : Int := (4 : Int) ^ n
theorem p4_succ (n : Nat) : p4 (n + 1) = 4 * p4 n := by unfold p4; rw [Int.pow_succ]; omega
theorem p4_add (a b : Nat) : p4 (a + b) = p4 a * p4 b := by unfold p4; rw [Int.pow_add]
theorem p4_pos : ∀ n : Nat, 1 ≤ p4 n
  | 0 => by decide
  | n + 1 => by have := p4_pos n; rw [p4_succ]; omega
theorem p4_mono : ∀ {a b : Nat}, a ≤ b → p4 a ≤ p4 b
  | a, 0, h => by obtain rfl : a = 0 := by omega
                  exact Int.le_refl _
  | a, b + 1, h => by
    rcases Nat.lt_or_ge a (b + 1) with h1 | h1
    · have := p4_mono (show a ≤ b by omega)
      have := p4_pos b
      rw [p4_succ]; omega
    · obtain rfl : a = b + 1 := by omega
      exact Int.le_refl _
theorem p4_two {a b : Nat} (ha : 1 ≤ a) (hb : 1 ≤ b) : 2 + 2 * p4 a + 2 * p4 b ≤ p4 (1 + a + b) := by
  rw [show 1 + a + b = (a + b) + 1 by omega, p4_succ, p4_add]
  have h1 : p4 1 ≤ p4 a := p4_mono ha
  have h2 : p4 1 ≤ p4 b := p4_mono hb
  have h3 : p4 1 = 4 := by decide
  rw [h3] at h1 h2
  have h4 : 4 * p4 b ≤ p4 a * p4 b := Int.mul_le_mul_of_nonneg_right h1 (by omega)
  have h5 : p4 a * 4 ≤ p4 a * p4 b := Int.mul_le_mul_of_nonneg_left h2 (by omega)
  omega
/-- Small forms: of a head and its arguments. -/
theorem app_small {ps : List Pl} {k : Nat} {fs : List Pl} {L : Nat → Nat} (h : Sm ps) (h2 : fs.length ≤ 2) (hf : ∀ (j : Nat) (f : Pl), fs[j]? = some f → 1 ≤ L j ∧ Upto (p4 (L j)) f) (hs : (if fs.length = 0 then 0 else if fs.length = 1 then L 0 else L 0 + L 1) ≤ 14) :
    appP (ps.getD k ⟨0, []⟩) fs = some (sumTo (ps.getD k ⟨0, []⟩) fs fs.length) ∧ Upto (p4 (1 + if fs.length = 0 then 0 else if fs.length = 1 then L 0 else L 0 + L 1)) (sumTo (ps.getD k ⟨0, []⟩) fs fs.length) := by
  have hp := h.get k
  generalize ps.getD k ⟨0, []⟩ = p at hp ⊢
  have h0 : Upto 2 ⟨p.c, []⟩ := ⟨hp.1, fun x hx => by cases hx⟩
  have fin : ∀ n : Nat, n ≤ 15 → p4 n ≤ 1000000000000 := fun n hn => Int.le_trans (p4_mono hn) (by decide)
  have key : Upto (p4 (1 + if fs.length = 0 then 0 else if fs.length = 1 then L 0 else L 0 + L 1)) (sumTo p fs fs.length) := by
    match fs, h2, hf with
    | [], _, _ => exact h0.mono (show (2 : Int) ≤ p4 1 by decide)
    | [f], _, hf =>
      obtain ⟨l1, u1⟩ := hf 0 f rfl
      have := addP_upto2 h0 (by omega) u1 (by have := p4_pos (L 0); omega) (hp.2 0)
      refine Upto.mono this ?_
      show 2 + 2 * p4 (L 0) ≤ p4 (1 + L 0)
      have := p4_mono l1
      have h3 : p4 1 = 4 := by decide
      rw [show 1 + L 0 = L 0 + 1 by omega, p4_succ]; omega
    | [f, g], _, hf =>
      obtain ⟨l1, u1⟩ := hf 0 f rfl
      obtain ⟨l2, u2⟩ := hf 1 g rfl
      have q1 := p4_pos (L 0)
      have q2 := p4_pos (L 1)
      have := addP_upto2 (addP_upto2 h0 (by omega) u1 (by omega) (hp.2 0)) (by omega) u2 (by omega) (hp.2 1)
      exact Upto.mono this (by have := p4_two l1 l2; show 2 + 2 * p4 (L 0) + 2 * p4 (L 1) ≤ p4 (1 + (L 0 + L 1)); rw [show 1 + (L 0 + L 1) = 1 + L 0 + L 1 by omega]; exact this)
    | f :: g :: h :: t, h2, _ => simp at h2
  refine ⟨?_, key⟩
  unfold appP
  rw [if_neg (not_big key (fin _ (by omega)))]
mutual
theorem form_small {ps : List Pl} (h : Sm ps) : ∀ (u : Tm), u.Ok [2, 1, 0] → u.flat.length ≤ 15 → ∃ f, form ps u = some f ∧ Upto (p4 u.flat.length) f
  | .node x us, ho, hl => by
    obtain ⟨h1, h2⟩ := Ok_node.1 ho
    rw [flat_node, List.length_cons] at hl ⊢
    rw [form_node]
    by_cases hx : x < 0
    · rw [if_pos hx]
      exact ⟨_, rfl, varPl_upto.mono (p4_pos _)⟩
    · rw [if_neg hx]
      obtain ⟨fs, e1, e2, e3⟩ := formL_small h us h2 (by omega)
      have hlen : us.length ≤ 2 := by
        have hx3 : x < 3 := arI_lt h1
        have hx' : x = 0 ∨ x = 1 ∨ x = 2 := by omega
        rcases hx' with rfl | rfl | rfl <;> simp [arI] at h1 <;> omega
      have hsum : (if fs.length = 0 then 0 else if fs.length = 1 then (us.getD 0 (.node 0 [])).flat.length else (us.getD 0 (.node 0 [])).flat.length + (us.getD 1 (.node 0 [])).flat.length) = (flatL us).length := by
        rw [e2]
        match us, hlen with
        | [], _ => simp [flatL_nil]
        | [a], _ => simp [flatL_cons, flatL_nil]
        | [a, b], _ => simp [flatL_cons, flatL_nil]
        | a :: b :: c :: t, hlen => simp at hlen
      have := app_small (k := x.toNat) (L := fun j => (us.getD j (.node 0 [])).flat.length) h (by omega) (fun j f hj => ⟨flat_pos _, e3 j f hj⟩) (by rw [hsum]; omega)
      rw [hsum] at this
      refine ⟨_, by rw [e1]; exact this.1, by rw [show (flatL us).length + 1 = 1 + (flatL us).length by omega]; exact this.2⟩
theorem formL_small {ps : List Pl} (h : Sm ps) : ∀ (us : List Tm), OkL [2, 1, 0] us → (flatL us).length ≤ 15 → ∃ fs, formL ps us = some fs ∧ fs.length = us.length ∧ ∀ (j : Nat) (f : Pl), fs[j]? = some f → Upto (p4 (us.getD j (.node 0 [])).flat.length) f
  | [], _, _ => ⟨[], formL_nil ps, rfl, fun j f hj => by simp at hj⟩
  | a :: us, ho, hl => by
    obtain ⟨h1, h2⟩ := OkL_cons.1 ho
    rw [flatL_cons, List.length_append] at hl
    obtain ⟨f, e1, e2⟩ := form_small h a h1 (by omega)
    obtain ⟨fs, e3, e4, e5⟩ := formL_small h us h2 (by omega)
    refine ⟨f :: fs, by rw [formL_cons, e1, e3]; rfl, by simp [e4], fun j g hj => ?_⟩
    cases j with
    | zero => cases hj; exact e2
    | succ j => exact e5 j g (by simpa using hj)
end
theorem Upto.nth {M : Int} {f : Pl} (h : Upto M f) (hM : 0 ≤ M) (k : Nat) : 0 ≤ nth f.cf k ∧ nth f.cf k ≤ M := h.getD hM k
theorem vsum2_bd {f : Pl} {v0 v1 M : Int} (h : Upto M f) (hM : 0 ≤ M) (h0 : 0 ≤ v0 ∧ v0 ≤ 49) (h1 : 0 ≤ v1 ∧ v1 ≤ 49) : 0 ≤ vsum f [v0, v1] 2 ∧ vsum f [v0, v1] 2 ≤ 99 * M := by
  have e : vsum f [v0, v1] 2 = f.c + nth f.cf 0 * v0 + nth f.cf 1 * v1 := rfl
  have k0 := h.nth hM 0
  have k1 := h.nth hM 1
  have m0 : 0 ≤ nth f.cf 0 * v0 ∧ nth f.cf 0 * v0 ≤ M * 49 := ⟨Int.mul_nonneg k0.1 h0.1, Int.le_trans (Int.mul_le_mul_of_nonneg_right k0.2 h0.1) (Int.mul_le_mul_of_nonneg_left h0.2 hM)⟩
  have m1 : 0 ≤ nth f.cf 1 * v1 ∧ nth f.cf 1 * v1 ≤ M * 49 := ⟨Int.mul_nonneg k1.1 h1.1, Int.le_trans (Int.mul_le_mul_of_nonneg_right k1.2 h1.1) (Int.mul_le_mul_of_nonneg_left h1.2 hM)⟩
  have := h.1
  rw [e]; omega
theorem vsum2_mono {a b : Pl} {v0 v1 M : Int} (ha : Upto M a) (hb : Upto M b) (hM : 0 ≤ M) (h0 : 0 ≤ v0) (h1 : 0 ≤ v1) (h : most a b = true) : vsum a [v0, v1] 2 - a.c ≤ vsum b [v0, v1] 2 - b.c := by
  have hm : Most a b := by unfold most at h; simpa using h
  have hn : ∀ j, nth a.cf j ≤ nth b.cf j := fun j => by
    rcases hj : a.cf[j]? with _ | x
    · have : nth a.cf j = 0 := by unfold nth; rw [List.getD_eq_getElem?_getD, hj]; rfl
      rw [this]; exact (hb.nth hM j).1
    · have : nth a.cf j = x := by unfold nth; rw [List.getD_eq_getElem?_getD, hj]; rfl
      rw [this]; exact hm j x hj
  have e1 : vsum a [v0, v1] 2 = a.c + nth a.cf 0 * v0 + nth a.cf 1 * v1 := rfl
  have e2 : vsum b [v0, v1] 2 = b.c + nth b.cf 0 * v0 + nth b.cf 1 * v1 := rfl
  have q0 := Int.mul_le_mul_of_nonneg_right (hn 0) h0
  have q1 := Int.mul_le_mul_of_nonneg_right (hn 1) h1
  rw [e1, e2]; omega
/-- The signature of the laws by dice. -/
abbrev arD : List Int := [2, 1, 0]
theorem sigD : SigP arD := sigOk_iff.1 (by first | rfl | decide | simp [sigOk, SigP])
theorem termD {u : Tm} (h : u.Ok arD) (hl : u.flat.length ≤ 60) (hg : ∀ x ∈ u.flat, -24 ≤ x) : TermP arD u.flat := by
  refine ⟨sigD, ⟨flat_pos u, hl⟩, hg, ?_⟩
  have := scan_flat u h [] 0
  rw [List.append_nil] at this
  rw [show (1 : Nat) = 0 + 1 from rfl, this, scan_zero]
  simp
theorem ps3_sm {ps : List Pl} {l : Int} (h : Ps3 l ps) (hl : 0 ≤ l ∧ l ≤ 1) : Sm ps := by
  obtain ⟨c0, a0, a1, c1, b0, c2, rfl, h0, h1, h2, h3, h4, h5⟩ := h
  refine ⟨rfl, fun p hp => ?_⟩
  simp only [List.mem_cons, List.not_mem_nil, or_false] at hp
  rcases hp with rfl | rfl | rfl
  · exact ⟨h0, fun x hx => by simp only [List.mem_cons, List.not_mem_nil, or_false] at hx; omega⟩
  · exact ⟨h1, fun x hx => by simp only [List.mem_cons, List.not_mem_nil, or_false] at hx; omega⟩
  · exact ⟨h2, fun x hx => by cases hx⟩
theorem ps3_ok {ps : List Pl} {l : Int} (h : Ps3 l ps) (hl : 0 ≤ l ∧ l ≤ 1) : PolysP arD ps := by
  obtain ⟨c0, a0, a1, c1, b0, c2, rfl, h0, h1, h2, h3, h4, h5⟩ := h
  refine ⟨sigD, rfl, fun j p n hp hn => ?_⟩
  match j, hp, hn with
  | 0, hp, hn => cases hp; cases hn; exact ⟨rfl, ⟨by show 0 ≤ c0; omega, by show c0 ≤ 9; omega⟩, fun x hx => by simp only [List.mem_cons, List.not_mem_nil, or_false] at hx; omega⟩
  | 1, hp, hn => cases hp; cases hn; exact ⟨rfl, ⟨by show 0 ≤ c1; omega, by show c1 ≤ 9; omega⟩, fun x hx => by simp only [List.mem_cons, List.not_mem_nil, or_false] at hx; omega⟩
  | 2, hp, hn => cases hp; cases hn; exact ⟨rfl, ⟨by show 0 ≤ c2; omega, by show c2 ≤ 9; omega⟩, fun x hx => by cases hx⟩
  | j + 3, hp, _ => simp at hp
theorem p4_15 : p4 15 = 1073741824 := by decide
theorem val_at {ps : List Pl} {u : Tm} {v0 v1 : Int} (hS : Sm ps) (hP : PolysP arD ps) (ht : TermP arD u.flat) (ho : u.Ok arD) (hl : u.flat.length ≤ 15) (h0 : 0 ≤ v0 ∧ v0 ≤ 49) (h1 : 0 ≤ v1 ∧ v1 ≤ 49) :
    ∃ f, form ps u = some f ∧ Upto (p4 15) f ∧ formO arD ps u.flat = some f ∧ valOk arD ps u.flat [v0, v1] = true ∧ valAt arD ps u.flat [v0, v1] = vsum f [v0, v1] 2 := by
  obtain ⟨f, e1, e2⟩ := form_small hS u ho hl
  have e3 := e2.mono (p4_mono hl)
  have e4 : formO arD ps u.flat = some f := by
    rw [formO_t (by rw [polysOk_iff.2 hP, termOk_iff.2 ht]; rfl), tmOf_flat ho]; exact e1
  have hb := vsum2_bd e3 (by rw [p4_15]; omega) h0 h1
  rw [p4_15] at hb
  have hv : ValsOk [v0, v1] := ⟨by simp, fun x hx => by simp only [List.mem_cons, List.not_mem_nil, or_false] at hx; omega⟩
  have := val_ok (n := 2) e4 hv rfl (by omega)
  exact ⟨f, e1, e3, e4, this.1, this.2⟩
theorem both_val {c0 a0 a1 c1 b0 c2 : Int} {s t : Tm} {f g h : Pl} {vs : List Int} (hf : form [⟨c0, [a0, a1]⟩, ⟨c1, [b0]⟩, ⟨c2, []⟩] s = some f) (hg : form [⟨c0, [a0, a1]⟩, ⟨c1, [b0]⟩, ⟨c2, []⟩] t = some g) (hh : form [⟨c0, [a0, a1]⟩, ⟨c1, [b0]⟩, ⟨c2, []⟩] (.node 0 [s, t]) = some h) (n : Nat) :
    vsum h vs n = c0 + a0 * vsum f vs n + a1 * vsum g vs n := by
  rw [form_node, if_neg (by omega), formL_cons, formL_cons, formL_nil, hf, hg] at hh
  simp only [Option.bind_some, Option.map_some] at hh
  unfold appP at hh
  split at hh
  · cases hh
  · cases hh
    show vsum (addP (addP ⟨c0, []⟩ f a0) g a1) vs n = _
    rw [vsum_addP, vsum_addP, vsum_const]
theorem bothD {s t : Tm} (hs : s.Ok arD) (ht : t.Ok arD) : (Tm.node 0 [s, t]).Ok arD ∧ (Tm.node 0 [s, t]).flat = 0 :: (s.flat ++ t.flat) := by
  refine ⟨Ok_node.2 ⟨rfl, OkL_cons.2 ⟨hs, OkL_cons.2 ⟨ht, by simp [OkL]⟩⟩⟩, ?_⟩
  rw [flat_node, flatL_cons, flatL_cons, flatL_nil, List.append_nil]
/-- What the law says of two terms. -/
theorem less_val {f g : Pl} {v0 v1 M : Int} (hf : Upto M f) (hg : Upto M g) (hM : 0 ≤ M) (h0 : 0 ≤ v0) (h1 : 0 ≤ v1) :
    (cmpMost (some f) (some g) = true → vsum f [v0, v1] 2 ≤ vsum g [v0, v1] 2) ∧ (cmpLess (some f) (some g) = true → vsum f [v0, v1] 2 < vsum g [v0, v1] 2 ∧ cmpMost (some f) (some g) = true) := by
  unfold cmpMost cmpLess
  simp only [Bool.and_eq_true, decide_eq_true_eq]
  refine ⟨fun h => ?_, fun h => ⟨?_, h.1, by omega⟩⟩
  · have := vsum2_mono hf hg hM h0 h1 h.1; omega
  · have := vsum2_mono hf hg hM h0 h1 h.1; omega
theorem c_valueB {v0 v1 v2 v3 : Value} {ar : List Int} {ps : List Pl} {t vs : List Int} {x : Int} {w : World} (hx : valAt ar ps t vs = x) (hk : valOk ar ps t vs = true) (h0 : RdSig w v0 ar) (h1 : RdPs w v1 ps) (h2 : RdI w v2 t) (h3 : RdI w v3 vs) :
    Calls Try.prog 12 #[v0, v1, v2, v3] w fun e w' => e = .returned (.tuple #[.int .i64 x, .bool true]) ∧ Ext w w' := by subst hx; rw [← hk]; exact c_iValueAt h0 h1 h2 h3

/-! Plain: the value of a term, by its tree; small forms of terms that are filled. -/
/-- A polynomial at some numbers. -/
def sd (p : Pl) (g : Nat → Int) : Nat → Int
  | 0 => p.c
  | k + 1 => sd p g k + nth p.cf k * g k
theorem sd_congr {p : Pl} {g h : Nat → Int} : ∀ {n : Nat}, (∀ j, j < n → g j = h j) → sd p g n = sd p h n
  | 0, _ => rfl
  | n + 1, e => by
    show sd p g n + nth p.cf n * g n = sd p h n + nth p.cf n * h n
    rw [sd_congr fun j hj => e j (by omega), e n (by omega)]
theorem sd_mono {p : Pl} {g h : Nat → Int} (hp : ∀ j, 0 ≤ nth p.cf j) : ∀ {n : Nat}, (∀ j, j < n → g j ≤ h j) → sd p g n ≤ sd p h n
  | 0, _ => Int.le_refl _
  | n + 1, e => by
    show sd p g n + nth p.cf n * g n ≤ sd p h n + nth p.cf n * h n
    have h1 := sd_mono hp (n := n) fun j hj => e j (by omega)
    have h2 := Int.mul_le_mul_of_nonneg_left (e n (by omega)) (hp n)
    omega
theorem sd_lt {p : Pl} {g h : Nat → Int} (hp : ∀ j, 0 ≤ nth p.cf j) {i : Nat} (hi : 1 ≤ nth p.cf i) (hlt : g i < h i) : ∀ {n : Nat}, i < n → (∀ j, j < n → g j ≤ h j) → sd p g n < sd p h n
  | 0, hn, _ => by omega
  | n + 1, hn, e => by
    show sd p g n + nth p.cf n * g n < sd p h n + nth p.cf n * h n
    by_cases hin : i = n
    · subst hin
      have h1 := sd_mono hp (n := i) fun j hj => e j (by omega)
      have h2 : nth p.cf i * g i < nth p.cf i * h i := Int.mul_lt_mul_of_pos_left hlt (by omega)
      omega
    · have h1 := sd_lt hp hi hlt (n := n) (by omega) fun j hj => e j (by omega)
      have h2 := Int.mul_le_mul_of_nonneg_left (e n (by omega)) (hp n)
      omega
theorem sd_nonneg {p : Pl} {g : Nat → Int} (hc : 0 ≤ p.c) (hp : ∀ j, 0 ≤ nth p.cf j) : ∀ {n : Nat}, (∀ j, j < n → 0 ≤ g j) → 0 ≤ sd p g n
  | 0, _ => hc
  | n + 1, e => by
    show 0 ≤ sd p g n + nth p.cf n * g n
    have h1 := sd_nonneg hc hp (n := n) fun j hj => e j (by omega)
    have h2 := Int.mul_nonneg (hp n) (e n (by omega))
    omega
mutual
/-- The value of a term. -/
def ev (ps : List Pl) (h : Int → Int) : Tm → Int
  | .node x us => if x < 0 then h x else sd (ps.getD x.toNat ⟨0, []⟩) (nth (evL ps h us)) us.length
def evL (ps : List Pl) (h : Int → Int) : List Tm → List Int
  | [] => []
  | a :: us => ev ps h a :: evL ps h us
end
theorem ev_node (ps : List Pl) (h : Int → Int) (x : Int) (us : List Tm) : ev ps h (.node x us) = if x < 0 then h x else sd (ps.getD x.toNat ⟨0, []⟩) (nth (evL ps h us)) us.length := by rw [ev]
theorem evL_map (ps : List Pl) (h : Int → Int) : ∀ (us : List Tm), evL ps h us = us.map (ev ps h)
  | [] => by rw [evL]; rfl
  | a :: us => by rw [evL, evL_map ps h us]; rfl
theorem nth_evL (ps : List Pl) (h : Int → Int) {us : List Tm} {j : Nat} {a : Tm} (ha : us[j]? = some a) : nth (evL ps h us) j = ev ps h a := by
  unfold nth
  rw [evL_map, List.getD_eq_getElem?_getD, List.getElem?_map, ha]; rfl
/-- What some numbers give for a variable. -/
def hv (vs : List Int) (n : Nat) (x : Int) : Int := if (-x).toNat - 1 < n then nth vs ((-x).toNat - 1) else 0
theorem vsum_var (x : Int) (vs : List Int) : ∀ n : Nat, vsum (varPl x) vs n = if (-x).toNat - 1 < n then nth vs ((-x).toNat - 1) else 0
  | 0 => by rw [if_neg (by omega)]; rfl
  | n + 1 => by
    show vsum (varPl x) vs n + nth (varPl x).cf n * nth vs n = _
    rw [vsum_var x vs n]
    have hc : nth (varPl x).cf n = if n = (-x).toNat - 1 then 1 else 0 := by
      show (List.replicate ((-x).toNat - 1) (0 : Int) ++ [(1 : Int)]).getD n 0 = _
      rw [List.getD_eq_getElem?_getD]
      by_cases h1 : n < (-x).toNat - 1
      · rw [List.getElem?_append_left (by simpa using h1), List.getElem?_replicate, if_pos h1, if_neg (by omega)]; rfl
      · rw [List.getElem?_append_right (by simpa using h1), List.length_replicate]
        by_cases h2 : n = (-x).toNat - 1
        · rw [if_pos h2, h2, Nat.sub_self]; rfl
        · rw [if_neg h2, List.getElem?_eq_none (by simp; omega)]; rfl
    rw [hc]
    by_cases h2 : n = (-x).toNat - 1
    · rw [if_pos h2, if_neg (by omega), if_pos (by omega), ← h2]; omega
    · rw [if_neg h2]
      by_cases h1 : (-x).toNat - 1 < n
      · rw [if_pos h1, if_pos (by omega)]; omega
      · rw [if_neg h1, if_neg (by omega)]; omega
theorem vsum_sumTo {p : Pl} {fs : List Pl} {vs : List Int} {n : Nat} : ∀ {k : Nat}, vsum (sumTo p fs k) vs n = sd p (fun j => vsum (fs.getD j ⟨0, []⟩) vs n) k
  | 0 => vsum_const p.c vs n
  | k + 1 => by
    show vsum (addP (sumTo p fs k) (fs.getD k ⟨0, []⟩) (p.cf.getD k 0)) vs n = _
    rw [vsum_addP, vsum_sumTo]; rfl
theorem appP_some {p : Pl} {fs : List Pl} {f : Pl} (h : appP p fs = some f) : f = sumTo p fs fs.length := by
  unfold appP at h
  split at h
  · cases h
  · cases h; rfl
mutual
/-- A form at some numbers is the value. -/
theorem form_ev {ps : List Pl} {vs : List Int} {n : Nat} : ∀ (u : Tm) {f : Pl}, form ps u = some f → vsum f vs n = ev ps (hv vs n) u
  | .node x us, f, hf => by
    rw [form_node] at hf
    rw [ev_node]
    by_cases hx : x < 0
    · rw [if_pos hx] at hf ⊢
      cases hf
      rw [vsum_var]; rfl
    · rw [if_neg hx] at hf ⊢
      obtain ⟨fs, h1, h2⟩ := Option.bind_eq_some_iff.1 hf
      obtain ⟨h3, h4⟩ := formL_ev us h1
      rw [appP_some h2, vsum_sumTo, h3]
      exact sd_congr fun j hj => h4 j hj
theorem formL_ev {ps : List Pl} {vs : List Int} {n : Nat} : ∀ (us : List Tm) {fs : List Pl}, formL ps us = some fs → fs.length = us.length ∧ ∀ j, j < us.length → vsum (fs.getD j ⟨0, []⟩) vs n = nth (evL ps (hv vs n) us) j
  | [], fs, h => by
    rw [formL_nil] at h; cases h
    exact ⟨rfl, fun j hj => by simp at hj⟩
  | a :: us, fs, h => by
    rw [formL_cons] at h
    obtain ⟨f, h1, h2⟩ := Option.bind_eq_some_iff.1 h
    obtain ⟨gs, h4, rfl⟩ := Option.map_eq_some_iff.1 h2
    obtain ⟨h5, h6⟩ := formL_ev us h4
    refine ⟨by simp [h5], fun j hj => ?_⟩
    cases j with
    | zero =>
      show vsum f vs n = nth (evL ps (hv vs n) (a :: us)) 0
      rw [form_ev a h1, nth_evL ps (hv vs n) (us := a :: us) (j := 0) rfl]
    | succ j =>
      have := h6 j (by simpa using hj)
      rw [evL]
      exact this
end
mutual
theorem ev_congr {ps : List Pl} {h k : Int → Int} : ∀ (u : Tm), (∀ x ∈ u.flat, x < 0 → h x = k x) → ev ps h u = ev ps k u
  | .node x us, e => by
    rw [flat_node] at e
    rw [ev_node, ev_node, evL_congr us fun y hy => e y (List.mem_cons_of_mem _ hy)]
    by_cases hx : x < 0
    · rw [if_pos hx, if_pos hx, e x List.mem_cons_self hx]
    · rw [if_neg hx, if_neg hx]
theorem evL_congr {ps : List Pl} {h k : Int → Int} : ∀ (us : List Tm), (∀ x ∈ flatL us, x < 0 → h x = k x) → evL ps h us = evL ps k us
  | [], _ => by rw [evL, evL]
  | a :: us, e => by
    rw [flatL_cons] at e
    rw [evL, evL, ev_congr a fun y hy => e y (List.mem_append_left _ hy), evL_congr us fun y hy => e y (List.mem_append_right _ hy)]
end
mutual
/-- The value of a term that is filled. -/
theorem ev_sub {ps : List Pl} {h : Int → Int} {g : Int → Tm} : ∀ (u : Tm), ev ps h (u.sub g) = ev ps (fun x => ev ps h (g x)) u
  | .node x us => by
    rw [sub_node, ev_node]
    by_cases hx : x < 0
    · rw [if_pos hx, if_pos hx]
    · rw [if_neg hx, if_neg hx, ev_node, if_neg hx, subL_len, evL_sub us]
theorem evL_sub {ps : List Pl} {h : Int → Int} {g : Int → Tm} : ∀ (us : List Tm), evL ps h (subL g us) = evL ps (fun x => ev ps h (g x)) us
  | [] => by rw [subL_nil, evL, evL]
  | a :: us => by rw [subL_cons, evL, evL, ev_sub a, evL_sub us]
end
/-- No number of the polynomials is negative. -/
def Pos (ps : List Pl) : Prop := ∀ k : Nat, 0 ≤ (ps.getD k ⟨0, []⟩).c ∧ ∀ j, 0 ≤ nth (ps.getD k ⟨0, []⟩).cf j
theorem Sm.pos {ps : List Pl} (h : Sm ps) : Pos ps := fun k => ⟨(h.get k).1.1, fun j => ((h.get k).2 j).1⟩
mutual
theorem ev_nonneg {ps : List Pl} (hp : Pos ps) {h : Int → Int} (hh : ∀ x, 0 ≤ h x) : ∀ (u : Tm), 0 ≤ ev ps h u
  | .node x us => by
    rw [ev_node]
    by_cases hx : x < 0
    · rw [if_pos hx]; exact hh x
    · rw [if_neg hx]
      exact sd_nonneg (hp _).1 (hp _).2 fun j hj => evL_nonneg hp hh us j
theorem evL_nonneg {ps : List Pl} (hp : Pos ps) {h : Int → Int} (hh : ∀ x, 0 ≤ h x) : ∀ (us : List Tm) (j : Nat), 0 ≤ nth (evL ps h us) j
  | [], j => by rw [evL]; simp [nth]
  | a :: us, j => by
    rw [evL]
    cases j with
    | zero => exact ev_nonneg hp hh a
    | succ j => exact evL_nonneg hp hh us j
end
theorem hv_nonneg {vs : List Int} {n : Nat} (h : ∀ k, 0 ≤ nth vs k) (x : Int) : 0 ≤ hv vs n x := by
  unfold hv
  split
  · exact h _
  · exact Int.le_refl _
/-- Compared forms, at numbers. -/
theorem vsum_le {a b : Pl} {vs : List Int} (hb : ∀ j, 0 ≤ nth b.cf j) (hvs : ∀ k, 0 ≤ nth vs k) (h : most a b = true) : ∀ n : Nat, vsum a vs n - a.c ≤ vsum b vs n - b.c
  | 0 => by show a.c - a.c ≤ b.c - b.c; omega
  | n + 1 => by
    have ih := vsum_le hb hvs h n
    have hm : Most a b := by unfold most at h; simpa using h
    have hn : nth a.cf n ≤ nth b.cf n := by
      rcases hj : a.cf[n]? with _ | x
      · have : nth a.cf n = 0 := by unfold nth; rw [List.getD_eq_getElem?_getD, hj]; rfl
        rw [this]; exact hb n
      · have : nth a.cf n = x := by unfold nth; rw [List.getD_eq_getElem?_getD, hj]; rfl
        rw [this]; exact hm n x hj
    have := Int.mul_le_mul_of_nonneg_right hn (hvs n)
    show vsum a vs n + nth a.cf n * nth vs n - a.c ≤ vsum b vs n + nth b.cf n * nth vs n - b.c
    omega
theorem cmp_vals {a b : Pl} {vs : List Int} (hb : ∀ j, 0 ≤ nth b.cf j) (hvs : ∀ k, 0 ≤ nth vs k) (n : Nat) :
    (cmpMost (some a) (some b) = true → vsum a vs n ≤ vsum b vs n) ∧ (cmpLess (some a) (some b) = true → vsum a vs n < vsum b vs n) := by
  unfold cmpMost cmpLess
  simp only [Bool.and_eq_true, decide_eq_true_eq]
  refine ⟨fun h => ?_, fun h => ?_⟩ <;> have := vsum_le hb hvs h.1 n <;> omega

/-- Powers of three. -/
def p3 (n : Nat) : Int := (3 : Int) ^ n
theorem p3_succ (n : Nat) : p3 (n + 1) = 3 * p3 n := by unfold p3; rw [Int.pow_succ]; omega
theorem p3_add (a b : Nat) : p3 (a + b) = p3 a * p3 b := by unfold p3; rw [Int.pow_add]
theorem p3_pos : ∀ n : Nat, 1 ≤ p3 n
  | 0 => by decide
  | n + 1 => by have := p3_pos n; rw [p3_succ]; omega
theorem p3_mono : ∀ {a b : Nat}, a ≤ b → p3 a ≤ p3 b
  | a, 0, h => by obtain rfl : a = 0 := by omega
                  exact Int.le_refl _
  | a, b + 1, h => by
    rcases Nat.lt_or_ge a (b + 1) with h1 | h1
    · have := p3_mono (show a ≤ b by omega)
      have := p3_pos b
      rw [p3_succ]; omega
    · obtain rfl : a = b + 1 := by omega
      exact Int.le_refl _
theorem p3_one {E a : Nat} (ha : 1 ≤ a) : 2 + 2 * p3 (E + a) ≤ p3 (E + (1 + a)) := by
  rw [show E + (1 + a) = (E + a) + 1 by omega, p3_succ]
  have h1 : p3 1 ≤ p3 (E + a) := p3_mono (by omega)
  have h3 : p3 1 = 3 := by decide
  omega
theorem p3_two {E a b : Nat} (ha : 1 ≤ a) (hb : 1 ≤ b) : 2 + 2 * p3 (E + a) + 2 * p3 (E + b) ≤ p3 (E + (1 + (a + b))) := by
  rw [show E + (1 + (a + b)) = (E + a + b) + 1 by omega, p3_succ, p3_add (E + a) b]
  have h3 : p3 1 = 3 := by decide
  have h1 : p3 1 ≤ p3 a := p3_mono ha
  have h2 : p3 1 ≤ p3 b := p3_mono hb
  have h4 : p3 1 ≤ p3 (E + a) := p3_mono (by omega)
  have h5 : p3 (E + a) * 3 ≤ p3 (E + a) * p3 b := Int.mul_le_mul_of_nonneg_left (by omega) (by omega)
  have h6 : 3 * p3 (E + b) ≤ p3 (E + a) * p3 b := by
    rw [p3_add E b, p3_add E a]
    have h7 : p3 E * p3 b * 3 ≤ p3 E * p3 b * p3 a := Int.mul_le_mul_of_nonneg_left (by omega) (Int.mul_nonneg (by have := p3_pos E; omega) (by omega))
    have h8 : p3 E * p3 a * p3 b = p3 E * p3 b * p3 a := by rw [Int.mul_assoc, Int.mul_comm (p3 a), ← Int.mul_assoc]
    omega
  omega
/-- The form is there; its numbers are at most 3 by E and e. -/
def Fu (ps : List Pl) (E : Nat) (u : Tm) (e : Nat) : Prop := 1 ≤ e ∧ ∃ f, form ps u = some f ∧ Upto (p3 (E + e)) f
theorem Fu.mono {ps : List Pl} {E E' e e' : Nat} {u : Tm} (h : Fu ps E u e) (hE : E + e ≤ E' + e') (he : 1 ≤ e') : Fu ps E' u e' := by
  obtain ⟨h1, f, h2, h3⟩ := h
  exact ⟨he, f, h2, h3.mono (p3_mono hE)⟩
theorem fin3 {n : Nat} (h : n ≤ 25) : p3 n ≤ 1000000000000 := Int.le_trans (p3_mono h) (by decide)
/-- A head and its arguments. -/
theorem fu_node {ps : List Pl} (h : Sm ps) {E : Nat} {x : Int} (hx : 0 ≤ x) : ∀ {us : List Tm} {es : List Nat}, us.length ≤ 2 → es.length = us.length → (∀ (j : Nat) (u : Tm) (e : Nat), us[j]? = some u → es[j]? = some e → Fu ps E u e) → E + (1 + es.sum) ≤ 25 → Fu ps E (.node x us) (1 + es.sum)
  | us, es, h2, hl, hf, hs => by
    refine ⟨by omega, ?_⟩
    rw [form_node, if_neg (by omega)]
    have hp := h.get x.toNat
    generalize ps.getD x.toNat ⟨0, []⟩ = p at hp ⊢
    have h0 : Upto 2 ⟨p.c, []⟩ := ⟨hp.1, fun x hx => by cases hx⟩
    have fin := fin3 hs
    match us, es, h2, hl, hf with
    | [], [], _, _, _ =>
      rw [formL_nil]
      have key : Upto (p3 (E + (1 + ([] : List Nat).sum))) ⟨p.c, []⟩ := h0.mono (Int.le_trans (show (2 : Int) ≤ p3 1 by decide) (p3_mono (by omega)))
      refine ⟨⟨p.c, []⟩, ?_, key⟩
      show appP p [] = _
      unfold appP
      exact if_neg (not_big key fin)
    | [a], [e], _, _, hf =>
      obtain ⟨l1, f, e1, u1⟩ := hf 0 a e rfl rfl
      have := addP_upto2 h0 (by omega) u1 (by have := p3_pos (E + e); omega) (hp.2 0)
      have key : Upto (p3 (E + (1 + [e].sum))) (addP ⟨p.c, []⟩ f (p.cf.getD 0 0)) := this.mono (by simpa using p3_one l1)
      refine ⟨_, ?_, key⟩
      rw [formL_cons, formL_nil, e1]
      show appP p [f] = _
      unfold appP
      exact if_neg (not_big key fin)
    | [a, b], [e, e'], _, _, hf =>
      obtain ⟨l1, f, e1, u1⟩ := hf 0 a e rfl rfl
      obtain ⟨l2, g, e2, u2⟩ := hf 1 b e' rfl rfl
      have q1 := p3_pos (E + e)
      have q2 := p3_pos (E + e')
      have := addP_upto2 (addP_upto2 h0 (by omega) u1 (by omega) (hp.2 0)) (by omega) u2 (by omega) (hp.2 1)
      have key : Upto (p3 (E + (1 + [e, e'].sum))) (addP (addP ⟨p.c, []⟩ f (p.cf.getD 0 0)) g (p.cf.getD 1 0)) := this.mono (by simpa using p3_two l1 l2)
      refine ⟨_, ?_, key⟩
      rw [formL_cons, formL_cons, formL_nil, e1, e2]
      show appP p [f, g] = _
      unfold appP
      exact if_neg (not_big key fin)
    | [], _ :: _, _, hl, _ => simp at hl
    | [a], [], _, hl, _ => simp at hl
    | [a], _ :: _ :: _, _, hl, _ => simp at hl
    | [a, b], [], _, hl, _ => simp at hl
    | [a, b], [_], _, hl, _ => simp at hl
    | [a, b], _ :: _ :: _ :: _, _, hl, _ => simp at hl
    | _ :: _ :: _ :: _, _, h2, _, _ => simp at h2
theorem sum_flat : ∀ (us : List Tm), (us.map fun u => u.flat.length).sum = (flatL us).length
  | [] => by rw [flatL_nil]; rfl
  | a :: us => by rw [List.map_cons, List.sum_cons, sum_flat us, flatL_cons, List.length_append]
theorem args_two {x : Int} {us : List Tm} (h1 : arI [2, 1, 0] x = some us.length) (hx : ¬ x < 0) : us.length ≤ 2 := by
  have hx3 : x < 3 := arI_lt h1
  have hx' : x = 0 ∨ x = 1 ∨ x = 2 := by omega
  rcases hx' with rfl | rfl | rfl <;> simp [arI] at h1 <;> omega
mutual
/-- .. of a term that is filled. -/
theorem fu_sub {ps : List Pl} (h : Sm ps) {E : Nat} {g : Int → Tm} : ∀ (u : Tm), u.Ok [2, 1, 0] → (∀ x ∈ u.flat, x < 0 → Fu ps E (g x) 1) → E + u.flat.length ≤ 25 → Fu ps E (u.sub g) u.flat.length
  | .node x us, ho, hg, hl => by
    obtain ⟨h1, h2⟩ := Ok_node.1 ho
    rw [flat_node, List.length_cons] at hl ⊢
    rw [flat_node] at hg
    by_cases hx : x < 0
    · rw [sub_var hx]
      exact (hg x List.mem_cons_self hx).mono (by omega) (by omega)
    · rw [sub_sym hx, Nat.add_comm, ← sum_flat us]
      refine fu_node h (by omega) (by rw [subL_len]; exact args_two h1 hx) (by rw [subL_len, List.length_map]) (fun j u e hu he => ?_) (by rw [sum_flat]; omega)
      rw [List.getElem?_map] at he
      obtain ⟨v, hv, rfl⟩ := Option.map_eq_some_iff.1 he
      rw [subL_map, List.getElem?_map, hv] at hu
      cases hu
      exact fuL_sub h us h2 (fun y hy => hg y (List.mem_cons_of_mem _ hy)) (by omega) v (List.mem_of_getElem? hv)
theorem fuL_sub {ps : List Pl} (h : Sm ps) {E : Nat} {g : Int → Tm} : ∀ (us : List Tm), OkL [2, 1, 0] us → (∀ x ∈ flatL us, x < 0 → Fu ps E (g x) 1) → E + (flatL us).length ≤ 25 → ∀ v ∈ us, Fu ps E (v.sub g) v.flat.length
  | [], _, _, _, v, hv => by cases hv
  | a :: us, ho, hg, hl, v, hv => by
    obtain ⟨h1, h2⟩ := OkL_cons.1 ho
    rw [flatL_cons] at hg hl
    rw [List.length_append] at hl
    rcases List.mem_cons.1 hv with e | hv
    · rw [e]; exact fu_sub h a h1 (fun y hy => hg y (List.mem_append_left _ hy)) (by omega)
    · exact fuL_sub h us h2 (fun y hy => hg y (List.mem_append_right _ hy)) (by omega) v hv
end
mutual
theorem sub_self {ar : List Int} : ∀ (u : Tm), u.Ok ar → u.sub (fun x => .node x []) = u
  | .node x us, ho => by
    obtain ⟨h1, h2⟩ := Ok_node.1 ho
    by_cases hx : x < 0
    · rw [arI_var hx] at h1
      have e : us = [] := List.length_eq_zero_iff.1 (Option.some.inj h1).symm
      subst e
      rw [sub_var hx]
    · rw [sub_sym hx, subL_self us h2]
theorem subL_self {ar : List Int} : ∀ (us : List Tm), OkL ar us → subL (fun x => .node x []) us = us
  | [], _ => by rw [subL_nil]
  | a :: us, ho => by
    obtain ⟨h1, h2⟩ := OkL_cons.1 ho
    rw [subL_cons, sub_self a h1, subL_self us h2]
end
theorem fu_var {ps : List Pl} {x : Int} (hx : x < 0) : Fu ps 0 (.node x []) 1 :=
  ⟨Nat.le_refl _, varPl x, by rw [form_node, if_pos hx], varPl_upto.mono (by decide)⟩
/-- .. of any term. -/
theorem fu_self {ps : List Pl} (h : Sm ps) {u : Tm} (ho : u.Ok [2, 1, 0]) (hl : u.flat.length ≤ 25) : Fu ps 0 u u.flat.length := by
  have := fu_sub h (E := 0) (g := fun x => .node x []) u ho (fun x _ hx => fu_var hx) (by omega)
  rwa [sub_self u ho] at this
/-- How many variables a form has. -/
def lenV (m : Nat) (f : Pl) : Prop := f.cf.length ≤ m
mutual
theorem form_len {ps : List Pl} {m : Nat} : ∀ (u : Tm), (∀ x ∈ u.flat, -(m : Int) ≤ x) → ∀ {f : Pl}, form ps u = some f → f.cf.length ≤ m
  | .node x us, hv, f, hf => by
    rw [form_node] at hf
    rw [flat_node] at hv
    by_cases hx : x < 0
    · rw [if_pos hx] at hf
      cases hf
      have := hv x List.mem_cons_self
      simp only [varPl, List.length_append, List.length_replicate, List.length_singleton]
      omega
    · rw [if_neg hx] at hf
      obtain ⟨fs, h1, h2⟩ := Option.bind_eq_some_iff.1 hf
      have hfs := formL_len us (fun y hy => hv y (List.mem_cons_of_mem _ hy)) h1
      rw [appP_some h2]
      have : ∀ k, (sumTo (ps.getD x.toNat ⟨0, []⟩) fs k).cf.length ≤ m := by
        intro k
        induction k with
        | zero => simp [sumTo]
        | succ k ih =>
          have h9 : (fs.getD k ⟨0, []⟩).cf.length ≤ m := by
            rw [List.getD_eq_getElem?_getD]
            rcases hk : fs[k]? with _ | f
            · exact Nat.zero_le _
            · exact hfs f (List.mem_of_getElem? hk)
          show (addL _ _ _).length ≤ m
          rw [addL_len]
          omega
      exact this _
theorem formL_len {ps : List Pl} {m : Nat} : ∀ (us : List Tm), (∀ x ∈ flatL us, -(m : Int) ≤ x) → ∀ {fs : List Pl}, formL ps us = some fs → ∀ f ∈ fs, f.cf.length ≤ m
  | [], _, fs, h => by rw [formL_nil] at h; cases h; intro f hf; cases hf
  | a :: us, hv, fs, h => by
    rw [flatL_cons] at hv
    rw [formL_cons] at h
    obtain ⟨f, h1, h2⟩ := Option.bind_eq_some_iff.1 h
    obtain ⟨gs, h4, rfl⟩ := Option.map_eq_some_iff.1 h2
    intro q hq
    rcases List.mem_cons.1 hq with rfl | hq
    · exact form_len a (fun y hy => hv y (List.mem_append_left _ hy)) h1
    · exact formL_len us (fun y hy => hv y (List.mem_append_right _ hy)) h4 q hq
end
/-- .. upwards. -/
theorem ev_up {ps : List Pl} (hp : Pos ps) {h : Int → Int} {x : Int} {ls bs : List Tm} {a b : Tm} (hx : 0 ≤ x) (hab : ev ps h b ≤ ev ps h a) : ev ps h (.node x (ls ++ b :: bs)) ≤ ev ps h (.node x (ls ++ a :: bs)) ∧ (1 ≤ nth (ps.getD x.toNat ⟨0, []⟩).cf ls.length → ev ps h b < ev ps h a → ev ps h (.node x (ls ++ b :: bs)) < ev ps h (.node x (ls ++ a :: bs))) := by
  rw [ev_node, ev_node, if_neg (by omega), if_neg (by omega)]
  have hb : nth (evL ps h (ls ++ b :: bs)) ls.length = ev ps h b := nth_evL ps h (by rw [List.getElem?_append_right (Nat.le_refl _), Nat.sub_self]; rfl)
  have ha : nth (evL ps h (ls ++ a :: bs)) ls.length = ev ps h a := nth_evL ps h (by rw [List.getElem?_append_right (Nat.le_refl _), Nat.sub_self]; rfl)
  have hj : ∀ j, j ≠ ls.length → nth (evL ps h (ls ++ b :: bs)) j = nth (evL ps h (ls ++ a :: bs)) j := by
    intro j hj
    have e : ∀ c : Tm, (ls ++ c :: bs)[j]? = if j < ls.length then ls[j]? else bs[j - ls.length - 1]? := by
      intro c
      by_cases h1 : j < ls.length
      · rw [if_pos h1, List.getElem?_append_left h1]
      · rw [if_neg h1, List.getElem?_append_right (by omega), show j - ls.length = (j - ls.length - 1) + 1 by omega]; rfl
    unfold nth
    rw [evL_map, evL_map, List.getD_eq_getElem?_getD, List.getD_eq_getElem?_getD, List.getElem?_map, List.getElem?_map, e, e]
  have hall : ∀ j, j < (ls ++ b :: bs).length → nth (evL ps h (ls ++ b :: bs)) j ≤ nth (evL ps h (ls ++ a :: bs)) j := by
    intro j _
    by_cases e : j = ls.length
    · subst e; rw [ha, hb]; exact hab
    · rw [hj j e]; exact Int.le_refl _
  have hlen : (ls ++ a :: bs).length = (ls ++ b :: bs).length := by simp
  rw [hlen]
  exact ⟨sd_mono (hp _).2 hall, fun h1 h2 => sd_lt (hp _).2 h1 (by rw [ha, hb]; exact h2) (by simp) hall⟩

/-! Rows of polynomials put one behind the other. -/
/-- The cells of some polynomials, their factors off the dice. -/
def FlP (w : World) (g : Nat) (ps : List Pl) (us : List Value) : Prop := us.length = ps.length * 2 ∧ ∀ (j : Nat) (p : Pl), ps[j]? = some p → us[j * 2]? = some (.int .i64 p.c) ∧ ∃ A' m' c', us[j * 2 + 1]? = some (.slice A' m' c') ∧ RIg w g A' m' p.cf
section
variable {w w' : World} {g n : Nat} {A : Option Addr} {ps qs : List Pl} {us vs : List Value}
theorem FlP.ext (h : FlP w g ps us) (k : Ext w w') : FlP w' g ps us := ⟨h.1, fun j p hp => by
  obtain ⟨h1, A', m', c', h2, h3⟩ := h.2 j p hp
  exact ⟨h1, A', m', c', h2, h3.ext k⟩⟩
theorem FlP.nil : FlP w g [] [] := ⟨rfl, fun j p h => by simp at h⟩
theorem FlP.append (h : FlP w g ps us) (h' : FlP w g qs vs) : FlP w g (ps ++ qs) (us ++ vs) := by
  refine ⟨by rw [List.length_append, List.length_append, h.1, h'.1]; omega, fun j p hp => ?_⟩
  have hl := h.1
  rcases Nat.lt_or_ge j ps.length with hj | hj
  · rw [List.getElem?_append_left hj] at hp
    obtain ⟨h1, A', m', c', h2, h3⟩ := h.2 j p hp
    exact ⟨by rw [List.getElem?_append_left (by omega)]; exact h1, A', m', c', by rw [List.getElem?_append_left (by omega)]; exact h2, h3⟩
  · rw [List.getElem?_append_right hj] at hp
    obtain ⟨h1, A', m', c', h2, h3⟩ := h'.2 (j - ps.length) p hp
    refine ⟨?_, A', m', c', ?_, h3⟩
    · rw [List.getElem?_append_right (by omega), show j * 2 - us.length = (j - ps.length) * 2 by omega]; exact h1
    · rw [List.getElem?_append_right (by omega), show j * 2 + 1 - us.length = (j - ps.length) * 2 + 1 by omega]; exact h2
theorem FlP.one (h : FlP w g ps us) : ∀ u ∈ us, u.oneCell' = true := by
  intro u hu
  obtain ⟨i, hi, rfl⟩ := List.mem_iff_getElem.1 hu
  have hl := h.1
  obtain ⟨h1, A', m', c', h2, _⟩ := h.2 (i / 2) ps[i / 2] (List.getElem?_eq_getElem (by omega))
  have e := List.getElem?_eq_getElem hi
  rcases (show i = i / 2 * 2 ∨ i = i / 2 * 2 + 1 by omega) with h3 | h3
  · rw [← h3, e] at h1
    rw [Option.some.inj h1]
    exact two_one ps[i / 2].c none 0 0 _ List.mem_cons_self
  · rw [← h3, e] at h2
    rw [Option.some.inj h2]
    exact two_one 0 A' m' c' _ (List.mem_cons_of_mem _ (List.mem_singleton.2 rfl))
theorem RPg.fl (h : RPg w g A n ps) : ∃ b o us, A = some ⟨b, o, none⟩ ∧ FlP w g ps us ∧ ∀ j u, us[j]? = some u → w.cell? ⟨b, o + j, none⟩ = some u := by
  obtain ⟨h1, b, o, e, _, hc⟩ := h
  have hget : ∀ j, j < ps.length * 2 → ((List.range (ps.length * 2)).map fun j => (w.cell? ⟨b, o + j, none⟩).getD undef)[j]? = some ((w.cell? ⟨b, o + j, none⟩).getD undef) := fun j hj => by
    rw [List.getElem?_map, List.getElem?_range hj]; rfl
  refine ⟨b, o, (List.range (ps.length * 2)).map fun j => (w.cell? ⟨b, o + j, none⟩).getD undef, e, ⟨by simp, fun j p hp => ?_⟩, fun j u hu => ?_⟩
  · have hj := (List.getElem?_eq_some_iff.1 hp).1
    obtain ⟨h2, A', m', c', h3, h4⟩ := hc j p hp
    refine ⟨by rw [hget _ (by omega), h2]; rfl, A', m', c', ?_, h4⟩
    rw [hget _ (by omega), ← Nat.add_assoc, h3]; rfl
  · have hj : j < ps.length * 2 := by have := (List.getElem?_eq_some_iff.1 hu).1; simpa using this
    rw [hget j hj] at hu
    obtain ⟨h2, A', m', c', h3, _⟩ := hc (j / 2) ps[j / 2] (List.getElem?_eq_getElem (by omega))
    rcases (show j = j / 2 * 2 ∨ j = j / 2 * 2 + 1 by omega) with h5 | h5
    · rw [← h5] at h2
      rw [h2] at hu ⊢
      exact hu
    · rw [Nat.add_assoc, ← h5] at h3
      rw [h3] at hu ⊢
      exact hu
theorem RPg.of {D c : Nat} (h : w.ownsRow D 38 2 (.slice A n c) n us) (hf : FlP w g ps us) (hn : ps.length = n) (h0 : 0 < n) (h4 : n ≤ 4194304) (hg : g < D) : RPg w g A n ps := by
  obtain ⟨b, cap, hv, hb, hbl⟩ := World.ownsRow.form h h0
  cases hv
  refine ⟨⟨hn, h4⟩, b, 0, rfl, by omega, fun j p hp => ?_⟩
  have hj := (List.getElem?_eq_some_iff.1 hp).1
  obtain ⟨h1, A', m', c', h2, h3⟩ := hf.2 j p hp
  refine ⟨?_, A', m', c', ?_, h3⟩
  · rw [Nat.zero_add, World.ownsRow.cellAt h (j * 2) (by omega)]; exact h1
  · rw [Nat.zero_add, World.ownsRow.cellAt h (j * 2 + 1) (by omega)]; exact h2
end
/-- Polynomials are appended. -/
theorem wpList_append_polys {P : Program} {w : World} {ops : Array Oper} {rest : List Oper} {o : Oper} {a : Act} {Q : Exit → Act → World → Prop} (hgd : o.guard = none) (s x : Operand) (t : TypeId)
    (ho : o.op = .call { callee := .builtin .append, args := #[s, x], argTypes := #[t, t] }) (i : TypeInfo) (ht : P.underlying t = some (.slice 38)) (hi : P.info? 38 = some i) (hz : i.zero = some (.agg #[.int .i64 0, .slice none 0 0]))
    (hsize : i.size = 2) (hby : i.bytes = 32) {D n c m d b q : Nat} {A : Option Addr} {vs us : List Value} (hs : a.eval s = .slice A n c) (h : w.ownsRow D 38 2 (.slice A n c) n vs) (hx : a.eval x = .slice (some ⟨b, q, none⟩) m d) (hl : us.length = m * 2)
    (hc : ∀ j u, us[j]? = some u → w.cell? ⟨b, q + j, none⟩ = some u) (hone : ∀ u ∈ us, u.oneCell' = true) (hm : 0 < m) (hnm : n + m ≤ 1000) (hD : D ≤ w.heap.size)
    (hK : ∀ A' c' w', w'.ownsRow D 38 2 (.slice A' (n + m) c') (n + m) (vs ++ us) → w.grownBy w' (Value.slice A n c).ownBlock → wpList P ops Q rest (a.put o.dst (.slice A' (n + m) c')) w') : wpList P ops Q (o :: rest) a w := by
  refine wpList_append_lies w hgd s x t ho D 38 i (.agg #[.int .i64 0, .slice none 0 0]) 2 32 ht hi hz hsize hby rfl (by decide) _ n _ hs h ⟨b, q, none⟩ m d us hx hl (fun j u hu => ?_) hone hm (by unfold maxLen; omega) (by omega) hD _ rfl (fun g cap w' h2 h3 h4 h5 => hK _ cap w' h2 h3)
  have : (⟨b, q, none⟩ : Addr).add j = ⟨b, q + j, none⟩ := by unfold Addr.add; split <;> simp_all
  rw [this]; exact hc j u hu

end Go.Proofs.Ytljbjabgdalabaa
