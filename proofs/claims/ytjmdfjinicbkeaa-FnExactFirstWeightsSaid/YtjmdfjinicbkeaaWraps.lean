/- A variable inside of symbols without weight; subterms. -/
import Derived.Test.YtjmdfjinicbkeaaParts
import Derived.Test.YtjmdfjinicbkeaaWeigh
-- rd: RdWt
namespace Go.Proofs.Ytjmdfjinicbkeaa
open Go.RowKit
set_option linter.unusedSimpArgs false
set_option linter.unusedVariables false

set_option maxHeartbeats 1000000 in
theorem c_subAt {v0 v1 : Value} {ar t rest : List Int} {p : Nat} {u : Tm} {w : World} (h0 : RdSig w v0 ar) (h1 : RdIc w v1 t) (hs : SigP ar) (hu : u.Ok ar) (hd : t.drop p = u.flat ++ rest) :
    Calls Try.prog 157 #[v0, v1, .int .i64 (p : Int)] w fun e w' => ∃ A n c, e = .returned (.slice A n c) ∧ (n ≤ c ∧ c ≤ 9223372036854775807) ∧ RI w' A n u.flat ∧ Ext w w' := by
  obtain ⟨A, n, c, rfl, ha⟩ := h0
  obtain ⟨B, m, d, rfl, ⟨hmd, hd0⟩, hb⟩ := h1
  have hm := hb.le
  have hml := hb.len
  have hpl := drop_lt hd (flat_pos u)
  have hul := flat_pos u
  obtain ⟨b, o, x, rfl, hx, hcx⟩ := RI.at_ hb (show 0 < m by omega)
  have HSUB := Lib.hid (RI.sub hb hd)
  have HA := Lib.hid ha
  have HB := Lib.hid hb
  have HS := Lib.hid hs
  have HU := Lib.hid hu
  have HD := Lib.hid hd
  have hpm : p + u.flat.length ≤ m := by omega
  clear ha hb hs hu hd hx
  go_enter Try.func157, Try.ntmps157
  go_wp2_with (go_at_call 148; (with_reducible refine (c_endAt_flat (u := u) (RdSig.mk (RI.ext HA.out (by exact extX))) (RdI.mk (RI.ext HB.out (by exact extX))) HS.out HU.out HD.out).mono ?_); rintro e w2 ⟨rfl, hE2⟩)
  go_ret
  exact ⟨_, _, _, rfl, ⟨by omega, by omega⟩, by rw [show p + u.flat.length - p = u.flat.length by omega]; exact RI.ext HSUB.out (by exact extX), by exact extX⟩
theorem c_subAt' {v0 v1 : Value} {ar t rest : List Int} {p : Nat} {P : Int} {u : Tm} {w : World} (h0 : RdSig w v0 ar) (h1 : RdIc w v1 t) (hs : SigP ar) (hu : u.Ok ar) (hd : t.drop p = u.flat ++ rest) (hP : P = (p : Int)) :
    Calls Try.prog 157 #[v0, v1, .int .i64 P] w fun e w' => ∃ A n c, e = .returned (.slice A n c) ∧ (n ≤ c ∧ c ≤ 9223372036854775807) ∧ RI w' A n u.flat ∧ Ext w w' := by
  subst hP; exact c_subAt h0 h1 hs hu hd
set_option maxHeartbeats 1000000 in
theorem c_wraps {v0 v1 v3 : Value} {ar t : List Int} {W : Wt} {v : Int} {w : World} (h0 : RdWt w v0 W) (h1 : RdSig w v1 ar) (h3 : RdIc w v3 t) (hne : 1 ≤ t.length) (hlt : ∀ x ∈ t, x < ar.length) (hsl : W.sym.length = ar.length) :
    Calls Try.prog 126 #[v0, v1, .int .i64 v, v3] w fun e w' => e = .returned (.bool (wraps ar W v t)) ∧ Ext w w' := by
  obtain ⟨S, n, c, R, q, d, rfl, ha, hr⟩ := h0
  obtain ⟨A, k, l, rfl, hb⟩ := h1
  obtain ⟨D, m, f, rfl, ⟨hmd, hd0⟩, hd⟩ := h3
  have hm := hd.le
  have hml := hd.len
  obtain ⟨b, o, x, rfl, hx, hcx⟩ := RI.at_ hd (show 0 < m by omega)
  have HA := Lib.hid ha
  have HB := Lib.hid hb
  have HD := Lib.hid hd
  have hkn : k = n := by rw [← ha.len, ← hb.len, hsl]
  subst hkn
  have HL := Lib.hid hlt
  have HN := Lib.hid hb.len
  have HM := Lib.hid hml
  clear ha hb hd hlt hr hx hcx hsl hml
  have hm1 : 1 ≤ m := by rw [← HM.out]; exact hne
  clear hne
  obtain ⟨m1, rfl⟩ : ∃ m1, m = m1 + 1 := ⟨m - 1, by omega⟩
  go_enter Try.func126, Try.ntmps126
  go_wp2_with fail
  obtain ⟨wo, hwo⟩ : ∃ wo, wo = (w.alloc (.cells #[.int .i64 W.var, .slice S k c, .slice R q d] 48)).alloc (.cells #[.slice A k l] 31) := ⟨_, rfl⟩
  have hb1 : wo.cell? ⟨w.heap.size, 1, none⟩ = some (.slice S k c) := by rw [hwo]; simp [go_sem]
  have hb2 : wo.cell? ⟨w.heap.size + 1, 0, none⟩ = some (.slice A k l) := by rw [hwo]; simp [go_sem]
  have hEo : Ext w wo := by rw [hwo]; exact extX
  rw [← hwo]
  clear hwo
  go_loop [19] (fun i => ∃ j : Nat, i = .int .i64 j ∧ j ≤ m1 ∧ Hid (∀ (i : Nat) (x : Int), i < j → t[i]? = some x → WrAt ar W x)) (fun i => m1 - (intOf i).toNat)
  case atStart => exact ⟨0, rfl, Nat.zero_le _, Lib.hid fun i x hi => by omega⟩
  case round =>
    obtain ⟨j, rfl, hj, hp⟩ := hrel
    by_cases hlt : j < m1
    · obtain ⟨b', o', z, e', hz, hcz⟩ := RI.at_ (RI.ext HD.out hEo) (show j < m1 + 1 by omega)
      cases e'
      have hzl := HL.out z (List.mem_of_getElem? hz)
      rw [HN.out] at hzl
      have HZ := Lib.hid hz
      clear hz
      have hlt' : (j : Int) < (m1 : Int) := by omega
      by_cases h0 : z < 0
      · have HR := Lib.hid (wraps_at (v := v) (by rw [HM.out]; omega) HZ.out (fun h : WrAt ar W z => absurd h.1 (by omega)))
        go_wp2
        go_ret
        exact ⟨ret_bool HR.out.symm, by exact extX⟩
      · obtain ⟨z0, rfl⟩ := Int.eq_ofNat_of_zero_le (show 0 ≤ z by omega)
        have hzn : z0 < k := by omega
        obtain ⟨b2, o2, a, rfl, ha, hca⟩ := RI.at_ (RI.ext HB.out hEo) hzn
        obtain ⟨b3, o3, s, rfl, hs, hcs⟩ := RI.at_ (RI.ext HA.out hEo) hzn
        have HAA := Lib.hid ha
        have HSS := Lib.hid hs
        clear ha hs
        have hzi : (z0 : Int) < (k : Int) := by omega
        rcases ha1 : (a != 1) with _ | _
        · rcases hs0 : (s != 0) with _ | _
          · have HW := Lib.hid (show WrAt ar W (z0 : Int) from ⟨by omega, by rw [Int.toNat_natCast, HAA.out]; simpa using ha1, by rw [Int.toNat_natCast, HSS.out]; simpa using hs0⟩)
            go_wp2
            go_round
            case rel =>
              refine ⟨j + 1, by go_num, by omega, Lib.hid fun i x hi hx => ?_⟩
              rcases Nat.lt_or_ge i j with h | h
              · exact hp.out i x h hx
              · obtain rfl : i = j := by omega
                rw [HZ.out] at hx; cases hx; exact HW.out
            case measure => simp only [intOf]; omega
          · have HR := Lib.hid (wraps_at (v := v) (by rw [HM.out]; omega) HZ.out (fun h : WrAt ar W (z0 : Int) => by have := h.2.2; rw [Int.toNat_natCast, HSS.out] at this; cases this; simp at hs0))
            go_wp2
            go_ret
            exact ⟨ret_bool HR.out.symm, by exact extX⟩
        · have HR := Lib.hid (wraps_at (v := v) (by rw [HM.out]; omega) HZ.out (fun h : WrAt ar W (z0 : Int) => by have := h.2.1; rw [Int.toNat_natCast, HAA.out] at this; cases this; simp at ha1))
          go_wp2
          go_ret
          exact ⟨ret_bool HR.out.symm, by exact extX⟩
    · have hjm : j = m1 := by omega
      subst hjm
      by_cases h0 : j = 0
      · subst h0
        have HR := Lib.hid (wraps_f (ar := ar) (W := W) (v := v) (t := t) fun h => absurd h.2.1 (by rw [HM.out]; omega))
        go_wp2
        go_ret
        exact ⟨ret_bool HR.out.symm, by exact extX⟩
      · obtain ⟨b', o', z, e', hz, hcz⟩ := RI.at_ (RI.ext HD.out hEo) (show j < j + 1 by omega)
        cases e'
        have HZ := Lib.hid hz
        clear hz
        have HL1 := Lib.hid (show t.length - 1 = j by rw [HM.out]; omega)
        have hj0 : (0 : Int) < (j : Int) := by omega
        have hj1 : (j : Int) < (j : Int) + 1 := by omega
        have hjj : ¬ (j : Int) < (j : Int) := by omega
        by_cases hzv : z = v
        · have HR := Lib.hid (wraps_t (ar := ar) (W := W) (v := v) (t := t) ⟨fun i x hi hx => hp.out i x (by rw [HM.out] at hi; omega) hx, by rw [HM.out]; omega, by rw [HL1.out, HZ.out, hzv]⟩)
          have hzz : (z == v) = true := by simpa using hzv
          go_wp2
          all_goals first
            | (exfalso; omega)
            | (go_ret; exact ⟨ret_bool HR.out.symm, by exact extX⟩)
        · have HR := Lib.hid (wraps_f (ar := ar) (W := W) (v := v) (t := t) fun h => hzv (by have := h.2.2; rw [HL1.out, HZ.out] at this; injection this))
          have hzz : (z == v) = false := by simpa using hzv
          go_wp2
          all_goals first
            | (exfalso; omega)
            | (go_ret; exact ⟨ret_bool HR.out.symm, by exact extX⟩)
set_option maxHeartbeats 1000000 in
theorem c_l14Wrapped {v0 v1 v3 : Value} {ar t : List Int} {W : Wt} {v : Int} {w : World} (h1 : RdSig w v1 ar) (h0 : RdWt w v0 W) (h3 : RdI w v3 t) (hne : 1 ≤ t.length) (hlt : ∀ x ∈ t, x < ar.length) (hsl : W.sym.length = ar.length) :
    Calls Try.prog 177 #[v1, v0, .int .i64 v, v3] w fun e w' => e = .returned (.bool (wraps ar W v t)) ∧ Ext w w' := by
  obtain ⟨S, n, c, R, q, d, rfl, ha, hr⟩ := h0
  obtain ⟨A, k, l, rfl, hb⟩ := h1
  obtain ⟨D, m, f, rfl, hd⟩ := h3
  have hm := hd.le
  have hml := hd.len
  obtain ⟨b, o, x, rfl, hx, hcx⟩ := RI.at_ hd (show 0 < m by omega)
  have HA := Lib.hid ha
  have HB := Lib.hid hb
  have HD := Lib.hid hd
  have hkn : k = n := by rw [← ha.len, ← hb.len, hsl]
  subst hkn
  have HL := Lib.hid hlt
  have HN := Lib.hid hb.len
  have HM := Lib.hid hml
  clear ha hb hd hlt hr hx hcx hsl hml
  have hm1 : 1 ≤ m := by rw [← HM.out]; exact hne
  clear hne
  obtain ⟨m1, rfl⟩ : ∃ m1, m = m1 + 1 := ⟨m - 1, by omega⟩
  go_enter Try.func177, Try.ntmps177
  go_wp2_with fail
  obtain ⟨wo, hwo⟩ : ∃ wo, wo = (w.alloc (.cells #[.slice A k l] 31)).alloc (.cells #[.int .i64 W.var, .slice S k c, .slice R q d] 48) := ⟨_, rfl⟩
  have hb1 : wo.cell? ⟨w.heap.size + 1, 1, none⟩ = some (.slice S k c) := by rw [hwo]; simp [go_sem]
  have hb2 : wo.cell? ⟨w.heap.size, 0, none⟩ = some (.slice A k l) := by rw [hwo]; simp [go_sem]
  have hEo : Ext w wo := by rw [hwo]; exact extX
  rw [← hwo]
  clear hwo
  go_loopw [9] (fun i wr => ∃ j : Nat, i = .int .i64 j ∧ j ≤ m1 ∧ Hid (∀ (i : Nat) (x : Int), i < j → t[i]? = some x → WrAt ar W x) ∧ Ext wo wr) (fun i _ => m1 - (intOf i).toNat)
  case atStart => exact ⟨0, rfl, Nat.zero_le _, Lib.hid fun i x hi => by omega, by exact extX⟩
  case round =>
    obtain ⟨j, rfl, hj, hp, hE⟩ := hrel
    have hr1 : wr.cell? ⟨w.heap.size + 1, 1, none⟩ = some (.slice S k c) := Ext.keep hE hb1
    have hr2 : wr.cell? ⟨w.heap.size, 0, none⟩ = some (.slice A k l) := Ext.keep hE hb2
    have hEw : Ext w wr := by exact extX
    by_cases hlt : j < m1
    · obtain ⟨b', o', z, e', hz, hcz⟩ := RI.at_ (RI.ext HD.out hEw) (show j < m1 + 1 by omega)
      cases e'
      have hzl := HL.out z (List.mem_of_getElem? hz)
      rw [HN.out] at hzl
      have HZ := Lib.hid hz
      clear hz
      have hlt' : (j : Int) < (m1 : Int) := by omega
      have hji0 : (j : Int) < (m1 : Int) + 1 := by omega
      by_cases h0 : z < 0
      · have HR := Lib.hid (wraps_at (v := v) (by rw [HM.out]; omega) HZ.out (fun h : WrAt ar W z => absurd h.1 (by omega)))
        have hd0 : decide (z < 0) = true := by simpa using h0
        go_wp2_with fail
        go_quiet (fail)
        go_wp2
        go_ret
        exact ⟨ret_bool HR.out.symm, by exact extX⟩
      · obtain ⟨z0, rfl⟩ := Int.eq_ofNat_of_zero_le (show 0 ≤ z by omega)
        have hzn : z0 < k := by omega
        obtain ⟨b2, o2, a, rfl, ha, hca⟩ := RI.at_ (RI.ext HB.out hEw) hzn
        obtain ⟨b3, o3, s, rfl, hs, hcs⟩ := RI.at_ (RI.ext HA.out hEw) hzn
        have HAA := Lib.hid ha
        have HSS := Lib.hid hs
        clear ha hs
        have hzi : (z0 : Int) < (k : Int) := by omega
        have hd0 : decide ((z0 : Int) < 0) = false := by simp
        have hji : (j : Int) < (m1 : Int) + 1 := by omega
        rcases ha1 : (a != 1) with _ | _
        · rcases hs0 : (s != 0) with _ | _
          · have HW := Lib.hid (show WrAt ar W (z0 : Int) from ⟨by omega, by rw [Int.toNat_natCast, HAA.out]; simpa using ha1, by rw [Int.toNat_natCast, HSS.out]; simpa using hs0⟩)
            go_wp2_with fail
            go_quiet (fail)
            go_wp2
            go_roundw
            case rel =>
              refine ⟨j + 1, by go_num, by omega, Lib.hid fun i x hi hx => ?_, by exact extX⟩
              rcases Nat.lt_or_ge i j with h | h
              · exact hp.out i x h hx
              · obtain rfl : i = j := by omega
                rw [HZ.out] at hx; cases hx; exact HW.out
            case measure => simp only [intOf]; omega
          · have HR := Lib.hid (wraps_at (v := v) (by rw [HM.out]; omega) HZ.out (fun h : WrAt ar W (z0 : Int) => by have := h.2.2; rw [Int.toNat_natCast, HSS.out] at this; cases this; simp at hs0))
            go_wp2_with fail
            go_quiet (fail)
            go_wp2
            go_ret
            exact ⟨ret_bool HR.out.symm, by exact extX⟩
        · have HR := Lib.hid (wraps_at (v := v) (by rw [HM.out]; omega) HZ.out (fun h : WrAt ar W (z0 : Int) => by have := h.2.1; rw [Int.toNat_natCast, HAA.out] at this; cases this; simp at ha1))
          go_wp2_with fail
          go_quiet (fail)
          go_wp2
          go_ret
          exact ⟨ret_bool HR.out.symm, by exact extX⟩
    · have hjm : j = m1 := by omega
      subst hjm
      by_cases h0 : j = 0
      · subst h0
        have HR := Lib.hid (wraps_f (ar := ar) (W := W) (v := v) (t := t) fun h => absurd h.2.1 (by rw [HM.out]; omega))
        go_wp2
        go_ret
        exact ⟨ret_bool HR.out.symm, by exact extX⟩
      · obtain ⟨b', o', z, e', hz, hcz⟩ := RI.at_ (RI.ext HD.out hEw) (show j < j + 1 by omega)
        cases e'
        have HZ := Lib.hid hz
        clear hz
        have HL1 := Lib.hid (show t.length - 1 = j by rw [HM.out]; omega)
        have hj0 : (0 : Int) < (j : Int) := by omega
        have hj1 : (j : Int) < (j : Int) + 1 := by omega
        have hjj : ¬ (j : Int) < (j : Int) := by omega
        by_cases hzv : z = v
        · have HR := Lib.hid (wraps_t (ar := ar) (W := W) (v := v) (t := t) ⟨fun i x hi hx => hp.out i x (by rw [HM.out] at hi; omega) hx, by rw [HM.out]; omega, by rw [HL1.out, HZ.out, hzv]⟩)
          have hzz : (z == v) = true := by simpa using hzv
          go_wp2
          all_goals first
            | (exfalso; omega)
            | (go_ret; exact ⟨ret_bool HR.out.symm, by exact extX⟩)
        · have HR := Lib.hid (wraps_f (ar := ar) (W := W) (v := v) (t := t) fun h => hzv (by have := h.2.2; rw [HL1.out, HZ.out] at this; injection this))
          have hzz : (z == v) = false := by simpa using hzv
          go_wp2
          all_goals first
            | (exfalso; omega)
            | (go_ret; exact ⟨ret_bool HR.out.symm, by exact extX⟩)

end Go.Proofs.Ytjmdfjinicbkeaa
