import Derived.Test.YtjmdfjinicbkeaaTermOk
import Derived.Test.YtjmdfjinicbkeaaMOften
namespace Go.Proofs.Ytjmdfjinicbkeaa
open Go.RowKit
set_option linter.unusedSimpArgs false
set_option linter.unusedVariables false

set_option maxHeartbeats 400000 in
theorem c_countIn {v : Value} {t : List Int} {x : Int} {w : World} (h0 : RdI w v t) :
    Calls Try.prog 155 #[v, .int .i64 x] w fun e w' => e = .returned (.int .i64 (t.count x)) ∧ w = w' := by
  obtain ⟨A, n, c, rfl, ha⟩ := h0
  have hn := ha.le
  have hl := ha.len
  have HA := Lib.hid ha
  have HL := Lib.hid hl
  clear ha hl
  go_enter Try.func155, Try.ntmps155
  go_wp2
  go_loop [5, 10] (fun a i => ∃ k : Nat, i = .int .i64 k ∧ k ≤ n ∧ ∃ q : Nat, a = .int .i64 q ∧ q ≤ k ∧ Hid (q = (t.take k).count x)) (fun _ i => n - (intOf i).toNat)
  case atStart => exact ⟨0, rfl, Nat.zero_le _, 0, rfl, Nat.le_refl _, Lib.hid (by simp)⟩
  case round =>
    obtain ⟨k, rfl, hk, q, rfl, hqk, hy⟩ := hrel
    by_cases hlt : k < n
    · obtain ⟨b', o', z, e', hz, hcz⟩ := RI.at_ HA.out hlt
      cases e'
      have HZ := Lib.hid (count_snoc (x := x) hz)
      clear hz
      by_cases hzx : z = x
      · subst hzx
        go_wp2
        go_round
        case rel => exact ⟨k + 1, by go_num, by omega, q + 1, by go_num, by omega, Lib.hid (by rw [HZ.out, ← hy.out, if_pos rfl])⟩
        case measure => simp only [intOf]; omega
      · go_wp2
        go_round
        case rel => exact ⟨k + 1, by go_num, by omega, q, by go_num, by omega, Lib.hid (by rw [HZ.out, ← hy.out, if_neg hzx]; rfl)⟩
        case measure => simp only [intOf]; omega
    · go_wp2
      go_ret
      exact ⟨ret_int (by rw [hy.out, List.take_of_length_le (by rw [HL.out]; omega)]), rfl⟩
set_option maxHeartbeats 400000 in
theorem c_l14Count {v : Value} {t : List Int} {x : Int} {w : World} (h0 : RdI w v t) :
    Calls Try.prog 186 #[v, .int .i64 x] w fun e w' => e = .returned (.int .i64 (t.count x)) ∧ w = w' := by
  obtain ⟨A, n, c, rfl, ha⟩ := h0
  have hn := ha.le
  have hl := ha.len
  have HA := Lib.hid ha
  have HL := Lib.hid hl
  clear ha hl
  go_enter Try.func186, Try.ntmps186
  go_wp2
  go_loop [5, 6] (fun a i => ∃ k : Nat, i = .int .i64 k ∧ k ≤ n ∧ ∃ q : Nat, a = .int .i64 q ∧ q ≤ k ∧ Hid (q = (t.take k).count x)) (fun _ i => n - (intOf i).toNat)
  case atStart => exact ⟨0, rfl, Nat.zero_le _, 0, rfl, Nat.le_refl _, Lib.hid (by simp)⟩
  case round =>
    obtain ⟨k, rfl, hk, q, rfl, hqk, hy⟩ := hrel
    by_cases hlt : k < n
    · obtain ⟨b', o', z, e', hz, hcz⟩ := RI.at_ HA.out hlt
      cases e'
      have HZ := Lib.hid (count_snoc (x := x) hz)
      clear hz
      by_cases hzx : z = x
      · subst hzx
        go_wp2
        go_round
        case rel => exact ⟨k + 1, by go_num, by omega, q + 1, by go_num, by omega, Lib.hid (by rw [HZ.out, ← hy.out, if_pos rfl])⟩
        case measure => simp only [intOf]; omega
      · go_wp2
        go_round
        case rel => exact ⟨k + 1, by go_num, by omega, q, by go_num, by omega, Lib.hid (by rw [HZ.out, ← hy.out, if_neg hzx]; rfl)⟩
        case measure => simp only [intOf]; omega
    · go_wp2
      go_ret
      exact ⟨ret_int (by rw [hy.out, List.take_of_length_le (by rw [HL.out]; omega)]), rfl⟩
theorem oft_ge {s t : List Int} {x : Int} (h : ¬ t.count x < s.count x) : s.count x ≤ t.count x := by omega
set_option maxHeartbeats 1000000 in
theorem c_often {v0 v1 : Value} {s t : List Int} {w : World} (h0 : RdI w v0 s) (h1 : RdI w v1 t) :
    Calls Try.prog 124 #[v0, v1] w fun e w' => e = .returned (.bool (oft s t)) ∧ w = w' := by
  obtain ⟨A, n, c, rfl, ha⟩ := h0
  obtain ⟨B, m, d, rfl, hb⟩ := h1
  have hn := ha.le
  have hm := hb.le
  have hl := ha.len
  have hk2 := hb.len
  have HA := Lib.hid ha
  have HB := Lib.hid hb
  have HL := Lib.hid hl
  have HM := Lib.hid hk2
  clear ha hb hl hk2
  go_enter Try.func124, Try.ntmps124
  go_wp2
  go_loop [9] (fun i => ∃ k : Nat, i = .int .i64 k ∧ k ≤ n ∧ Hid (OftTo s t k)) (fun i => n - (intOf i).toNat)
  case atStart => exact ⟨0, rfl, Nat.zero_le _, Lib.hid OftTo.start⟩
  case round =>
    obtain ⟨k, rfl, hk, hy⟩ := hrel
    by_cases hlt : k < n
    · obtain ⟨b', o', z, e', hz, hcz⟩ := RI.at_ HA.out hlt
      cases e'
      have HZ := Lib.hid hz
      clear hz
      have hcs : s.count z ≤ n := count_le_len HL.out
      have hct : t.count z ≤ m := count_le_len HM.out
      by_cases h0 : z < 0
      · by_cases hc : t.count z < s.count z
        · have HR := Lib.hid (oft_f HZ.out h0 hc)
          have hc' : ((t.count z : Nat) : Int) < (s.count z : Nat) := by omega
          go_wp2_with (first
            | (go_at_call 155; (with_reducible refine (c_countIn (t := s) (x := z) (by (first | (first | (with_reducible exact RdI.mk (RI.ext (Hid.out (by with_reducible assumption)) (by exact extX))) | (with_reducible exact RdI.ext (by with_reducible assumption) (by exact extX))) | fail | (with_reducible exact RdSig.mk (by (first | (with_reducible exact RI.ext (Hid.out (by with_reducible assumption)) (by exact extX))))) | (with_reducible exact RdSig.ext (by with_reducible assumption) (by exact extX))))).mono ?_); rintro e w2 ⟨rfl, rfl⟩)
            | (go_at_call 155; (with_reducible refine (c_countIn (t := t) (x := z) (by (first | (first | (with_reducible exact RdI.mk (RI.ext (Hid.out (by with_reducible assumption)) (by exact extX))) | (with_reducible exact RdI.ext (by with_reducible assumption) (by exact extX))) | fail | (with_reducible exact RdSig.mk (by (first | (with_reducible exact RI.ext (Hid.out (by with_reducible assumption)) (by exact extX))))) | (with_reducible exact RdSig.ext (by with_reducible assumption) (by exact extX))))).mono ?_); rintro e w2 ⟨rfl, rfl⟩))
          go_ret
          exact ⟨ret_bool HR.out.symm, rfl⟩
        · have HR := Lib.hid (hy.out.step HZ.out fun _ => oft_ge hc)
          have hc' : ¬ ((t.count z : Nat) : Int) < (s.count z : Nat) := by omega
          go_wp2_with (first
            | (go_at_call 155; (with_reducible refine (c_countIn (t := s) (x := z) (by (first | (first | (with_reducible exact RdI.mk (RI.ext (Hid.out (by with_reducible assumption)) (by exact extX))) | (with_reducible exact RdI.ext (by with_reducible assumption) (by exact extX))) | fail | (with_reducible exact RdSig.mk (by (first | (with_reducible exact RI.ext (Hid.out (by with_reducible assumption)) (by exact extX))))) | (with_reducible exact RdSig.ext (by with_reducible assumption) (by exact extX))))).mono ?_); rintro e w2 ⟨rfl, rfl⟩)
            | (go_at_call 155; (with_reducible refine (c_countIn (t := t) (x := z) (by (first | (first | (with_reducible exact RdI.mk (RI.ext (Hid.out (by with_reducible assumption)) (by exact extX))) | (with_reducible exact RdI.ext (by with_reducible assumption) (by exact extX))) | fail | (with_reducible exact RdSig.mk (by (first | (with_reducible exact RI.ext (Hid.out (by with_reducible assumption)) (by exact extX))))) | (with_reducible exact RdSig.ext (by with_reducible assumption) (by exact extX))))).mono ?_); rintro e w2 ⟨rfl, rfl⟩))
          go_round
          case rel => exact ⟨k + 1, by go_num, by omega, HR⟩
          case measure => simp only [intOf]; omega
      · have HR := Lib.hid (hy.out.step HZ.out fun h => absurd h h0)
        go_wp2
        go_round
        case rel => exact ⟨k + 1, by go_num, by omega, HR⟩
        case measure => simp only [intOf]; omega
    · go_wp2
      go_ret
      exact ⟨ret_bool (hy.out.done (by rw [HL.out]; omega)).symm, rfl⟩
theorem q_l14Count {v : Value} {t : List Int} {x : Int} {w : World} (h0 : RdI w v t) :
    Calls Try.prog 186 #[v, .int .i64 x] w fun e w' => e = .returned (.int .i64 (t.count x)) ∧ w' = w := (c_l14Count h0).mono fun _ _ h => ⟨h.1, h.2.symm⟩
set_option maxHeartbeats 1000000 in
theorem c_l14Often {v0 v1 : Value} {s t : List Int} {w : World} (h0 : RdI w v0 s) (h1 : RdI w v1 t) :
    Calls Try.prog 176 #[v0, v1] w fun e w' => e = .returned (.bool (oft s t)) ∧ Ext w w' := by
  obtain ⟨A, n, c, rfl, ha⟩ := h0
  obtain ⟨B, m, d, rfl, hb⟩ := h1
  have hn := ha.le
  have hm := hb.le
  have hl := ha.len
  have hk2 := hb.len
  have HA := Lib.hid ha
  have HB := Lib.hid hb
  have HL := Lib.hid hl
  have HM := Lib.hid hk2
  clear ha hb hl hk2
  go_enter Try.func176, Try.ntmps176
  go_wp2
  go_loopw [5] (fun i wr => ∃ k : Nat, i = .int .i64 k ∧ k ≤ n ∧ Hid (OftTo s t k) ∧ Ext w wr) (fun i _ => n - (intOf i).toNat)
  case atStart => exact ⟨0, rfl, Nat.zero_le _, Lib.hid OftTo.start, by exact extX⟩
  case round =>
    obtain ⟨k, rfl, hk, hy, hE⟩ := hrel
    by_cases hlt : k < n
    · obtain ⟨b', o', z, e', hz, hcz⟩ := RI.at_ (RI.ext HA.out hE) hlt
      cases e'
      have HZ := Lib.hid hz
      clear hz
      have hcs : s.count z ≤ n := count_le_len HL.out
      have hct : t.count z ≤ m := count_le_len HM.out
      have hk0 : (0 : Int) ≤ (k : Int) := by omega
      have hkn : (k : Int) < (n : Int) := by omega
      by_cases h0 : z < 0
      · have hb0 : decide (z < 0) = true := by simpa using h0
        by_cases hc : t.count z < s.count z
        · have HR := Lib.hid (oft_f HZ.out h0 hc)
          have hc' : decide (((t.count z : Nat) : Int) < (s.count z : Nat)) = true := by simpa using hc
          go_wp2_with fail
          go_quiet (first
            | (go_at_call 186; exact Calls.quiet_of_same (q_l14Count (t := s) (by (first | (first | (with_reducible exact RdI.mk (RI.ext (Hid.out (by with_reducible assumption)) (by exact extX))) | (with_reducible exact RdI.ext (by with_reducible assumption) (by exact extX))) | fail | (with_reducible exact RdSig.mk (by (first | (with_reducible exact RI.ext (Hid.out (by with_reducible assumption)) (by exact extX))))) | (with_reducible exact RdSig.ext (by with_reducible assumption) (by exact extX))))))
            | (go_at_call 186; exact Calls.quiet_of_same (q_l14Count (t := t) (by (first | (first | (with_reducible exact RdI.mk (RI.ext (Hid.out (by with_reducible assumption)) (by exact extX))) | (with_reducible exact RdI.ext (by with_reducible assumption) (by exact extX))) | fail | (with_reducible exact RdSig.mk (by (first | (with_reducible exact RI.ext (Hid.out (by with_reducible assumption)) (by exact extX))))) | (with_reducible exact RdSig.ext (by with_reducible assumption) (by exact extX)))))))
          go_wp2
          go_ret
          exact ⟨ret_bool HR.out.symm, by exact extX⟩
        · have HR := Lib.hid (hy.out.step HZ.out fun _ => oft_ge hc)
          have hc' : decide (((t.count z : Nat) : Int) < (s.count z : Nat)) = false := by simpa using hc
          go_wp2_with fail
          go_quiet (first
            | (go_at_call 186; exact Calls.quiet_of_same (q_l14Count (t := s) (by (first | (first | (with_reducible exact RdI.mk (RI.ext (Hid.out (by with_reducible assumption)) (by exact extX))) | (with_reducible exact RdI.ext (by with_reducible assumption) (by exact extX))) | fail | (with_reducible exact RdSig.mk (by (first | (with_reducible exact RI.ext (Hid.out (by with_reducible assumption)) (by exact extX))))) | (with_reducible exact RdSig.ext (by with_reducible assumption) (by exact extX))))))
            | (go_at_call 186; exact Calls.quiet_of_same (q_l14Count (t := t) (by (first | (first | (with_reducible exact RdI.mk (RI.ext (Hid.out (by with_reducible assumption)) (by exact extX))) | (with_reducible exact RdI.ext (by with_reducible assumption) (by exact extX))) | fail | (with_reducible exact RdSig.mk (by (first | (with_reducible exact RI.ext (Hid.out (by with_reducible assumption)) (by exact extX))))) | (with_reducible exact RdSig.ext (by with_reducible assumption) (by exact extX)))))))
          go_wp2
          go_roundw
          case rel => exact ⟨k + 1, by go_num, by omega, HR, by exact extX⟩
          case measure => simp only [intOf]; omega
      · have HR := Lib.hid (hy.out.step HZ.out fun h => absurd h h0)
        have hb0 : decide (z < 0) = false := by simpa using h0
        go_wp2_with fail
        go_quiet (fail)
        go_wp2
        go_roundw
        case rel => exact ⟨k + 1, by go_num, by omega, HR, by exact extX⟩
        case measure => simp only [intOf]; omega
    · go_wp2
      go_ret
      exact ⟨ret_bool (hy.out.done (by rw [HL.out]; omega)).symm, by exact extX⟩

end Go.Proofs.Ytjmdfjinicbkeaa
