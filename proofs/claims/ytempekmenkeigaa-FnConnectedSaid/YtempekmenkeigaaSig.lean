import Derived.Test.YtempekmenkeigaaInts
namespace Go.Proofs.Ytempekmenkeigaa
open Go.RowKit
set_option linter.unusedSimpArgs false
set_option linter.unusedVariables false

set_option maxHeartbeats 400000 in
theorem c_iSigOk {v : Value} {ar : List Int} {w : World} (h0 : RdSig w v ar) :
    Calls Try.prog 78 #[v] w fun e w' => e = .returned (.bool (sigOk ar)) ∧ Ext w w' := by
  obtain ⟨A, n, c, rfl, ha⟩ := h0
  have hn := ha.le
  have hl := ha.len
  have HA := Lib.hid ha
  have HL := Lib.hid hl
  clear ha hl
  by_cases hlen : 1 ≤ n ∧ n ≤ 8
  · obtain ⟨hn1, hn8⟩ := hlen
    go_enter Try.func78, Try.ntmps78
    go_wp2
    go_loopw [18] (fun i wr => ∃ k : Nat, i = .int .i64 k ∧ k ≤ n ∧ Hid (∀ j x, j < k → ar[j]? = some x → 0 ≤ x ∧ x ≤ 3) ∧ Ext w wr) (fun i _ => n - (intOf i).toNat)
    case atStart => exact ⟨0, rfl, Nat.zero_le _, fun j x hj => by omega, by exact extX⟩
    case round =>
      obtain ⟨k, rfl, hk, hp, hw⟩ := hrel
      by_cases hlt : k < n
      · obtain ⟨b, o, x, rfl, hx, hcx⟩ := RI.at_ (RI.ext HA.out hw) hlt
        have HX := Lib.hid hx
        clear hx
        go_wp2
        · go_ret; exact ⟨ret_bool (sigOk_at HX.out (by omega)).symm, hw⟩
        · go_ret; exact ⟨ret_bool (sigOk_at HX.out (by omega)).symm, hw⟩
        · refine ⟨⟨k + 1, by go_num, by omega, fun j y hj hy => ?_, hw⟩, by simp [intOf]; omega⟩
          rcases Nat.lt_or_ge j k with h | h
          · exact hp.out j y h hy
          · obtain rfl : j = k := by omega
            rw [HX.out] at hy; cases hy; omega
      · go_wp2
        go_ret
        refine ⟨ret_bool (sigOk_all ?_ ?_ fun j x hj hx => hp.out j x ?_ hx).symm, hw⟩
        · rw [HL.out]; exact hn1
        · rw [HL.out]; exact hn8
        · rw [HL.out] at hj; omega
  · go_enter Try.func78, Try.ntmps78
    go_wp2
    all_goals go_ret
    all_goals exact ⟨ret_bool (sigOk_len (by rw [HL.out]; omega)).symm, by exact extX⟩
/-- 'lo <= n && n <= hi'. -/
def inB (n lo hi : Int) : Bool := decide (lo ≤ n ∧ n ≤ hi)
theorem inB_t {n lo hi : Int} (h : lo ≤ n ∧ n ≤ hi) : inB n lo hi = true := by simp [inB, h]
theorem inB_f {n lo hi : Int} (h : ¬ (lo ≤ n ∧ n ≤ hi)) : inB n lo hi = false := by simp only [inB, decide_eq_false_iff_not]; exact h
set_option maxHeartbeats 400000 in
theorem q_l1In {n lo hi : Int} {w : World} : Calls Try.prog 70 #[.int .i64 n, .int .i64 lo, .int .i64 hi] w fun e w' => e = .returned (.bool (inB n lo hi)) ∧ w' = w := by
  by_cases h1 : lo ≤ n
  · by_cases h2 : n ≤ hi
    · go_enter Try.func70, Try.ntmps70
      go_wp2
      go_ret
      exact ⟨ret_bool (inB_t ⟨h1, by omega⟩).symm, rfl⟩
    · go_enter Try.func70, Try.ntmps70
      go_wp2
      go_ret
      exact ⟨ret_bool (inB_f (by omega)).symm, rfl⟩
  · go_enter Try.func70, Try.ntmps70
    go_wp2
    go_ret
    exact ⟨ret_bool (inB_f (by omega)).symm, rfl⟩
theorem q_l1In_t {n lo hi : Int} {w : World} (h : lo ≤ n ∧ n ≤ hi) : Calls Try.prog 70 #[.int .i64 n, .int .i64 lo, .int .i64 hi] w fun e w' => e = .returned (.bool true) ∧ w' = w :=
  q_l1In.mono fun _ _ ⟨he, hw⟩ => ⟨he.trans (ret_bool (inB_t h)), hw⟩
theorem q_l1In_f {n lo hi : Int} {w : World} (h : ¬ (lo ≤ n ∧ n ≤ hi)) : Calls Try.prog 70 #[.int .i64 n, .int .i64 lo, .int .i64 hi] w fun e w' => e = .returned (.bool false) ∧ w' = w :=
  q_l1In.mono fun _ _ ⟨he, hw⟩ => ⟨he.trans (ret_bool (inB_f h)), hw⟩
theorem s_l1In_t {n lo hi : Int} {w : World} (h : lo ≤ n ∧ n ≤ hi) : Calls Try.prog 70 #[.int .i64 n, .int .i64 lo, .int .i64 hi] w fun e w' => e = .returned (.bool true) ∧ w = w' :=
  (q_l1In_t h).mono fun _ _ ⟨he, hw⟩ => ⟨he, hw.symm⟩
theorem s_l1In_f {n lo hi : Int} {w : World} (h : ¬ (lo ≤ n ∧ n ≤ hi)) : Calls Try.prog 70 #[.int .i64 n, .int .i64 lo, .int .i64 hi] w fun e w' => e = .returned (.bool false) ∧ w = w' :=
  (q_l1In_f h).mono fun _ _ ⟨he, hw⟩ => ⟨he, hw.symm⟩
theorem c_l1In {n lo hi : Int} {w : World} : Calls Try.prog 70 #[.int .i64 n, .int .i64 lo, .int .i64 hi] w fun e w' => e = .returned (.bool (inB n lo hi)) ∧ Ext w w' :=
  q_l1In.mono fun _ _ ⟨he, hw⟩ => ⟨he, by rw [hw]; exact Ext.refl _⟩
theorem c_l1In_t {n lo hi : Int} {w : World} (h : lo ≤ n ∧ n ≤ hi) : Calls Try.prog 70 #[.int .i64 n, .int .i64 lo, .int .i64 hi] w fun e w' => e = .returned (.bool true) ∧ Ext w w' :=
  c_l1In.mono fun _ _ ⟨he, hw⟩ => ⟨he.trans (ret_bool (inB_t h)), hw⟩
theorem c_l1In_f {n lo hi : Int} {w : World} (h : ¬ (lo ≤ n ∧ n ≤ hi)) : Calls Try.prog 70 #[.int .i64 n, .int .i64 lo, .int .i64 hi] w fun e w' => e = .returned (.bool false) ∧ Ext w w' :=
  c_l1In.mono fun _ _ ⟨he, hw⟩ => ⟨he.trans (ret_bool (inB_f h)), hw⟩
set_option maxHeartbeats 400000 in
theorem c_sSigOk {v : Value} {ar : List Int} {w : World} (h0 : RdSig w v ar) :
    Calls Try.prog 58 #[v] w fun e w' => e = .returned (.bool (sigOk ar)) ∧ Ext w w' := by
  obtain ⟨A, n, c, rfl, ha⟩ := h0
  have hn := ha.le
  have hl := ha.len
  have HA := Lib.hid ha
  have HL := Lib.hid hl
  clear ha hl
  by_cases hlen : (1 : Int) ≤ n ∧ (n : Int) ≤ 8
  · go_enter Try.func58, Try.ntmps58
    go_wp2_with (go_at_call 70; (with_reducible refine (c_l1In_t hlen).mono ?_); rintro e w1 ⟨rfl, hE1⟩; have hz1 := sz_of hE1; (try simp only [World.size_alloc, World.size_setCell, World.size_drew] at hz1); obtain ⟨hc1, hf1⟩ := bcell hE1; (try have hq1_0 : w.heap.size < w1.heap.size := by omega); (try have hq1_1 : w.heap.size + 1 < w1.heap.size := by omega); (try have hq1_2 : w.heap.size + 1 + 1 < w1.heap.size := by omega); (try have hq1_3 : w.heap.size + 1 + 1 + 1 < w1.heap.size := by omega); (try have hq1_4 : w.heap.size + 1 + 1 + 1 + 1 < w1.heap.size := by omega); (try have hq1_5 : w.heap.size + 1 + 1 + 1 + 1 + 1 < w1.heap.size := by omega))
    go_loopw [3] (fun i wr => ∃ k : Nat, i = .int .i64 k ∧ k ≤ n ∧ Hid (∀ j x, j < k → ar[j]? = some x → 0 ≤ x ∧ x ≤ 3) ∧ Ext w1 wr) (fun i _ => n - (intOf i).toNat)
    case atStart => exact ⟨0, rfl, Nat.zero_le _, fun j x hj => by omega, by exact extX⟩
    case round =>
      obtain ⟨k, rfl, hk, hp, hE2⟩ := hrel
      have hw : Ext w wr := by exact extX
      have hbx : wr.cell? ⟨w.heap.size, 0, none⟩ = some (.slice A n c) := Ext.keep hE2 (by simp [go_sem, hc1, hq1_0])
      by_cases hlt : k < n
      · obtain ⟨b, o, x, rfl, hx, hcx⟩ := RI.at_ (RI.ext HA.out hw) hlt
        have HX := Lib.hid hx
        clear hx
        by_cases hin : 0 ≤ x ∧ x ≤ 3
        · go_wp2_with (go_at_call 70; (with_reducible refine (c_l1In_t hin).mono ?_); rintro e w3 ⟨rfl, hE3⟩)
          refine ⟨⟨k + 1, by go_num, by omega, fun j y hj hy => ?_, by exact extX⟩, by simp [intOf]; omega⟩
          rcases Nat.lt_or_ge j k with h | h
          · exact hp.out j y h hy
          · obtain rfl : j = k := by omega
            rw [HX.out] at hy; cases hy; omega
        · go_wp2_with (go_at_call 70; (with_reducible refine (c_l1In_f hin).mono ?_); rintro e w3 ⟨rfl, hE3⟩)
          go_ret; exact ⟨ret_bool (sigOk_at HX.out hin).symm, by exact extX⟩
      · go_wp2
        go_ret
        refine ⟨ret_bool (sigOk_all ?_ ?_ fun j x hj hx => hp.out j x ?_ hx).symm, by exact extX⟩
        · rw [HL.out]; omega
        · rw [HL.out]; omega
        · rw [HL.out] at hj; omega
  · go_enter Try.func58, Try.ntmps58
    go_wp2_with (go_at_call 70; (with_reducible refine (c_l1In_f hlen).mono ?_); rintro e w1 ⟨rfl, hE1⟩; have hz1 := sz_of hE1; (try simp only [World.size_alloc, World.size_setCell, World.size_drew] at hz1); obtain ⟨hc1, hf1⟩ := bcell hE1; (try have hq1_0 : w.heap.size < w1.heap.size := by omega); (try have hq1_1 : w.heap.size + 1 < w1.heap.size := by omega); (try have hq1_2 : w.heap.size + 1 + 1 < w1.heap.size := by omega); (try have hq1_3 : w.heap.size + 1 + 1 + 1 < w1.heap.size := by omega); (try have hq1_4 : w.heap.size + 1 + 1 + 1 + 1 < w1.heap.size := by omega); (try have hq1_5 : w.heap.size + 1 + 1 + 1 + 1 + 1 < w1.heap.size := by omega))
    go_ret
    exact ⟨ret_bool (sigOk_len (by rw [HL.out]; omega)).symm, by exact extX⟩

end Go.Proofs.Ytempekmenkeigaa
