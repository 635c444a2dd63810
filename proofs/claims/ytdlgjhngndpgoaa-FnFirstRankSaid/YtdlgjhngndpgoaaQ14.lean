/- Several texts in one: Rank. -/
import Derived.Test.YtdlgjhngndpgoaaQ11
import Derived.Test.YtdlgjhngndpgoaaQ13
namespace Go.Proofs.Ytdlgjhngndpgoaa
open Go.RowKit
set_option linter.unusedSimpArgs false
set_option linter.unusedVariables false
def idx (xs : List Int) (x : Int) : Int := if x ∈ xs then (xs.idxOf x : Int) else -1
theorem idx_at {xs : List Int} {x : Int} {k : Nat} (hx : xs[k]? = some x) (h : ∀ j, j < k → xs[j]? ≠ some x) : idx xs x = k := by
  unfold idx
  rw [if_pos (List.mem_of_getElem? hx)]
  obtain ⟨hk, e⟩ := List.getElem?_eq_some_iff.1 hx
  have hm : x ∈ xs := List.mem_of_getElem? hx
  have hl := List.idxOf_lt_length_of_mem hm
  have hg : xs[xs.idxOf x]? = some x := by rw [List.getElem?_eq_getElem hl, List.getElem_idxOf hl]
  rcases Nat.lt_trichotomy (xs.idxOf x) k with h1 | h1 | h1
  · exact absurd hg (h _ h1)
  · rw [h1]
  · exfalso
    have := List.not_of_lt_findIdx (p := (· == x)) (xs := xs) (i := k) h1
    simp [e] at this
theorem idx_none {xs : List Int} {x : Int} (h : ∀ j, j < xs.length → xs[j]? ≠ some x) : idx xs x = -1 := by
  unfold idx
  rw [if_neg]
  intro hm
  obtain ⟨j, hj, e⟩ := List.mem_iff_getElem.1 hm
  exact h j hj (by rw [List.getElem?_eq_getElem hj, e])
theorem idx_bd (xs : List Int) (x : Int) : -1 ≤ idx xs x ∧ idx xs x ≤ xs.length := by
  unfold idx
  split
  · have := List.idxOf_le_length (a := x) (l := xs); omega
  · omega
theorem idx_has {xs : List Int} {x : Int} : decide (0 ≤ idx xs x) = decide (x ∈ xs) := by
  unfold idx
  by_cases h : x ∈ xs
  · rw [if_pos h]; simp [h]
  · rw [if_neg h]; simp [h]
set_option maxHeartbeats 400000 in
theorem c_slicesIndex {v : Value} {xs : List Int} {x : Int} {w : World} (h0 : RdI w v xs) :
    Calls Try.prog 110 #[v, .int .i64 x] w fun e w' => e = .returned (.int .i64 (idx xs x)) ∧ w = w' := by
  obtain ⟨A, n, c, rfl, ha⟩ := h0
  have hn := ha.le
  have HA := Lib.hid ha
  clear ha
  go_enter Try.func110, Try.ntmps110
  go_wp2
  go_loop [8] (fun i => ∃ k : Nat, i = .int .i64 k ∧ k ≤ n ∧ Hid (∀ j, j < k → xs[j]? ≠ some x)) (fun i => n - (intOf i).toNat)
  case atStart => exact ⟨0, rfl, Nat.zero_le _, fun j hj => by omega⟩
  case round =>
    obtain ⟨k, rfl, hk, hp⟩ := hrel
    by_cases hlt : k < n
    · obtain ⟨b, o, y, rfl, hy, hcy⟩ := RI.at_ HA.out hlt
      have HY := Lib.hid hy
      clear hy
      by_cases hxy : x = y
      · subst hxy
        have hb : (x == x) = true := by simp
        go_wp2
        go_ret
        exact ⟨ret_int (idx_at HY.out hp.out).symm, rfl⟩
      · have hb : (x == y) = false := by simpa using hxy
        go_wp2
        go_round
        case rel =>
          refine ⟨k + 1, by go_num, by omega, fun j hj => ?_⟩
          rcases Nat.lt_or_ge j k with h | h
          · exact hp.out j h
          · obtain rfl : j = k := by omega
            rw [HY.out]; intro e; injection e with e; exact hxy e.symm
        case measure => simp [intOf]; omega
    · go_wp2
      go_ret
      exact ⟨ret_int (idx_none fun j hj => hp.out j (by rw [HA.out.len] at hj; omega)).symm, rfl⟩
set_option maxHeartbeats 400000 in
theorem c_slicesContains {v : Value} {xs : List Int} {x : Int} {w : World} (h0 : RdI w v xs) :
    Calls Try.prog 95 #[v, .int .i64 x] w fun e w' => e = .returned (.bool (decide (x ∈ xs))) ∧ w = w' := by
  have hb := idx_bd xs x
  go_enter Try.func95, Try.ntmps95
  go_wp2_with (go_at_call 110; (with_reducible refine (c_slicesIndex (x := x) h0).mono ?_); rintro e w2 ⟨rfl, rfl⟩)
  go_ret
  exact ⟨ret_bool idx_has, rfl⟩
theorem z0q14 {p : Prop} (h : p := by (first | (first | (with_reducible exact RdI.mk (RI.ext (Hid.out (by with_reducible assumption)) (by exact extX))) | (with_reducible exact RdI.ext (by with_reducible assumption) (by exact extX))) | fail | (with_reducible exact RdSig.mk (by (first | (with_reducible exact RI.ext (Hid.out (by with_reducible assumption)) (by exact extX))))) | (with_reducible exact RdSig.ext (by with_reducible assumption) (by exact extX)))) : p := h
set_option maxHeartbeats 400000 in
theorem c_iRankOk {v0 v1 : Value} {ar rk : List Int} {w : World} (h0 : RdSig w v0 ar) (h1 : RdI w v1 rk) :
    Calls Try.prog 76 #[v0, v1] w fun e w' => e = .returned (.bool (rankOk ar rk)) ∧ Ext w w' := by
  obtain ⟨A, n, c, rfl, ha⟩ := h0
  obtain ⟨B, m, d, rfl, hb⟩ := h1
  have hn := ha.le
  have hm := hb.le
  have HA := Lib.hid ha
  have HB := Lib.hid hb
  clear ha hb
  rcases hs : sigOk ar with _ | _
  · go_enter Try.func76, Try.ntmps76
    go_wp2_with (go_at_call 74; (with_reducible refine (c_iSigOk (ar := ar) z0q14).mono ?_); rintro e w1 ⟨rfl, hE1⟩; have hz1 := sz_of hE1; (try simp only [World.size_alloc, World.size_setCell, World.size_drew] at hz1); obtain ⟨hc1, hf1⟩ := bcell hE1; (try have hq1_0 : w.heap.size < w1.heap.size := by omega); (try have hq1_1 : w.heap.size + 1 < w1.heap.size := by omega); (try have hq1_2 : w.heap.size + 1 + 1 < w1.heap.size := by omega); (try have hq1_3 : w.heap.size + 1 + 1 + 1 < w1.heap.size := by omega); (try have hq1_4 : w.heap.size + 1 + 1 + 1 + 1 < w1.heap.size := by omega); (try have hq1_5 : w.heap.size + 1 + 1 + 1 + 1 + 1 < w1.heap.size := by omega))
    go_ret
    exact ⟨ret_bool (rankOk_sig hs).symm, by exact extX⟩
  · by_cases hnm : m = n
    · subst hnm
      have hnn : ((m : Int) != (m : Int)) = false := by simp
      have HS := Lib.hid hs
      go_enter Try.func76, Try.ntmps76
      go_wp2_with (go_at_call 74; (with_reducible refine (c_iSigOk (ar := ar) z0q14).mono ?_); rintro e w1 ⟨rfl, hE1⟩; have hz1 := sz_of hE1; (try simp only [World.size_alloc, World.size_setCell, World.size_drew] at hz1); obtain ⟨hc1, hf1⟩ := bcell hE1; (try have hq1_0 : w.heap.size < w1.heap.size := by omega); (try have hq1_1 : w.heap.size + 1 < w1.heap.size := by omega); (try have hq1_2 : w.heap.size + 1 + 1 < w1.heap.size := by omega); (try have hq1_3 : w.heap.size + 1 + 1 + 1 < w1.heap.size := by omega); (try have hq1_4 : w.heap.size + 1 + 1 + 1 + 1 < w1.heap.size := by omega); (try have hq1_5 : w.heap.size + 1 + 1 + 1 + 1 + 1 < w1.heap.size := by omega))
      go_loop [19] (fun i => ∃ k : Nat, i = .int .i64 k ∧ k ≤ m ∧ Hid (∀ j : Nat, j < k → (j : Int) ∈ rk)) (fun i => m - (intOf i).toNat)
      case atStart => exact ⟨0, rfl, Nat.zero_le _, fun j hj => by omega⟩
      case round =>
        obtain ⟨k, rfl, hk, hp⟩ := hrel
        by_cases hlt : k < m
        · by_cases hin : (k : Int) ∈ rk
          · have hd : decide ((k : Int) ∈ rk) = true := by simpa using hin
            have HI := Lib.hid hin
            clear hin
            go_wp2_with (go_at_call 95; (with_reducible refine (c_slicesContains (xs := rk) (x := (k : Int)) z0q14).mono ?_); rintro e w2 ⟨rfl, rfl⟩)
            go_round
            case rel =>
              refine ⟨k + 1, by go_num, by omega, fun j hj => ?_⟩
              rcases Nat.lt_or_ge j k with h | h
              · exact hp.out j h
              · obtain rfl : j = k := by omega
                exact HI.out
            case measure => simp [intOf]; omega
          · have hd : decide ((k : Int) ∈ rk) = false := by simpa using hin
            have HI := Lib.hid hin
            clear hin
            go_wp2_with (go_at_call 95; (with_reducible refine (c_slicesContains (xs := rk) (x := (k : Int)) z0q14).mono ?_); rintro e w2 ⟨rfl, rfl⟩)
            go_ret
            exact ⟨ret_bool (rankOk_f fun p => HI.out (p.2.2 k (by rw [HB.out.len]; exact hlt))).symm, by exact extX⟩
        · go_wp2
          go_ret
          refine ⟨ret_bool (rankOk_iff.2 ⟨sigOk_iff.1 HS.out, ?_, fun i hi => hp.out i ?_⟩).symm, by exact extX⟩
          · rw [HA.out.len, HB.out.len]
          · rw [HB.out.len] at hi; omega
    · have hnn : ((m : Int) != (n : Int)) = true := by simp; omega
      go_enter Try.func76, Try.ntmps76
      go_wp2_with (go_at_call 74; (with_reducible refine (c_iSigOk (ar := ar) z0q14).mono ?_); rintro e w1 ⟨rfl, hE1⟩; have hz1 := sz_of hE1; (try simp only [World.size_alloc, World.size_setCell, World.size_drew] at hz1); obtain ⟨hc1, hf1⟩ := bcell hE1; (try have hq1_0 : w.heap.size < w1.heap.size := by omega); (try have hq1_1 : w.heap.size + 1 < w1.heap.size := by omega); (try have hq1_2 : w.heap.size + 1 + 1 < w1.heap.size := by omega); (try have hq1_3 : w.heap.size + 1 + 1 + 1 < w1.heap.size := by omega); (try have hq1_4 : w.heap.size + 1 + 1 + 1 + 1 < w1.heap.size := by omega); (try have hq1_5 : w.heap.size + 1 + 1 + 1 + 1 + 1 < w1.heap.size := by omega))
      go_ret
      exact ⟨ret_bool (rankOk_len (by rw [HA.out.len, HB.out.len]; omega)).symm, by exact extX⟩
set_option maxHeartbeats 1000000 in
theorem c_sRankOk {v0 v1 : Value} {ar rk : List Int} {w : World} (h0 : RdSig w v0 ar) (h1 : RdI w v1 rk) :
    Calls Try.prog 30 #[v0, v1] w fun e w' => e = .returned (.bool (rankOk ar rk)) ∧ Ext w w' := by
  obtain ⟨A, n, c, rfl, ha⟩ := h0
  obtain ⟨B, m, d, rfl, hb⟩ := h1
  have hn := ha.le
  have hm := hb.le
  have HA := Lib.hid ha
  have HB := Lib.hid hb
  clear ha hb
  rcases hs : sigOk ar with _ | _
  · go_enter Try.func30, Try.ntmps30
    go_wp2_with (go_at_call 53; (with_reducible refine (c_sSigOk (ar := ar) z0q14).mono ?_); rintro e w1 ⟨rfl, hE1⟩; have hz1 := sz_of hE1; (try simp only [World.size_alloc, World.size_setCell, World.size_drew] at hz1); obtain ⟨hc1, hf1⟩ := bcell hE1; (try have hq1_0 : w.heap.size < w1.heap.size := by omega); (try have hq1_1 : w.heap.size + 1 < w1.heap.size := by omega); (try have hq1_2 : w.heap.size + 1 + 1 < w1.heap.size := by omega); (try have hq1_3 : w.heap.size + 1 + 1 + 1 < w1.heap.size := by omega); (try have hq1_4 : w.heap.size + 1 + 1 + 1 + 1 < w1.heap.size := by omega); (try have hq1_5 : w.heap.size + 1 + 1 + 1 + 1 + 1 < w1.heap.size := by omega))
    go_ret
    exact ⟨ret_bool (rankOk_sig hs).symm, by exact extX⟩
  · by_cases hnm : m = n
    · subst hnm
      have hnn : ((m : Int) != (m : Int)) = false := by simp
      have HS := Lib.hid hs
      go_enter Try.func30, Try.ntmps30
      go_wp2_with (go_at_call 53; (with_reducible refine (c_sSigOk (ar := ar) z0q14).mono ?_); rintro e w1 ⟨rfl, hE1⟩; have hz1 := sz_of hE1; (try simp only [World.size_alloc, World.size_setCell, World.size_drew] at hz1); obtain ⟨hc1, hf1⟩ := bcell hE1; (try have hq1_0 : w.heap.size < w1.heap.size := by omega); (try have hq1_1 : w.heap.size + 1 < w1.heap.size := by omega); (try have hq1_2 : w.heap.size + 1 + 1 < w1.heap.size := by omega); (try have hq1_3 : w.heap.size + 1 + 1 + 1 < w1.heap.size := by omega); (try have hq1_4 : w.heap.size + 1 + 1 + 1 + 1 < w1.heap.size := by omega); (try have hq1_5 : w.heap.size + 1 + 1 + 1 + 1 + 1 < w1.heap.size := by omega))
      go_loopw [5, 6] (fun i _ wr => ∃ k : Nat, i = .int .i64 k ∧ k ≤ m ∧ Hid (∀ j x, j < k → rk[j]? = some x → 0 ≤ x ∧ x < m) ∧ Hid (∀ (i j : Nat) (x : Int), i < j → j < k → rk[i]? = some x → rk[j]? = some x → False) ∧ Ext w1 wr) (fun i _ _ => m - (intOf i).toNat)
      case atStart => exact ⟨0, rfl, Nat.zero_le _, fun j x hj => by omega, fun i j x hij hj => by omega, by exact extX⟩
      case round =>
        obtain ⟨k, rfl, hk, hp, hp2, hE2⟩ := hrel
        have hw : Ext w wr := by exact extX
        by_cases hlt : k < m
        · obtain ⟨b, o, x, rfl, hx, hcx⟩ := RI.at_ (RI.ext HB.out hw) hlt
          have HX := Lib.hid hx
          clear hx
          have hlt' : (k : Int) < (m : Int) := by omega
          by_cases hin : 0 ≤ x ∧ x ≤ (m : Int) - 1
          · go_wp2_with (go_at_call 55; (with_reducible refine (s_l1In_t hin).mono ?_); rintro e w2 ⟨rfl, rfl⟩)
            obtain ⟨wo, rfl⟩ : ∃ wo : World, wo = wr := ⟨_, rfl⟩
            go_loopw [6] (fun i wq => ∃ q : Nat, i = .int .i64 q ∧ q ≤ k ∧ Hid (∀ j, j < q → rk[j]? ≠ some x) ∧ Ext wo wq) (fun i _ => k - (intOf i).toNat)
            case atStart => exact ⟨0, rfl, Nat.zero_le _, fun j hj => by omega, by exact extX⟩
            case round =>
              obtain ⟨q, rfl, hq, hp3, hE3⟩ := hrel
              have hcx2 : wr.cell? ⟨b, o + k, none⟩ = some (.int .i64 x) := Ext.keep hE3 hcx
              by_cases hqk : q < k
              · obtain ⟨b2, o2, y, hA2, hy, hcy⟩ := RI.at_ (RI.ext HB.out (by exact extX : Ext w wr)) (show q < m by omega)
                cases hA2
                have HY := Lib.hid hy
                clear hy
                have hq1 : (q : Int) < (m : Int) := by omega
                by_cases hyx : y = x
                · subst hyx
                  have hb1 : (y == y) = true := by simp
                  go_wp2
                  go_quiet (fail)
                  go_wp2
                  go_ret
                  exact ⟨ret_bool (rankOk_f fun p => rank_distinct p.2.2 hqk HY.out HX.out).symm, by exact extX⟩
                · have hb1 : (y == x) = false := by simpa using hyx
                  go_wp2
                  go_quiet (fail)
                  go_wp2
                  go_roundw
                  case rel =>
                    refine ⟨q + 1, by go_num, by omega, fun j hj => ?_, by exact extX⟩
                    rcases Nat.lt_or_ge j q with h | h
                    · exact hp3.out j h
                    · obtain rfl : j = q := by omega
                      rw [HY.out]; intro e; injection e with e; exact hyx e
                  case measure => simp [intOf]; omega
              · go_wp2
                go_roundw
                case rel =>
                  refine ⟨k + 1, by go_num, by omega, fun j y hj hy => ?_, fun i j y hij hj hi hy => ?_, by exact extX⟩
                  · rcases Nat.lt_or_ge j k with h | h
                    · exact hp.out j y h hy
                    · obtain rfl : j = k := by omega
                      rw [HX.out] at hy; cases hy; omega
                  · rcases Nat.lt_or_ge j k with h | h
                    · exact hp2.out i j y hij h hi hy
                    · obtain rfl : j = k := by omega
                      rw [HX.out] at hy; cases hy
                      exact hp3.out i (by omega) hi
                case measure => simp [intOf]; omega
          · go_wp2_with (go_at_call 55; (with_reducible refine (s_l1In_f hin).mono ?_); rintro e w2 ⟨rfl, rfl⟩)
            go_ret
            exact ⟨ret_bool (rankOk_f fun p => hin (by have := rank_range p.2.2 x (List.mem_of_getElem? HX.out); rw [HB.out.len] at this; omega)).symm, by exact extX⟩
        · go_wp2
          go_ret
          refine ⟨ret_bool (rankOk_iff.2 ⟨sigOk_iff.1 HS.out, ?_, rank_all (fun x hx => ?_) fun i j x hij hi hj => hp2.out i j x hij ?_ hi hj⟩).symm, by exact extX⟩
          · rw [HA.out.len, HB.out.len]
          · obtain ⟨j, hj, e⟩ := List.mem_iff_getElem.1 hx
            have := hp.out j x (by rw [HB.out.len] at hj; omega) (by rw [List.getElem?_eq_getElem hj, e])
            rw [HB.out.len]; exact this
          · have := (List.getElem?_eq_some_iff.1 hj).1; rw [HB.out.len] at this; omega
    · have hnn : ((m : Int) != (n : Int)) = true := by simp; omega
      go_enter Try.func30, Try.ntmps30
      go_wp2_with (go_at_call 53; (with_reducible refine (c_sSigOk (ar := ar) z0q14).mono ?_); rintro e w1 ⟨rfl, hE1⟩; have hz1 := sz_of hE1; (try simp only [World.size_alloc, World.size_setCell, World.size_drew] at hz1); obtain ⟨hc1, hf1⟩ := bcell hE1; (try have hq1_0 : w.heap.size < w1.heap.size := by omega); (try have hq1_1 : w.heap.size + 1 < w1.heap.size := by omega); (try have hq1_2 : w.heap.size + 1 + 1 < w1.heap.size := by omega); (try have hq1_3 : w.heap.size + 1 + 1 + 1 < w1.heap.size := by omega); (try have hq1_4 : w.heap.size + 1 + 1 + 1 + 1 < w1.heap.size := by omega); (try have hq1_5 : w.heap.size + 1 + 1 + 1 + 1 + 1 < w1.heap.size := by omega))
      go_ret
      exact ⟨ret_bool (rankOk_len (by rw [HA.out.len, HB.out.len]; omega)).symm, by exact extX⟩
end Go.Proofs.Ytdlgjhngndpgoaa
