/- The weight of a term. -/
import Derived.Test.YtleahogikppepaaWt
import Derived.Test.YtleahogikppepaaTermOk
import Derived.Test.YtleahogikppepaaMKbo
-- rd: RdWt
namespace Go.Proofs.Ytleahogikppepaa
open Go.RowKit
set_option linter.unusedSimpArgs false
set_option linter.unusedVariables false

def WB (W : Wt) : Prop := (0 ≤ W.var ∧ W.var ≤ 20) ∧ ∀ s ∈ W.sym, 0 ≤ s ∧ s ≤ 20
theorem WtP.wb {ar : List Int} {W : Wt} (h : WtP ar W) : WB W := by
  obtain ⟨h1, h2, h3, h4⟩ := h
  refine ⟨⟨by omega, h3.2⟩, fun s hs => ?_⟩
  obtain ⟨j, hj, rfl⟩ := List.mem_iff_getElem.1 hs
  have ha : j < ar.length := by omega
  have hr : j < W.rank.length := by rw [h1.2.1]; exact ha
  exact (h4 j _ _ _ (List.getElem?_eq_getElem hj) (List.getElem?_eq_getElem ha) (List.getElem?_eq_getElem hr)).1
theorem WtP.lt {ar t : List Int} {W : Wt} (h : WtP ar W) (hs : ∀ x ∈ t, x < ar.length) : ∀ x ∈ t, x < W.sym.length := fun x hx => by rw [h.2.1]; exact hs x hx
theorem TermP.lt {ar t : List Int} (h : TermP ar t) : ∀ x ∈ t, x < ar.length := by
  obtain ⟨u, h1, rfl⟩ := tree_of h
  exact flat_lt u h1

set_option maxHeartbeats 1000000 in
theorem c_weigh {v0 v1 : Value} {W : Wt} {t : List Int} {w : World} (h0 : RdWt w v0 W) (h1 : RdI w v1 t) (hW : WB W) (ht : ∀ x ∈ t, x < W.sym.length) :
    Calls Try.prog 84 #[v0, v1] w fun e w' => e = .returned (.int .i64 (wtOf W t)) ∧ Ext w w' := by
  obtain ⟨A, n, c, B, m, d, rfl, ha, hb⟩ := h0
  obtain ⟨D, q, l, rfl, hd⟩ := h1
  have hq := hd.le
  obtain ⟨⟨hv1, hv2⟩, hs⟩ := hW
  have hn := ha.len
  have hnl := ha.le
  have HA := Lib.hid ha
  have HD := Lib.hid hd
  have HS := Lib.hid hs
  have HT := Lib.hid ht
  have HN := Lib.hid hn
  have HL := Lib.hid hd.len
  clear ha hb hd hs ht hn
  go_enter Try.func84, Try.ntmps84
  go_wp2
  go_loop [5, 10] (fun a i => ∃ k : Nat, i = .int .i64 k ∧ k ≤ q ∧ ∃ y : Int, a = .int .i64 y ∧ Hid (y = wtOf W (t.take k)) ∧ 0 ≤ y ∧ y ≤ 20 * k) (fun _ i => q - (intOf i).toNat)
  case atStart => exact ⟨0, rfl, Nat.zero_le _, 0, rfl, Lib.hid (by simp [wtOf]), by omega, by omega⟩
  case round =>
    obtain ⟨k, rfl, hk, y, rfl, hy, hy0, hy1⟩ := hrel
    by_cases hlt : k < q
    · obtain ⟨b', o', z, rfl, hz, hcz⟩ := RI.at_ (RI.ext HD.out (by exact extX : Ext w (w.alloc (.cells #[.int .i64 W.var, .slice A n c, .slice B m d] 48)))) hlt
      have hzl := HT.out z (List.mem_of_getElem? hz)
      have HZ := Lib.hid (wtOf_snoc (W := W) hz)
      clear hz
      by_cases h0 : z < 0
      · have HV := Lib.hid (wt1_var (W := W) h0)
        go_wp2
        go_round
        case rel => exact ⟨k + 1, by go_num, by omega, y + W.var, by go_num, Lib.hid (by rw [HZ.out, ← hy.out, HV.out]), by omega, by omega⟩
        case measure => simp only [intOf]; omega
      · obtain ⟨z0, rfl⟩ := Int.eq_ofNat_of_zero_le (show 0 ≤ z by omega)
        have hzn : z0 < n := by rw [HN.out] at hzl; omega
        obtain ⟨b2, o2, s, rfl, hs, hcs⟩ := RI.at_ (RI.ext HA.out (by exact extX : Ext w (w.alloc (.cells #[.int .i64 W.var, .slice A n c, .slice B m d] 48)))) hzn
        have hsb := HS.out s (List.mem_of_getElem? hs)
        obtain ⟨hs1, hs2⟩ := hsb
        have HV := Lib.hid (wt1_sym (W := W) h0 (by rw [Int.toNat_natCast]; exact hs))
        clear hs hzl
        have hzi : (z0 : Int) < (n : Int) := by omega
        go_wp2
        go_round
        case rel => exact ⟨k + 1, by go_num, by omega, y + s, by go_num, Lib.hid (by rw [HZ.out, ← hy.out, HV.out]), by omega, by omega⟩
        case measure => simp only [intOf]; omega
    · go_wp2
      go_ret
      exact ⟨ret_int (by rw [hy.out, List.take_of_length_le (by rw [HL.out]; omega)]), by exact extX⟩
set_option maxHeartbeats 1000000 in
theorem c_l14Weight {v0 v1 : Value} {W : Wt} {t : List Int} {w : World} (h0 : RdWt w v0 W) (h1 : RdI w v1 t) (hW : WB W) (ht : ∀ x ∈ t, x < W.sym.length) :
    Calls Try.prog 141 #[v0, v1] w fun e w' => e = .returned (.int .i64 (wtOf W t)) ∧ Ext w w' := by
  obtain ⟨A, n, c, B, m, d, rfl, ha, hb⟩ := h0
  obtain ⟨D, q, l, rfl, hd⟩ := h1
  have hq := hd.le
  obtain ⟨⟨hv1, hv2⟩, hs⟩ := hW
  have hn := ha.len
  have hnl := ha.le
  have HA := Lib.hid ha
  have HD := Lib.hid hd
  have HS := Lib.hid hs
  have HT := Lib.hid ht
  have HN := Lib.hid hn
  have HL := Lib.hid hd.len
  clear ha hb hd hs ht hn
  go_enter Try.func141, Try.ntmps141
  go_wp2_with fail
  obtain ⟨wo, hwo⟩ : ∃ wo, wo = w.alloc (.cells #[.int .i64 W.var, .slice A n c, .slice B m d] 48) := ⟨_, rfl⟩
  have hb0 : wo.cell? ⟨w.heap.size, 0, none⟩ = some (.int .i64 W.var) := by rw [hwo]; simp [go_sem]
  have hb1 : wo.cell? ⟨w.heap.size, 1, none⟩ = some (.slice A n c) := by rw [hwo]; simp [go_sem]
  have hEo : Ext w wo := by rw [hwo]; exact extX
  rw [← hwo]
  clear hwo
  go_loopw [5, 6] (fun a i wr => ∃ k : Nat, i = .int .i64 k ∧ k ≤ q ∧ (∃ y : Int, a = .int .i64 y ∧ Hid (y = wtOf W (t.take k)) ∧ 0 ≤ y ∧ y ≤ 20 * k) ∧ Ext wo wr) (fun _ i _ => q - (intOf i).toNat)
  case atStart => exact ⟨0, rfl, Nat.zero_le _, ⟨0, rfl, Lib.hid (by simp [wtOf]), by omega, by omega⟩, by exact extX⟩
  case round =>
    obtain ⟨k, rfl, hk, ⟨y, rfl, hy, hy0, hy1⟩, hE⟩ := hrel
    have hr0 : wr.cell? ⟨w.heap.size, 0, none⟩ = some (.int .i64 W.var) := Ext.keep hE hb0
    have hr1 : wr.cell? ⟨w.heap.size, 1, none⟩ = some (.slice A n c) := Ext.keep hE hb1
    by_cases hlt : k < q
    · obtain ⟨b', o', z, rfl, hz, hcz⟩ := RI.at_ (RI.ext HD.out (by exact extX : Ext w wr)) hlt
      have hzl := HT.out z (List.mem_of_getElem? hz)
      have HZ := Lib.hid (wtOf_snoc (W := W) hz)
      clear hz
      by_cases h0 : z < 0
      · have HV := Lib.hid (wt1_var (W := W) h0)
        go_wp2
        go_roundw
        case rel => exact ⟨k + 1, by go_num, by omega, ⟨y + W.var, by go_num, Lib.hid (by rw [HZ.out, ← hy.out, HV.out]), by omega, by omega⟩, by exact extX⟩
        case measure => simp only [intOf]; omega
      · obtain ⟨z0, rfl⟩ := Int.eq_ofNat_of_zero_le (show 0 ≤ z by omega)
        have hzn : z0 < n := by rw [HN.out] at hzl; omega
        obtain ⟨b2, o2, s, rfl, hs, hcs⟩ := RI.at_ (RI.ext HA.out (by exact extX : Ext w wr)) hzn
        have hsb := HS.out s (List.mem_of_getElem? hs)
        obtain ⟨hs1, hs2⟩ := hsb
        have HV := Lib.hid (wt1_sym (W := W) h0 (by rw [Int.toNat_natCast]; exact hs))
        clear hs hzl
        have hzi : (z0 : Int) < (n : Int) := by omega
        have hki : (k : Int) < (q : Int) := by omega
        go_wp2_with fail
        go_quiet (fail)
        go_wp2
        go_roundw
        case rel => exact ⟨k + 1, by go_num, by omega, ⟨y + s, by go_num, Lib.hid (by rw [HZ.out, ← hy.out, HV.out]), by omega, by omega⟩, by exact extX⟩
        case measure => simp only [intOf]; omega
    · go_wp2
      go_ret
      exact ⟨ret_int (by rw [hy.out, List.take_of_length_le (by rw [HL.out]; omega)]), by exact extX⟩
set_option maxHeartbeats 1000000 in
theorem c_iWeightOf {v0 v1 v2 : Value} {ar t : List Int} {W : Wt} {w : World} (h0 : RdSig w v0 ar) (h1 : RdWt w v1 W) (h2 : RdI w v2 t) :
    Calls Try.prog 36 #[v0, v1, v2] w fun e w' => e = .returned (.int .i64 (weightOf ar W t)) ∧ Ext w w' := by
  obtain ⟨A, n, c, rfl, ha⟩ := h0
  obtain ⟨B, m, d, B', m', d', rfl, hb, hb'⟩ := h1
  obtain ⟨D, q, l, rfl, hd⟩ := h2
  have HA := Lib.hid ha
  have HB := Lib.hid hb
  have HB' := Lib.hid hb'
  have HD := Lib.hid hd
  clear ha hb hb' hd
  cases hs : wtOk ar W with
  | false =>
    have HR := Lib.hid (show weightOf ar W t = -1 by unfold weightOf; rw [hs]; simp)
    go_enter Try.func36, Try.ntmps36
    go_wp2_with (go_at_call 22; (with_reducible refine (c_iWeightsOk (ar := ar) (t := W) (by (first | (first | (with_reducible exact RdI.mk (RI.ext (Hid.out (by with_reducible assumption)) (by exact extX))) | (with_reducible exact RdI.ext (by with_reducible assumption) (by exact extX))) | (with_reducible exact RdWt.mk (by (first | (with_reducible exact RI.ext (Hid.out (by with_reducible assumption)) (by exact extX)))) (by (first | (with_reducible exact RI.ext (Hid.out (by with_reducible assumption)) (by exact extX))))) | (with_reducible exact RdWt.ext (by with_reducible assumption) (by exact extX)) | (with_reducible exact RdSig.mk (by (first | (with_reducible exact RI.ext (Hid.out (by with_reducible assumption)) (by exact extX))))) | (with_reducible exact RdSig.ext (by with_reducible assumption) (by exact extX)))) (by (first | (first | (with_reducible exact RdI.mk (RI.ext (Hid.out (by with_reducible assumption)) (by exact extX))) | (with_reducible exact RdI.ext (by with_reducible assumption) (by exact extX))) | (with_reducible exact RdWt.mk (by (first | (with_reducible exact RI.ext (Hid.out (by with_reducible assumption)) (by exact extX)))) (by (first | (with_reducible exact RI.ext (Hid.out (by with_reducible assumption)) (by exact extX))))) | (with_reducible exact RdWt.ext (by with_reducible assumption) (by exact extX)) | (with_reducible exact RdSig.mk (by (first | (with_reducible exact RI.ext (Hid.out (by with_reducible assumption)) (by exact extX))))) | (with_reducible exact RdSig.ext (by with_reducible assumption) (by exact extX))))).mono ?_); rintro e w1 ⟨rfl, hE1⟩; have hz1 := sz_of hE1; (try simp only [World.size_alloc, World.size_setCell, World.size_drew] at hz1); obtain ⟨hc1, hf1⟩ := bcell hE1; (try have hq1_0 : w.heap.size < w1.heap.size := by omega); (try have hq1_1 : w.heap.size + 1 < w1.heap.size := by omega); (try have hq1_2 : w.heap.size + 1 + 1 < w1.heap.size := by omega); (try have hq1_3 : w.heap.size + 1 + 1 + 1 < w1.heap.size := by omega); (try have hq1_4 : w.heap.size + 1 + 1 + 1 + 1 < w1.heap.size := by omega); (try have hq1_5 : w.heap.size + 1 + 1 + 1 + 1 + 1 < w1.heap.size := by omega))
    go_ret
    exact ⟨ret_int HR.out.symm, by exact extX⟩
  | true =>
    cases ht : termOk ar t with
    | false =>
      have HR := Lib.hid (show weightOf ar W t = -1 by unfold weightOf; rw [ht]; simp)
      go_enter Try.func36, Try.ntmps36
      go_wp2_with (first
        | (go_at_call 22; (with_reducible refine (c_iWeightsOk (ar := ar) (t := W) (by (first | (first | (with_reducible exact RdI.mk (RI.ext (Hid.out (by with_reducible assumption)) (by exact extX))) | (with_reducible exact RdI.ext (by with_reducible assumption) (by exact extX))) | (with_reducible exact RdWt.mk (by (first | (with_reducible exact RI.ext (Hid.out (by with_reducible assumption)) (by exact extX)))) (by (first | (with_reducible exact RI.ext (Hid.out (by with_reducible assumption)) (by exact extX))))) | (with_reducible exact RdWt.ext (by with_reducible assumption) (by exact extX)) | (with_reducible exact RdSig.mk (by (first | (with_reducible exact RI.ext (Hid.out (by with_reducible assumption)) (by exact extX))))) | (with_reducible exact RdSig.ext (by with_reducible assumption) (by exact extX)))) (by (first | (first | (with_reducible exact RdI.mk (RI.ext (Hid.out (by with_reducible assumption)) (by exact extX))) | (with_reducible exact RdI.ext (by with_reducible assumption) (by exact extX))) | (with_reducible exact RdWt.mk (by (first | (with_reducible exact RI.ext (Hid.out (by with_reducible assumption)) (by exact extX)))) (by (first | (with_reducible exact RI.ext (Hid.out (by with_reducible assumption)) (by exact extX))))) | (with_reducible exact RdWt.ext (by with_reducible assumption) (by exact extX)) | (with_reducible exact RdSig.mk (by (first | (with_reducible exact RI.ext (Hid.out (by with_reducible assumption)) (by exact extX))))) | (with_reducible exact RdSig.ext (by with_reducible assumption) (by exact extX))))).mono ?_); rintro e w1 ⟨rfl, hE1⟩; have hz1 := sz_of hE1; (try simp only [World.size_alloc, World.size_setCell, World.size_drew] at hz1); obtain ⟨hc1, hf1⟩ := bcell hE1; (try have hq1_0 : w.heap.size < w1.heap.size := by omega); (try have hq1_1 : w.heap.size + 1 < w1.heap.size := by omega); (try have hq1_2 : w.heap.size + 1 + 1 < w1.heap.size := by omega); (try have hq1_3 : w.heap.size + 1 + 1 + 1 < w1.heap.size := by omega); (try have hq1_4 : w.heap.size + 1 + 1 + 1 + 1 < w1.heap.size := by omega); (try have hq1_5 : w.heap.size + 1 + 1 + 1 + 1 + 1 < w1.heap.size := by omega))
        | (go_at_call 52; (with_reducible refine (c_iTermOk (ar := ar) (t := t) (by (first | (first | (with_reducible exact RdI.mk (RI.ext (Hid.out (by with_reducible assumption)) (by exact extX))) | (with_reducible exact RdI.ext (by with_reducible assumption) (by exact extX))) | (with_reducible exact RdWt.mk (by (first | (with_reducible exact RI.ext (Hid.out (by with_reducible assumption)) (by exact extX)))) (by (first | (with_reducible exact RI.ext (Hid.out (by with_reducible assumption)) (by exact extX))))) | (with_reducible exact RdWt.ext (by with_reducible assumption) (by exact extX)) | (with_reducible exact RdSig.mk (by (first | (with_reducible exact RI.ext (Hid.out (by with_reducible assumption)) (by exact extX))))) | (with_reducible exact RdSig.ext (by with_reducible assumption) (by exact extX)))) (by (first | (first | (with_reducible exact RdI.mk (RI.ext (Hid.out (by with_reducible assumption)) (by exact extX))) | (with_reducible exact RdI.ext (by with_reducible assumption) (by exact extX))) | (with_reducible exact RdWt.mk (by (first | (with_reducible exact RI.ext (Hid.out (by with_reducible assumption)) (by exact extX)))) (by (first | (with_reducible exact RI.ext (Hid.out (by with_reducible assumption)) (by exact extX))))) | (with_reducible exact RdWt.ext (by with_reducible assumption) (by exact extX)) | (with_reducible exact RdSig.mk (by (first | (with_reducible exact RI.ext (Hid.out (by with_reducible assumption)) (by exact extX))))) | (with_reducible exact RdSig.ext (by with_reducible assumption) (by exact extX))))).mono ?_); rintro e w2 ⟨rfl, hE2⟩; have hz2 := sz_of hE2; (try simp only [World.size_alloc, World.size_setCell, World.size_drew] at hz2); obtain ⟨hc2, hf2⟩ := bcell hE2; (try have hq2_0 : w.heap.size < w2.heap.size := by omega); (try have hq2_1 : w.heap.size + 1 < w2.heap.size := by omega); (try have hq2_2 : w.heap.size + 1 + 1 < w2.heap.size := by omega); (try have hq2_3 : w.heap.size + 1 + 1 + 1 < w2.heap.size := by omega); (try have hq2_4 : w.heap.size + 1 + 1 + 1 + 1 < w2.heap.size := by omega); (try have hq2_5 : w.heap.size + 1 + 1 + 1 + 1 + 1 < w2.heap.size := by omega); (try have hx2_1 : w1.heap.size < w2.heap.size := by omega)))
      go_ret
      exact ⟨ret_int HR.out.symm, by exact extX⟩
    | true =>
      have HR := Lib.hid (show weightOf ar W t = wtOf W t by unfold weightOf; rw [hs, ht]; simp)
      have HW := Lib.hid (wtOk_iff.1 hs).wb
      have HT := Lib.hid ((wtOk_iff.1 hs).lt (termOk_iff.1 ht).lt)
      go_enter Try.func36, Try.ntmps36
      go_wp2_with (first
        | (go_at_call 22; (with_reducible refine (c_iWeightsOk (ar := ar) (t := W) (by (first | (first | (with_reducible exact RdI.mk (RI.ext (Hid.out (by with_reducible assumption)) (by exact extX))) | (with_reducible exact RdI.ext (by with_reducible assumption) (by exact extX))) | (with_reducible exact RdWt.mk (by (first | (with_reducible exact RI.ext (Hid.out (by with_reducible assumption)) (by exact extX)))) (by (first | (with_reducible exact RI.ext (Hid.out (by with_reducible assumption)) (by exact extX))))) | (with_reducible exact RdWt.ext (by with_reducible assumption) (by exact extX)) | (with_reducible exact RdSig.mk (by (first | (with_reducible exact RI.ext (Hid.out (by with_reducible assumption)) (by exact extX))))) | (with_reducible exact RdSig.ext (by with_reducible assumption) (by exact extX)))) (by (first | (first | (with_reducible exact RdI.mk (RI.ext (Hid.out (by with_reducible assumption)) (by exact extX))) | (with_reducible exact RdI.ext (by with_reducible assumption) (by exact extX))) | (with_reducible exact RdWt.mk (by (first | (with_reducible exact RI.ext (Hid.out (by with_reducible assumption)) (by exact extX)))) (by (first | (with_reducible exact RI.ext (Hid.out (by with_reducible assumption)) (by exact extX))))) | (with_reducible exact RdWt.ext (by with_reducible assumption) (by exact extX)) | (with_reducible exact RdSig.mk (by (first | (with_reducible exact RI.ext (Hid.out (by with_reducible assumption)) (by exact extX))))) | (with_reducible exact RdSig.ext (by with_reducible assumption) (by exact extX))))).mono ?_); rintro e w1 ⟨rfl, hE1⟩; have hz1 := sz_of hE1; (try simp only [World.size_alloc, World.size_setCell, World.size_drew] at hz1); obtain ⟨hc1, hf1⟩ := bcell hE1; (try have hq1_0 : w.heap.size < w1.heap.size := by omega); (try have hq1_1 : w.heap.size + 1 < w1.heap.size := by omega); (try have hq1_2 : w.heap.size + 1 + 1 < w1.heap.size := by omega); (try have hq1_3 : w.heap.size + 1 + 1 + 1 < w1.heap.size := by omega); (try have hq1_4 : w.heap.size + 1 + 1 + 1 + 1 < w1.heap.size := by omega); (try have hq1_5 : w.heap.size + 1 + 1 + 1 + 1 + 1 < w1.heap.size := by omega))
        | (go_at_call 52; (with_reducible refine (c_iTermOk (ar := ar) (t := t) (by (first | (first | (with_reducible exact RdI.mk (RI.ext (Hid.out (by with_reducible assumption)) (by exact extX))) | (with_reducible exact RdI.ext (by with_reducible assumption) (by exact extX))) | (with_reducible exact RdWt.mk (by (first | (with_reducible exact RI.ext (Hid.out (by with_reducible assumption)) (by exact extX)))) (by (first | (with_reducible exact RI.ext (Hid.out (by with_reducible assumption)) (by exact extX))))) | (with_reducible exact RdWt.ext (by with_reducible assumption) (by exact extX)) | (with_reducible exact RdSig.mk (by (first | (with_reducible exact RI.ext (Hid.out (by with_reducible assumption)) (by exact extX))))) | (with_reducible exact RdSig.ext (by with_reducible assumption) (by exact extX)))) (by (first | (first | (with_reducible exact RdI.mk (RI.ext (Hid.out (by with_reducible assumption)) (by exact extX))) | (with_reducible exact RdI.ext (by with_reducible assumption) (by exact extX))) | (with_reducible exact RdWt.mk (by (first | (with_reducible exact RI.ext (Hid.out (by with_reducible assumption)) (by exact extX)))) (by (first | (with_reducible exact RI.ext (Hid.out (by with_reducible assumption)) (by exact extX))))) | (with_reducible exact RdWt.ext (by with_reducible assumption) (by exact extX)) | (with_reducible exact RdSig.mk (by (first | (with_reducible exact RI.ext (Hid.out (by with_reducible assumption)) (by exact extX))))) | (with_reducible exact RdSig.ext (by with_reducible assumption) (by exact extX))))).mono ?_); rintro e w2 ⟨rfl, hE2⟩; have hz2 := sz_of hE2; (try simp only [World.size_alloc, World.size_setCell, World.size_drew] at hz2); obtain ⟨hc2, hf2⟩ := bcell hE2; (try have hq2_0 : w.heap.size < w2.heap.size := by omega); (try have hq2_1 : w.heap.size + 1 < w2.heap.size := by omega); (try have hq2_2 : w.heap.size + 1 + 1 < w2.heap.size := by omega); (try have hq2_3 : w.heap.size + 1 + 1 + 1 < w2.heap.size := by omega); (try have hq2_4 : w.heap.size + 1 + 1 + 1 + 1 < w2.heap.size := by omega); (try have hq2_5 : w.heap.size + 1 + 1 + 1 + 1 + 1 < w2.heap.size := by omega); (try have hx2_1 : w1.heap.size < w2.heap.size := by omega))
        | (go_at_call 84; (with_reducible refine (c_weigh (W := W) (t := t) (by (first | (first | (with_reducible exact RdI.mk (RI.ext (Hid.out (by with_reducible assumption)) (by exact extX))) | (with_reducible exact RdI.ext (by with_reducible assumption) (by exact extX))) | (with_reducible exact RdWt.mk (by (first | (with_reducible exact RI.ext (Hid.out (by with_reducible assumption)) (by exact extX)))) (by (first | (with_reducible exact RI.ext (Hid.out (by with_reducible assumption)) (by exact extX))))) | (with_reducible exact RdWt.ext (by with_reducible assumption) (by exact extX)) | (with_reducible exact RdSig.mk (by (first | (with_reducible exact RI.ext (Hid.out (by with_reducible assumption)) (by exact extX))))) | (with_reducible exact RdSig.ext (by with_reducible assumption) (by exact extX)))) (by (first | (first | (with_reducible exact RdI.mk (RI.ext (Hid.out (by with_reducible assumption)) (by exact extX))) | (with_reducible exact RdI.ext (by with_reducible assumption) (by exact extX))) | (with_reducible exact RdWt.mk (by (first | (with_reducible exact RI.ext (Hid.out (by with_reducible assumption)) (by exact extX)))) (by (first | (with_reducible exact RI.ext (Hid.out (by with_reducible assumption)) (by exact extX))))) | (with_reducible exact RdWt.ext (by with_reducible assumption) (by exact extX)) | (with_reducible exact RdSig.mk (by (first | (with_reducible exact RI.ext (Hid.out (by with_reducible assumption)) (by exact extX))))) | (with_reducible exact RdSig.ext (by with_reducible assumption) (by exact extX)))) HW.out HT.out).mono ?_); rintro e w3 ⟨rfl, hE3⟩; have hz3 := sz_of hE3; (try simp only [World.size_alloc, World.size_setCell, World.size_drew] at hz3); obtain ⟨hc3, hf3⟩ := bcell hE3; (try have hq3_0 : w.heap.size < w3.heap.size := by omega); (try have hq3_1 : w.heap.size + 1 < w3.heap.size := by omega); (try have hq3_2 : w.heap.size + 1 + 1 < w3.heap.size := by omega); (try have hq3_3 : w.heap.size + 1 + 1 + 1 < w3.heap.size := by omega); (try have hq3_4 : w.heap.size + 1 + 1 + 1 + 1 < w3.heap.size := by omega); (try have hq3_5 : w.heap.size + 1 + 1 + 1 + 1 + 1 < w3.heap.size := by omega); (try have hx3_1 : w1.heap.size < w3.heap.size := by omega); (try have hx3_2 : w2.heap.size < w3.heap.size := by omega)))
      all_goals go_ret
      all_goals exact ⟨ret_int HR.out.symm, by exact extX⟩

end Go.Proofs.Ytleahogikppepaa
