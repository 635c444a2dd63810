/- The weight of a term. -/
import Derived.Test.YtjmdfjinicbkeaaWt
import Derived.Test.YtjmdfjinicbkeaaTermOk
import Derived.Test.YtjmdfjinicbkeaaMKbo
-- rd: RdWt
namespace Go.Proofs.Ytjmdfjinicbkeaa
open Go.RowKit
set_option linter.unusedSimpArgs false
set_option linter.unusedVariables false

def WB (W : Wt) : Prop := (0 ≤ W.var ∧ W.var ≤ 20) ∧ ∀ s ∈ W.sym, 0 ≤ s ∧ s ≤ 20
theorem WtP.wb {ar : List Int} {W : Wt} (h : WtP ar W) : WB W := by
  obtain ⟨h1, h2, h3, h4⟩ := h
  refine ⟨⟨by omega, h3.2⟩, fun s hs => ?_⟩
  obtain ⟨j, hj, rfl⟩ := List.mem_iff_getElem.1 hs
  have ha : j < ar.length := by omega
  have hr : j < W.rank.length := by rw [h1.2.1]; exact ha
  exact (h4 j _ _ _ (List.getElem?_eq_getElem hj) (List.getElem?_eq_getElem ha) (List.getElem?_eq_getElem hr)).1
theorem WtP.lt {ar t : List Int} {W : Wt} (h : WtP ar W) (hs : ∀ x ∈ t, x < ar.length) : ∀ x ∈ t, x < W.sym.length := fun x hx => by rw [h.2.1]; exact hs x hx
theorem TermP.lt {ar t : List Int} (h : TermP ar t) : ∀ x ∈ t, x < ar.length := by
  obtain ⟨u, h1, rfl⟩ := tree_of h
  exact flat_lt u h1

set_option maxHeartbeats 1000000 in
theorem c_weigh {v0 v1 : Value} {W : Wt} {t : List Int} {w : World} (h0 : RdWt w v0 W) (h1 : RdI w v1 t) (hW : WB W) (ht : ∀ x ∈ t, x < W.sym.length) :
    Calls Try.prog 125 #[v0, v1] w fun e w' => e = .returned (.int .i64 (wtOf W t)) ∧ Ext w w' := by
  obtain ⟨A, n, c, B, m, d, rfl, ha, hb⟩ := h0
  obtain ⟨D, q, l, rfl, hd⟩ := h1
  have hq := hd.le
  obtain ⟨⟨hv1, hv2⟩, hs⟩ := hW
  have hn := ha.len
  have hnl := ha.le
  have HA := Lib.hid ha
  have HD := Lib.hid hd
  have HS := Lib.hid hs
  have HT := Lib.hid ht
  have HN := Lib.hid hn
  have HL := Lib.hid hd.len
  clear ha hb hd hs ht hn
  go_enter Try.func125, Try.ntmps125
  go_wp2
  go_loop [5, 10] (fun a i => ∃ k : Nat, i = .int .i64 k ∧ k ≤ q ∧ ∃ y : Int, a = .int .i64 y ∧ Hid (y = wtOf W (t.take k)) ∧ 0 ≤ y ∧ y ≤ 20 * k) (fun _ i => q - (intOf i).toNat)
  case atStart => exact ⟨0, rfl, Nat.zero_le _, 0, rfl, Lib.hid (by simp [wtOf]), by omega, by omega⟩
  case round =>
    obtain ⟨k, rfl, hk, y, rfl, hy, hy0, hy1⟩ := hrel
    by_cases hlt : k < q
    · obtain ⟨b', o', z, rfl, hz, hcz⟩ := RI.at_ (RI.ext HD.out (by exact extX : Ext w (w.alloc (.cells #[.int .i64 W.var, .slice A n c, .slice B m d] 48)))) hlt
      have hzl := HT.out z (List.mem_of_getElem? hz)
      have HZ := Lib.hid (wtOf_snoc (W := W) hz)
      clear hz
      by_cases h0 : z < 0
      · have HV := Lib.hid (wt1_var (W := W) h0)
        go_wp2
        go_round
        case rel => exact ⟨k + 1, by go_num, by omega, y + W.var, by go_num, Lib.hid (by rw [HZ.out, ← hy.out, HV.out]), by omega, by omega⟩
        case measure => simp only [intOf]; omega
      · obtain ⟨z0, rfl⟩ := Int.eq_ofNat_of_zero_le (show 0 ≤ z by omega)
        have hzn : z0 < n := by rw [HN.out] at hzl; omega
        obtain ⟨b2, o2, s, rfl, hs, hcs⟩ := RI.at_ (RI.ext HA.out (by exact extX : Ext w (w.alloc (.cells #[.int .i64 W.var, .slice A n c, .slice B m d] 48)))) hzn
        have hsb := HS.out s (List.mem_of_getElem? hs)
        obtain ⟨hs1, hs2⟩ := hsb
        have HV := Lib.hid (wt1_sym (W := W) h0 (by rw [Int.toNat_natCast]; exact hs))
        clear hs hzl
        have hzi : (z0 : Int) < (n : Int) := by omega
        go_wp2
        go_round
        case rel => exact ⟨k + 1, by go_num, by omega, y + s, by go_num, Lib.hid (by rw [HZ.out, ← hy.out, HV.out]), by omega, by omega⟩
        case measure => simp only [intOf]; omega
    · go_wp2
      go_ret
      exact ⟨ret_int (by rw [hy.out, List.take_of_length_le (by rw [HL.out]; omega)]), by exact extX⟩
set_option maxHeartbeats 1000000 in
theorem c_l14Weight {v0 v1 : Value} {W : Wt} {t : List Int} {w : World} (h0 : RdWt w v0 W) (h1 : RdI w v1 t) (hW : WB W) (ht : ∀ x ∈ t, x < W.sym.length) :
    Calls Try.prog 175 #[v0, v1] w fun e w' => e = .returned (.int .i64 (wtOf W t)) ∧ Ext w w' := by
  obtain ⟨A, n, c, B, m, d, rfl, ha, hb⟩ := h0
  obtain ⟨D, q, l, rfl, hd⟩ := h1
  have hq := hd.le
  obtain ⟨⟨hv1, hv2⟩, hs⟩ := hW
  have hn := ha.len
  have hnl := ha.le
  have HA := Lib.hid ha
  have HD := Lib.hid hd
  have HS := Lib.hid hs
  have HT := Lib.hid ht
  have HN := Lib.hid hn
  have HL := Lib.hid hd.len
  clear ha hb hd hs ht hn
  go_enter Try.func175, Try.ntmps175
  go_wp2_with fail
  obtain ⟨wo, hwo⟩ : ∃ wo, wo = w.alloc (.cells #[.int .i64 W.var, .slice A n c, .slice B m d] 48) := ⟨_, rfl⟩
  have hb0 : wo.cell? ⟨w.heap.size, 0, none⟩ = some (.int .i64 W.var) := by rw [hwo]; simp [go_sem]
  have hb1 : wo.cell? ⟨w.heap.size, 1, none⟩ = some (.slice A n c) := by rw [hwo]; simp [go_sem]
  have hEo : Ext w wo := by rw [hwo]; exact extX
  rw [← hwo]
  clear hwo
  go_loopw [5, 6] (fun a i wr => ∃ k : Nat, i = .int .i64 k ∧ k ≤ q ∧ (∃ y : Int, a = .int .i64 y ∧ Hid (y = wtOf W (t.take k)) ∧ 0 ≤ y ∧ y ≤ 20 * k) ∧ Ext wo wr) (fun _ i _ => q - (intOf i).toNat)
  case atStart => exact ⟨0, rfl, Nat.zero_le _, ⟨0, rfl, Lib.hid (by simp [wtOf]), by omega, by omega⟩, by exact extX⟩
  case round =>
    obtain ⟨k, rfl, hk, ⟨y, rfl, hy, hy0, hy1⟩, hE⟩ := hrel
    have hr0 : wr.cell? ⟨w.heap.size, 0, none⟩ = some (.int .i64 W.var) := Ext.keep hE hb0
    have hr1 : wr.cell? ⟨w.heap.size, 1, none⟩ = some (.slice A n c) := Ext.keep hE hb1
    by_cases hlt : k < q
    · obtain ⟨b', o', z, rfl, hz, hcz⟩ := RI.at_ (RI.ext HD.out (by exact extX : Ext w wr)) hlt
      have hzl := HT.out z (List.mem_of_getElem? hz)
      have HZ := Lib.hid (wtOf_snoc (W := W) hz)
      clear hz
      by_cases h0 : z < 0
      · have HV := Lib.hid (wt1_var (W := W) h0)
        go_wp2
        go_roundw
        case rel => exact ⟨k + 1, by go_num, by omega, ⟨y + W.var, by go_num, Lib.hid (by rw [HZ.out, ← hy.out, HV.out]), by omega, by omega⟩, by exact extX⟩
        case measure => simp only [intOf]; omega
      · obtain ⟨z0, rfl⟩ := Int.eq_ofNat_of_zero_le (show 0 ≤ z by omega)
        have hzn : z0 < n := by rw [HN.out] at hzl; omega
        obtain ⟨b2, o2, s, rfl, hs, hcs⟩ := RI.at_ (RI.ext HA.out (by exact extX : Ext w wr)) hzn
        have hsb := HS.out s (List.mem_of_getElem? hs)
        obtain ⟨hs1, hs2⟩ := hsb
        have HV := Lib.hid (wt1_sym (W := W) h0 (by rw [Int.toNat_natCast]; exact hs))
        clear hs hzl
        have hzi : (z0 : Int) < (n : Int) := by omega
        have hki : (k : Int) < (q : Int) := by omega
        go_wp2_with fail
        go_quiet (fail)
        go_wp2
        go_roundw
        case rel => exact ⟨k + 1, by go_num, by omega, ⟨y + s, by go_num, Lib.hid (by rw [HZ.out, ← hy.out, HV.out]), by omega, by omega⟩, by exact extX⟩
        case measure => simp only [intOf]; omega
    · go_wp2
      go_ret
      exact ⟨ret_int (by rw [hy.out, List.take_of_length_le (by rw [HL.out]; omega)]), by exact extX⟩

end Go.Proofs.Ytjmdfjinicbkeaa
