/- Several texts in one: Marked, FormZ, FormP. -/
import Derived.Test.YtljbjabgdalabaaPolysOk
import Derived.Test.YtljbjabgdalabaaMStrict
import Derived.Test.YtljbjabgdalabaaHeld
import Derived.Test.YtljbjabgdalabaaHfE
import Derived.Test.YtljbjabgdalabaaHfB
-- rd: RdPl RdPs RdPc
namespace Go.Proofs.Ytljbjabgdalabaa
open Go.RowKit
set_option linter.unusedSimpArgs false
set_option linter.unusedVariables false

/-! Marked -/
theorem RP.take {w : World} {A : Option Addr} {m k : Nat} {ps : List Pl} (h : RP w A m ps) (hk : k ≤ m) : RP w A k (ps.take k) := by
  refine ⟨⟨by rw [List.length_take, h.len]; omega, by have := h.le; omega⟩, fun h0 => ?_⟩
  obtain ⟨b, o, hA, hc⟩ := h.2 (by omega)
  refine ⟨b, o, hA, fun j p hp => ?_⟩
  rw [List.getElem?_take] at hp
  split at hp
  · exact hc j p hp
  · cases hp
theorem RP.drop {w : World} {b o m k : Nat} {ps : List Pl} (h : RP w (some ⟨b, o, none⟩) m ps) (hk : k ≤ m) : RP w (some ⟨b, o + k * 2, none⟩) (m - k) (ps.drop k) := by
  refine ⟨⟨by rw [List.length_drop, h.len], by have := h.le; omega⟩, fun h0 => ?_⟩
  obtain ⟨b', o', hA, hc⟩ := h.2 (by omega)
  cases hA
  refine ⟨b, o + k * 2, rfl, fun j p hp => ?_⟩
  rw [List.getElem?_drop] at hp
  have := hc (k + j) p hp
  rw [show o + k * 2 + j * 2 = o + (k + j) * 2 by omega]
  exact this
/-- Polynomials of which the slice holds room for all. -/
def RdPc (w : World) (v : Value) (ps : List Pl) : Prop := ∃ A n c, v = .slice A n c ∧ n ≤ c ∧ c ≤ 9223372036854775807 ∧ RP w A n ps
theorem RdPc.mk {w : World} {A : Option Addr} {n : Nat} {ps : List Pl} (h : RP w A n ps) : RdPc w (.slice A n n) ps := ⟨A, n, n, rfl, Nat.le_refl _, by have := h.le; omega, h⟩
theorem RP.zero {w : World} {A A' : Option Addr} {m k : Nat} {ps : List Pl} (h : RP w A m ps) (hk : m ≤ k) : RP w A' (m - k) (ps.drop k) := by
  refine ⟨⟨by rw [List.length_drop, h.len], by have := h.le; omega⟩, fun h0 => by omega⟩
theorem RP.hi {w : World} {A : Option Addr} {m k d : Nat} {ps : List Pl} (h : RP w A m ps) (hk : k ≤ m) (hd : m ≤ d) : RP w (if d = k then A else A.map (·.add (k * 2))) (m - k) (ps.drop k) := by
  by_cases e : d = k
  · exact h.zero (by omega)
  · rw [if_neg e]
    by_cases e2 : m ≤ k
    · exact h.zero e2
    · obtain ⟨b, o, hA, _⟩ := h.2 (by omega)
      subst hA
      have := h.drop hk
      by_cases e3 : k * 2 = 0
      · have ek : k = 0 := by omega
        subst ek
        simpa [Addr.add] using this
      · simpa [Addr.add, e3] using this
theorem RP.hi' {w : World} {A : Option Addr} {m k d : Nat} {ps : List Pl} (h : RP w A m ps) (hk : k ≤ m) (hd : m ≤ d) (hn : ¬ d = k) : RP w (A.map (·.add (k * 2))) (m - k) (ps.drop k) := by
  have := h.hi hk hd
  rwa [if_neg hn] at this
theorem markedOk_len {ar : List Int} {ps : List Pl} (h : ¬ ps.length = 2 * ar.length) : markedOk ar ps = false := by
  unfold markedOk; rw [decide_eq_false h]; rfl
theorem markedOk_1 {ar : List Int} {ps : List Pl} (h : polysOk ar (ps.take ar.length) = false) : markedOk ar ps = false := by
  unfold markedOk; rw [h]; simp
theorem markedOk_2 {ar : List Int} {ps : List Pl} (h : polysOk ar (ps.drop ar.length) = false) : markedOk ar ps = false := by
  unfold markedOk; rw [h]; simp
theorem markedOk_t {ar : List Int} {ps : List Pl} (h0 : ps.length = 2 * ar.length) (h1 : polysOk ar (ps.take ar.length) = true) (h2 : polysOk ar (ps.drop ar.length) = true) : markedOk ar ps = true := by
  unfold markedOk; rw [h1, h2, decide_eq_true h0]; rfl

set_option maxRecDepth 100000 in
set_option maxHeartbeats 2000000 in
theorem c_sMarkedOk {v0 v1 : Value} {ar : List Int} {ps : List Pl} {w : World} (h0 : RdSig w v0 ar) (h1 : RdPc w v1 ps) :
    Calls Try.prog 52 #[v0, v1] w fun e w' => e = .returned (.bool (markedOk ar ps)) ∧ Ext w w' := by
  obtain ⟨A, n, c, rfl, ha⟩ := h0
  obtain ⟨B, m, d, rfl, hmd, hd, hb⟩ := h1
  have hn := ha.le
  have hm := hb.le
  have HA := Lib.hid ha
  have HB := Lib.hid hb
  have HL := Lib.hid ha.len
  have HM := Lib.hid hb.len
  clear ha hb
  have e2 : IntKind.i64.wrap (2 * (n : Int)) = 2 * (n : Int) := IntWalk.i64_in _ (by omega)
  by_cases hmn : m = 2 * n
  · have e1 : ((m : Int) == 2 * (n : Int)) = true := by simp; omega
    go_enter Try.func52, Try.ntmps52
    go_wp2_with fail
    obtain ⟨wq, hwq⟩ : ∃ wq, wq = w.alloc (.cells #[.slice A n c] 29) := ⟨_, rfl⟩
    have hq0 : wq.cell? ⟨w.heap.size, 0, none⟩ = some (.slice A n c) := by rw [hwq]; simp [go_sem]
    have hEq : Ext w wq := by rw [hwq]; exact extX
    rw [← hwq]
    clear hwq
    have hqs : w.heap.size < wq.heap.size := World.block_lt_of_cell? wq _ hq0
    have hn0 : (0 : Int) ≤ (n : Int) := by omega
    have hnd : (n : Int) ≤ (d : Int) := by omega
    have hnm : (n : Int) ≤ (m : Int) := by omega
    have HMN := Lib.hid hmn
    clear hmn
    cases hp1 : polysOk ar (ps.take n) with
    | false =>
      have HP1 := Lib.hid hp1
      have HR := Lib.hid (markedOk_1 (ar := ar) (ps := ps) (by rw [HL.out]; exact hp1))
      clear hp1
      refine wp_region_held_drew (S := (fun w' => w'.cell? ⟨w.heap.size, 0, none⟩ = some (.slice A n c) ∧ Ext w w')) (by kernel_rfl) ?_ (fun hH => ?_)
      · exact ⟨by simpa [go_sem] using hq0, hEq.drew⟩
      refine wpAnyH_take_dst (i := 0) (v := .slice B m d) (d := some 9) rfl rfl (by kernel_rfl) (by kernel_rfl) (by kernel_rfl) (fun _ _ _ h => h) (Or.inl ⟨by rfl, ?_⟩) hH ?_
      · (intro w hSw; (try dsimp only at hSw); go_split_ands; go_simp; try with_reducible rfl)
      try simp only [Act.put, List.setIfInBounds_toArray, List.set_cons_zero, List.set_cons_succ]
      refine wpAnyH_take_dst (i := 1) (v := .int .i64 m) (d := some 10) rfl rfl (by kernel_rfl) (by kernel_rfl) (by kernel_rfl) (fun _ _ _ h => h) (Or.inl ⟨by rfl, ?_⟩) hH ?_
      · (intro w hSw; (try dsimp only at hSw); go_split_ands; go_simp; try with_reducible rfl)
      try simp only [Act.put, List.setIfInBounds_toArray, List.set_cons_zero, List.set_cons_succ]
      refine wpAnyH_take_dst (i := 2) (v := .int .i64 n) (d := some 11) rfl rfl (by kernel_rfl) (by kernel_rfl) (by kernel_rfl) (fun _ _ _ h => h) (Or.inl ⟨by rfl, ?_⟩) hH ?_
      · (intro w hSw; (try dsimp only at hSw); go_split_ands; go_simp; try with_reducible rfl)
      try simp only [Act.put, List.setIfInBounds_toArray, List.set_cons_zero, List.set_cons_succ]
      refine wpAnyH_take_dst (i := 3) (v := .int .i64 (2 * (n : Int))) (d := some 12) rfl rfl (by kernel_rfl) (by kernel_rfl) (by kernel_rfl) (fun _ _ _ h => h) (Or.inl ⟨by rfl, ?_⟩) hH ?_
      · (intro w hSw; (try dsimp only at hSw); go_split_ands; go_simp; try with_reducible rfl)
      try simp only [Act.put, List.setIfInBounds_toArray, List.set_cons_zero, List.set_cons_succ]
      refine wpAnyH_take_dst (i := 4) (v := .bool true) (d := some 13) rfl rfl (by kernel_rfl) (by kernel_rfl) (by kernel_rfl) (fun _ _ _ h => h) (Or.inl ⟨by rfl, ?_⟩) hH ?_
      · (intro w hSw; (try dsimp only at hSw); go_split_ands; go_simp; try with_reducible rfl)
      try simp only [Act.put, List.setIfInBounds_toArray, List.set_cons_zero, List.set_cons_succ]
      refine wpAnyH_take_dst (i := 5) (v := .bool true) (d := some 14) rfl rfl (by kernel_rfl) (by kernel_rfl) (by kernel_rfl) (fun _ _ _ h => h) (Or.inl ⟨by rfl, ?_⟩) hH ?_
      · (intro w hSw; (try dsimp only at hSw); go_split_ands; go_simp; try with_reducible rfl)
      try simp only [Act.put, List.setIfInBounds_toArray, List.set_cons_zero, List.set_cons_succ]
      refine wpAnyH_take_dst (i := 6) (v := .agg #[.slice A n c]) (d := some 15) rfl rfl (by kernel_rfl) (by kernel_rfl) (by kernel_rfl) (fun _ _ _ h => h) (Or.inl ⟨by rfl, ?_⟩) hH ?_
      · (intro w hSw; (try dsimp only at hSw); go_split_ands; go_simp; try with_reducible rfl)
      try simp only [Act.put, List.setIfInBounds_toArray, List.set_cons_zero, List.set_cons_succ]
      refine wpAnyH_take_dst (i := 7) (v := .slice B m d) (d := some 16) rfl rfl (by kernel_rfl) (by kernel_rfl) (by kernel_rfl) (fun _ _ _ h => h) (Or.inl ⟨by rfl, ?_⟩) hH ?_
      · (intro w hSw; (try dsimp only at hSw); go_split_ands; go_simp; try with_reducible rfl)
      try simp only [Act.put, List.setIfInBounds_toArray, List.set_cons_zero, List.set_cons_succ]
      refine wpAnyH_take_dst (i := 8) (v := .int .i64 n) (d := some 17) rfl rfl (by kernel_rfl) (by kernel_rfl) (by kernel_rfl) (fun _ _ _ h => h) (Or.inl ⟨by rfl, ?_⟩) hH ?_
      · (intro w hSw; (try dsimp only at hSw); go_split_ands; go_simp; try with_reducible rfl)
      try simp only [Act.put, List.setIfInBounds_toArray, List.set_cons_zero, List.set_cons_succ]
      refine wpAnyH_take_dst (i := 9) (v := .slice B n d) (d := some 18) rfl rfl (by kernel_rfl) (by kernel_rfl) (by kernel_rfl) (fun _ _ _ h => h) (Or.inl ⟨by rfl, ?_⟩) hH ?_
      · (intro w hSw; (try dsimp only at hSw); go_split_ands; go_simp; try with_reducible rfl)
      try simp only [Act.put, List.setIfInBounds_toArray, List.set_cons_zero, List.set_cons_succ]
      refine wpAnyH_ready (rs := [10]) (by kernel_rfl) (by simp) ?_
      refine AllReadyH.cons rfl (fun K hK => ?_) AllReadyH.nil
      rw [if_pos (by rfl)]
      go_wp2_with (go_at_call 47; (with_reducible refine ((c_sPolysOk' HP1.out (ar := ar) (ps := ps.take n) (RdSig.mk (RI.ext HA.out hH.2)) (RdPs.mk (RP.ext (RP.take HB.out (by omega)) hH.2)))).mono ?_); rintro e w9 ⟨rfl, hE9⟩)
      refine hK.out _ _ ⟨Ext.keep hE9 hH.1, Ext.trans hH.2 hE9⟩ (fun hH9 => ?_)
      clear hK hH; have hH := hH9; clear hH9
      try simp only [Act.put, List.setIfInBounds_toArray, List.set_cons_zero, List.set_cons_succ]
      refine wpAnyH_take_dst (i := 11) (v := .bool false) (d := some 20) rfl rfl (by kernel_rfl) (by kernel_rfl) (by kernel_rfl) (fun _ _ _ h => h) (Or.inl ⟨by rfl, ?_⟩) hH ?_
      · (intro w hSw; (try dsimp only at hSw); go_split_ands; go_simp; try with_reducible rfl)
      try simp only [Act.put, List.setIfInBounds_toArray, List.set_cons_zero, List.set_cons_succ]
      refine wpAnyH_take_dst (i := 12) (v := .bool false) (d := some 21) rfl rfl (by kernel_rfl) (by kernel_rfl) (by kernel_rfl) (fun _ _ _ h => h) (Or.inl ⟨by rfl, ?_⟩) hH ?_
      · (intro w hSw; (try dsimp only at hSw); go_split_ands; go_simp; try with_reducible rfl)
      try simp only [Act.put, List.setIfInBounds_toArray, List.set_cons_zero, List.set_cons_succ]
      refine wpAnyH_take_dst (i := 13) (v := undef) (d := some 22) rfl rfl (by kernel_rfl) (by kernel_rfl) (by kernel_rfl) (fun _ _ _ h => h) (Or.inr ⟨by rfl, rfl⟩) hH ?_
      try simp only [Act.put, List.setIfInBounds_toArray, List.set_cons_zero, List.set_cons_succ]
      refine wpAnyH_take_dst (i := 14) (v := undef) (d := some 23) rfl rfl (by kernel_rfl) (by kernel_rfl) (by kernel_rfl) (fun _ _ _ h => h) (Or.inr ⟨by rfl, rfl⟩) hH ?_
      try simp only [Act.put, List.setIfInBounds_toArray, List.set_cons_zero, List.set_cons_succ]
      refine wpAnyH_take_dst (i := 15) (v := undef) (d := some 24) rfl rfl (by kernel_rfl) (by kernel_rfl) (by kernel_rfl) (fun _ _ _ h => h) (Or.inr ⟨by rfl, rfl⟩) hH ?_
      try simp only [Act.put, List.setIfInBounds_toArray, List.set_cons_zero, List.set_cons_succ]
      refine wpAnyH_take_dst (i := 16) (v := undef) (d := some 25) rfl rfl (by kernel_rfl) (by kernel_rfl) (by kernel_rfl) (fun _ _ _ h => h) (Or.inr ⟨by rfl, rfl⟩) hH ?_
      try simp only [Act.put, List.setIfInBounds_toArray, List.set_cons_zero, List.set_cons_succ]
      refine wpAnyH_take_dst (i := 17) (v := undef) (d := some 26) rfl rfl (by kernel_rfl) (by kernel_rfl) (by kernel_rfl) (fun _ _ _ h => h) (Or.inr ⟨by rfl, rfl⟩) hH ?_
      try simp only [Act.put, List.setIfInBounds_toArray, List.set_cons_zero, List.set_cons_succ]
      refine wpAnyH_take_dst (i := 18) (v := .bool false) (d := some 27) rfl rfl (by kernel_rfl) (by kernel_rfl) (by kernel_rfl) (fun _ _ _ h => h) (Or.inl ⟨by rfl, ?_⟩) hH ?_
      · (intro w hSw; (try dsimp only at hSw); go_split_ands; go_simp; try with_reducible rfl)
      try simp only [Act.put, List.setIfInBounds_toArray, List.set_cons_zero, List.set_cons_succ]
      refine wpAnyH_take_dst (i := 19) (v := .bool false) (d := some 4) rfl rfl (by kernel_rfl) (by kernel_rfl) (by kernel_rfl) (fun _ _ _ h => h) (Or.inl ⟨by rfl, ?_⟩) hH ?_
      · (intro w hSw; (try dsimp only at hSw); go_split_ands; go_simp; try with_reducible rfl)
      try simp only [Act.put, List.setIfInBounds_toArray, List.set_cons_zero, List.set_cons_succ]
      refine wpAnyH_done (by kernel_rfl) ?_ _
      go_wp2
      go_ret
      exact ⟨ret_bool HR.out.symm, by exact extX⟩
    | true =>
      have HP1 := Lib.hid hp1
      have hn1 : 1 ≤ n := by have := (polysOk_iff.1 hp1).1.1; rw [HL.out] at this; exact this
      have hdn : ¬ d = n := by have := HMN.out; omega
      cases hp2 : polysOk ar (ps.drop n) with
      | false =>
        have HP2 := Lib.hid hp2
        have HR := Lib.hid (markedOk_2 (ar := ar) (ps := ps) (by rw [HL.out]; exact hp2))
        clear hp1 hp2
        first
        | (go_region_held3 (fun w' => w'.cell? ⟨w.heap.size, 0, none⟩ = some (.slice A n c) ∧ Ext w w')
            (first
              | exact ⟨by simpa [go_sem] using hq0, hEq.drew⟩
              | (go_split_ands; exact ⟨Ext.keep hE9 (by assumption), Ext.trans (by assumption) hE9⟩)
              | (go_split_ands; exact ⟨by assumption, by assumption⟩))
            (first
              | (go_split_ands; go_at_call 47; (with_reducible refine (c_sPolysOk' HP1.out (ar := ar) (ps := ps.take n) (RdSig.mk (RI.ext HA.out (by assumption))) (RdPs.mk (RP.ext (RP.take HB.out (by omega)) (by assumption)))).mono ?_); rintro e w9 ⟨rfl, hE9⟩)
              | (go_split_ands; go_at_call 47; (with_reducible refine (c_sPolysOk' HP2.out (ar := ar) (ps := ps.drop n) (RdSig.mk (RI.ext HA.out (by assumption))) (RdPs.mk (RP.ext (RP.hi' HB.out (by omega) hmd hdn) (by assumption)))).mono ?_); rintro e w9 ⟨rfl, hE9⟩)))
        | fail
        go_wp2
        go_ret
        exact ⟨ret_bool HR.out.symm, by exact extX⟩
      | true =>
        have HP2 := Lib.hid hp2
        have HR := Lib.hid (markedOk_t (ar := ar) (ps := ps) (by rw [HL.out, HM.out]; exact HMN.out) (by rw [HL.out]; exact hp1) (by rw [HL.out]; exact hp2))
        clear hp1 hp2
        first
        | (go_region_held3 (fun w' => w'.cell? ⟨w.heap.size, 0, none⟩ = some (.slice A n c) ∧ Ext w w')
            (first
              | exact ⟨by simpa [go_sem] using hq0, hEq.drew⟩
              | (go_split_ands; exact ⟨Ext.keep hE9 (by assumption), Ext.trans (by assumption) hE9⟩)
              | (go_split_ands; exact ⟨by assumption, by assumption⟩))
            (first
              | (go_split_ands; go_at_call 47; (with_reducible refine (c_sPolysOk' HP1.out (ar := ar) (ps := ps.take n) (RdSig.mk (RI.ext HA.out (by assumption))) (RdPs.mk (RP.ext (RP.take HB.out (by omega)) (by assumption)))).mono ?_); rintro e w9 ⟨rfl, hE9⟩)
              | (go_split_ands; go_at_call 47; (with_reducible refine (c_sPolysOk' HP2.out (ar := ar) (ps := ps.drop n) (RdSig.mk (RI.ext HA.out (by assumption))) (RdPs.mk (RP.ext (RP.hi' HB.out (by omega) hmd hdn) (by assumption)))).mono ?_); rintro e w9 ⟨rfl, hE9⟩)))
        | fail
        go_wp2
        go_ret
        exact ⟨ret_bool HR.out.symm, by exact extX⟩
  · have e1 : ((m : Int) == 2 * (n : Int)) = false := by simp; omega
    have HR := Lib.hid (markedOk_len (ar := ar) (ps := ps) (by rw [HL.out, HM.out]; exact hmn))
    go_enter Try.func52, Try.ntmps52
    go_wp2_with fail
    go_quiet (fail)
    go_wp2
    go_ret
    exact ⟨ret_bool HR.out.symm, by exact extX⟩

set_option maxRecDepth 100000 in
set_option maxHeartbeats 2000000 in
theorem c_iMarkedOk {v0 v1 : Value} {ar : List Int} {ps : List Pl} {w : World} (h0 : RdSig w v0 ar) (h1 : RdPc w v1 ps) :
    Calls Try.prog 19 #[v0, v1] w fun e w' => e = .returned (.bool (markedOk ar ps)) ∧ Ext w w' := by
  obtain ⟨A, n, c, rfl, ha⟩ := h0
  obtain ⟨B, m, d, rfl, hmd, hd, hb⟩ := h1
  have hn := ha.le
  have hm := hb.le
  have HA := Lib.hid ha
  have HB := Lib.hid hb
  have HL := Lib.hid ha.len
  have HM := Lib.hid hb.len
  clear ha hb
  have e2 : IntKind.i64.wrap (2 * (n : Int)) = 2 * (n : Int) := IntWalk.i64_in _ (by omega)
  by_cases hmn : m = 2 * n
  · have e1 : ((m : Int) == 2 * (n : Int)) = true := by simp; omega
    go_enter Try.func19, Try.ntmps19
    go_wp2_with fail
    obtain ⟨wq, hwq⟩ : ∃ wq, wq = w.alloc (.cells #[.slice A n c] 29) := ⟨_, rfl⟩
    have hq0 : wq.cell? ⟨w.heap.size, 0, none⟩ = some (.slice A n c) := by rw [hwq]; simp [go_sem]
    have hEq : Ext w wq := by rw [hwq]; exact extX
    rw [← hwq]
    clear hwq
    have hqs : w.heap.size < wq.heap.size := World.block_lt_of_cell? wq _ hq0
    have hn0 : (0 : Int) ≤ (n : Int) := by omega
    have hnd : (n : Int) ≤ (d : Int) := by omega
    have hnm : (n : Int) ≤ (m : Int) := by omega
    have HMN := Lib.hid hmn
    clear hmn
    cases hp1 : polysOk ar (ps.take n) with
    | false =>
      have HP1 := Lib.hid hp1
      have HR := Lib.hid (markedOk_1 (ar := ar) (ps := ps) (by rw [HL.out]; exact hp1))
      clear hp1
      refine wp_region_held_drew (S := (fun w' => w'.cell? ⟨w.heap.size, 0, none⟩ = some (.slice A n c) ∧ Ext w w')) (by kernel_rfl) ?_ (fun hH => ?_)
      · exact ⟨by simpa [go_sem] using hq0, hEq.drew⟩
      refine wpAnyH_take_dst (i := 0) (v := .slice B m d) (d := some 9) rfl rfl (by kernel_rfl) (by kernel_rfl) (by kernel_rfl) (fun _ _ _ h => h) (Or.inl ⟨by rfl, ?_⟩) hH ?_
      · (intro w hSw; (try dsimp only at hSw); go_split_ands; go_simp; try with_reducible rfl)
      try simp only [Act.put, List.setIfInBounds_toArray, List.set_cons_zero, List.set_cons_succ]
      refine wpAnyH_take_dst (i := 1) (v := .int .i64 m) (d := some 10) rfl rfl (by kernel_rfl) (by kernel_rfl) (by kernel_rfl) (fun _ _ _ h => h) (Or.inl ⟨by rfl, ?_⟩) hH ?_
      · (intro w hSw; (try dsimp only at hSw); go_split_ands; go_simp; try with_reducible rfl)
      try simp only [Act.put, List.setIfInBounds_toArray, List.set_cons_zero, List.set_cons_succ]
      refine wpAnyH_take_dst (i := 2) (v := .int .i64 n) (d := some 11) rfl rfl (by kernel_rfl) (by kernel_rfl) (by kernel_rfl) (fun _ _ _ h => h) (Or.inl ⟨by rfl, ?_⟩) hH ?_
      · (intro w hSw; (try dsimp only at hSw); go_split_ands; go_simp; try with_reducible rfl)
      try simp only [Act.put, List.setIfInBounds_toArray, List.set_cons_zero, List.set_cons_succ]
      refine wpAnyH_take_dst (i := 3) (v := .int .i64 (2 * (n : Int))) (d := some 12) rfl rfl (by kernel_rfl) (by kernel_rfl) (by kernel_rfl) (fun _ _ _ h => h) (Or.inl ⟨by rfl, ?_⟩) hH ?_
      · (intro w hSw; (try dsimp only at hSw); go_split_ands; go_simp; try with_reducible rfl)
      try simp only [Act.put, List.setIfInBounds_toArray, List.set_cons_zero, List.set_cons_succ]
      refine wpAnyH_take_dst (i := 4) (v := .bool true) (d := some 13) rfl rfl (by kernel_rfl) (by kernel_rfl) (by kernel_rfl) (fun _ _ _ h => h) (Or.inl ⟨by rfl, ?_⟩) hH ?_
      · (intro w hSw; (try dsimp only at hSw); go_split_ands; go_simp; try with_reducible rfl)
      try simp only [Act.put, List.setIfInBounds_toArray, List.set_cons_zero, List.set_cons_succ]
      refine wpAnyH_take_dst (i := 5) (v := .bool true) (d := some 14) rfl rfl (by kernel_rfl) (by kernel_rfl) (by kernel_rfl) (fun _ _ _ h => h) (Or.inl ⟨by rfl, ?_⟩) hH ?_
      · (intro w hSw; (try dsimp only at hSw); go_split_ands; go_simp; try with_reducible rfl)
      try simp only [Act.put, List.setIfInBounds_toArray, List.set_cons_zero, List.set_cons_succ]
      refine wpAnyH_take_dst (i := 6) (v := .agg #[.slice A n c]) (d := some 15) rfl rfl (by kernel_rfl) (by kernel_rfl) (by kernel_rfl) (fun _ _ _ h => h) (Or.inl ⟨by rfl, ?_⟩) hH ?_
      · (intro w hSw; (try dsimp only at hSw); go_split_ands; go_simp; try with_reducible rfl)
      try simp only [Act.put, List.setIfInBounds_toArray, List.set_cons_zero, List.set_cons_succ]
      refine wpAnyH_take_dst (i := 7) (v := .slice B m d) (d := some 16) rfl rfl (by kernel_rfl) (by kernel_rfl) (by kernel_rfl) (fun _ _ _ h => h) (Or.inl ⟨by rfl, ?_⟩) hH ?_
      · (intro w hSw; (try dsimp only at hSw); go_split_ands; go_simp; try with_reducible rfl)
      try simp only [Act.put, List.setIfInBounds_toArray, List.set_cons_zero, List.set_cons_succ]
      refine wpAnyH_take_dst (i := 8) (v := .int .i64 n) (d := some 17) rfl rfl (by kernel_rfl) (by kernel_rfl) (by kernel_rfl) (fun _ _ _ h => h) (Or.inl ⟨by rfl, ?_⟩) hH ?_
      · (intro w hSw; (try dsimp only at hSw); go_split_ands; go_simp; try with_reducible rfl)
      try simp only [Act.put, List.setIfInBounds_toArray, List.set_cons_zero, List.set_cons_succ]
      refine wpAnyH_take_dst (i := 9) (v := .slice B n d) (d := some 18) rfl rfl (by kernel_rfl) (by kernel_rfl) (by kernel_rfl) (fun _ _ _ h => h) (Or.inl ⟨by rfl, ?_⟩) hH ?_
      · (intro w hSw; (try dsimp only at hSw); go_split_ands; go_simp; try with_reducible rfl)
      try simp only [Act.put, List.setIfInBounds_toArray, List.set_cons_zero, List.set_cons_succ]
      refine wpAnyH_ready (rs := [10]) (by kernel_rfl) (by simp) ?_
      refine AllReadyH.cons rfl (fun K hK => ?_) AllReadyH.nil
      rw [if_pos (by rfl)]
      go_wp2_with (go_at_call 32; (with_reducible refine ((c_iPolysOk' HP1.out (ar := ar) (ps := ps.take n) (RdSig.mk (RI.ext HA.out hH.2)) (RdPs.mk (RP.ext (RP.take HB.out (by omega)) hH.2)))).mono ?_); rintro e w9 ⟨rfl, hE9⟩)
      refine hK.out _ _ ⟨Ext.keep hE9 hH.1, Ext.trans hH.2 hE9⟩ (fun hH9 => ?_)
      clear hK hH; have hH := hH9; clear hH9
      try simp only [Act.put, List.setIfInBounds_toArray, List.set_cons_zero, List.set_cons_succ]
      refine wpAnyH_take_dst (i := 11) (v := .bool false) (d := some 20) rfl rfl (by kernel_rfl) (by kernel_rfl) (by kernel_rfl) (fun _ _ _ h => h) (Or.inl ⟨by rfl, ?_⟩) hH ?_
      · (intro w hSw; (try dsimp only at hSw); go_split_ands; go_simp; try with_reducible rfl)
      try simp only [Act.put, List.setIfInBounds_toArray, List.set_cons_zero, List.set_cons_succ]
      refine wpAnyH_take_dst (i := 12) (v := .bool false) (d := some 21) rfl rfl (by kernel_rfl) (by kernel_rfl) (by kernel_rfl) (fun _ _ _ h => h) (Or.inl ⟨by rfl, ?_⟩) hH ?_
      · (intro w hSw; (try dsimp only at hSw); go_split_ands; go_simp; try with_reducible rfl)
      try simp only [Act.put, List.setIfInBounds_toArray, List.set_cons_zero, List.set_cons_succ]
      refine wpAnyH_take_dst (i := 13) (v := undef) (d := some 22) rfl rfl (by kernel_rfl) (by kernel_rfl) (by kernel_rfl) (fun _ _ _ h => h) (Or.inr ⟨by rfl, rfl⟩) hH ?_
      try simp only [Act.put, List.setIfInBounds_toArray, List.set_cons_zero, List.set_cons_succ]
      refine wpAnyH_take_dst (i := 14) (v := undef) (d := some 23) rfl rfl (by kernel_rfl) (by kernel_rfl) (by kernel_rfl) (fun _ _ _ h => h) (Or.inr ⟨by rfl, rfl⟩) hH ?_
      try simp only [Act.put, List.setIfInBounds_toArray, List.set_cons_zero, List.set_cons_succ]
      refine wpAnyH_take_dst (i := 15) (v := undef) (d := some 24) rfl rfl (by kernel_rfl) (by kernel_rfl) (by kernel_rfl) (fun _ _ _ h => h) (Or.inr ⟨by rfl, rfl⟩) hH ?_
      try simp only [Act.put, List.setIfInBounds_toArray, List.set_cons_zero, List.set_cons_succ]
      refine wpAnyH_take_dst (i := 16) (v := undef) (d := some 25) rfl rfl (by kernel_rfl) (by kernel_rfl) (by kernel_rfl) (fun _ _ _ h => h) (Or.inr ⟨by rfl, rfl⟩) hH ?_
      try simp only [Act.put, List.setIfInBounds_toArray, List.set_cons_zero, List.set_cons_succ]
      refine wpAnyH_take_dst (i := 17) (v := undef) (d := some 26) rfl rfl (by kernel_rfl) (by kernel_rfl) (by kernel_rfl) (fun _ _ _ h => h) (Or.inr ⟨by rfl, rfl⟩) hH ?_
      try simp only [Act.put, List.setIfInBounds_toArray, List.set_cons_zero, List.set_cons_succ]
      refine wpAnyH_take_dst (i := 18) (v := .bool false) (d := some 27) rfl rfl (by kernel_rfl) (by kernel_rfl) (by kernel_rfl) (fun _ _ _ h => h) (Or.inl ⟨by rfl, ?_⟩) hH ?_
      · (intro w hSw; (try dsimp only at hSw); go_split_ands; go_simp; try with_reducible rfl)
      try simp only [Act.put, List.setIfInBounds_toArray, List.set_cons_zero, List.set_cons_succ]
      refine wpAnyH_take_dst (i := 19) (v := .bool false) (d := some 4) rfl rfl (by kernel_rfl) (by kernel_rfl) (by kernel_rfl) (fun _ _ _ h => h) (Or.inl ⟨by rfl, ?_⟩) hH ?_
      · (intro w hSw; (try dsimp only at hSw); go_split_ands; go_simp; try with_reducible rfl)
      try simp only [Act.put, List.setIfInBounds_toArray, List.set_cons_zero, List.set_cons_succ]
      refine wpAnyH_done (by kernel_rfl) ?_ _
      go_wp2
      go_ret
      exact ⟨ret_bool HR.out.symm, by exact extX⟩
    | true =>
      have HP1 := Lib.hid hp1
      have hn1 : 1 ≤ n := by have := (polysOk_iff.1 hp1).1.1; rw [HL.out] at this; exact this
      have hdn : ¬ d = n := by have := HMN.out; omega
      cases hp2 : polysOk ar (ps.drop n) with
      | false =>
        have HP2 := Lib.hid hp2
        have HR := Lib.hid (markedOk_2 (ar := ar) (ps := ps) (by rw [HL.out]; exact hp2))
        clear hp1 hp2
        first
        | (go_region_held3 (fun w' => w'.cell? ⟨w.heap.size, 0, none⟩ = some (.slice A n c) ∧ Ext w w')
            (first
              | exact ⟨by simpa [go_sem] using hq0, hEq.drew⟩
              | (go_split_ands; exact ⟨Ext.keep hE9 (by assumption), Ext.trans (by assumption) hE9⟩)
              | (go_split_ands; exact ⟨by assumption, by assumption⟩))
            (first
              | (go_split_ands; go_at_call 32; (with_reducible refine (c_iPolysOk' HP1.out (ar := ar) (ps := ps.take n) (RdSig.mk (RI.ext HA.out (by assumption))) (RdPs.mk (RP.ext (RP.take HB.out (by omega)) (by assumption)))).mono ?_); rintro e w9 ⟨rfl, hE9⟩)
              | (go_split_ands; go_at_call 32; (with_reducible refine (c_iPolysOk' HP2.out (ar := ar) (ps := ps.drop n) (RdSig.mk (RI.ext HA.out (by assumption))) (RdPs.mk (RP.ext (RP.hi' HB.out (by omega) hmd hdn) (by assumption)))).mono ?_); rintro e w9 ⟨rfl, hE9⟩)))
        | fail
        go_wp2
        go_ret
        exact ⟨ret_bool HR.out.symm, by exact extX⟩
      | true =>
        have HP2 := Lib.hid hp2
        have HR := Lib.hid (markedOk_t (ar := ar) (ps := ps) (by rw [HL.out, HM.out]; exact HMN.out) (by rw [HL.out]; exact hp1) (by rw [HL.out]; exact hp2))
        clear hp1 hp2
        first
        | (go_region_held3 (fun w' => w'.cell? ⟨w.heap.size, 0, none⟩ = some (.slice A n c) ∧ Ext w w')
            (first
              | exact ⟨by simpa [go_sem] using hq0, hEq.drew⟩
              | (go_split_ands; exact ⟨Ext.keep hE9 (by assumption), Ext.trans (by assumption) hE9⟩)
              | (go_split_ands; exact ⟨by assumption, by assumption⟩))
            (first
              | (go_split_ands; go_at_call 32; (with_reducible refine (c_iPolysOk' HP1.out (ar := ar) (ps := ps.take n) (RdSig.mk (RI.ext HA.out (by assumption))) (RdPs.mk (RP.ext (RP.take HB.out (by omega)) (by assumption)))).mono ?_); rintro e w9 ⟨rfl, hE9⟩)
              | (go_split_ands; go_at_call 32; (with_reducible refine (c_iPolysOk' HP2.out (ar := ar) (ps := ps.drop n) (RdSig.mk (RI.ext HA.out (by assumption))) (RdPs.mk (RP.ext (RP.hi' HB.out (by omega) hmd hdn) (by assumption)))).mono ?_); rintro e w9 ⟨rfl, hE9⟩)))
        | fail
        go_wp2
        go_ret
        exact ⟨ret_bool HR.out.symm, by exact extX⟩
  · have e1 : ((m : Int) == 2 * (n : Int)) = false := by simp; omega
    have HR := Lib.hid (markedOk_len (ar := ar) (ps := ps) (by rw [HL.out, HM.out]; exact hmn))
    go_enter Try.func19, Try.ntmps19
    go_wp2_with fail
    go_quiet (fail)
    go_wp2
    go_ret
    exact ⟨ret_bool HR.out.symm, by exact extX⟩

/-! HeadForm of both. -/
theorem RdPc.mkc {w : World} {A : Option Addr} {n c : Nat} {ps : List Pl} (hnc : n ≤ c) (hc : c ≤ 9223372036854775807) (h : RP w A n ps) : RdPc w (.slice A n c) ps := ⟨A, n, c, rfl, hnc, hc, h⟩
theorem marked_parts {ar : List Int} {ps : List Pl} (h : markedOk ar ps = true) : ps.length = 2 * ar.length ∧ PolysP ar (ps.take ar.length) ∧ PolysP ar (ps.drop ar.length) := by
  unfold markedOk at h
  simp only [Bool.and_eq_true, decide_eq_true_eq] at h
  exact ⟨by omega, polysOk_iff.1 (by simp [h]), polysOk_iff.1 (by simp [h])⟩
theorem marked_at0 {ar : List Int} {ps : List Pl} (h : markedOk ar ps = true) : PsAt ar ps 0 := by
  intro x a hx
  obtain ⟨q, h1, h2⟩ := (marked_parts h).2.1.at0 x a hx
  refine ⟨q, ?_, h2⟩
  rw [List.getElem?_take] at h1
  split at h1
  · exact h1
  · cases h1
theorem marked_atN {ar : List Int} {ps : List Pl} (h : markedOk ar ps = true) : PsAt ar ps ar.length := by
  intro x a hx
  obtain ⟨q, h1, h2⟩ := (marked_parts h).2.2.at0 x a hx
  refine ⟨q, ?_, h2⟩
  rw [List.getElem?_drop, Nat.add_zero] at h1
  rwa [Nat.add_comm]
theorem marked_all {ar : List Int} {ps : List Pl} (h : markedOk ar ps = true) : ∀ p ∈ ps, (0 ≤ p.c ∧ p.c ≤ 9) ∧ ∀ x ∈ p.cf, 0 ≤ x ∧ x ≤ 9 := by
  intro p hp
  rw [← List.take_append_drop ar.length ps] at hp
  rcases List.mem_append.1 hp with hp | hp
  · exact (marked_parts h).2.1.all p hp
  · exact (marked_parts h).2.2.all p hp
mutual
theorem form_take {ar : List Int} {ps : List Pl} : ∀ (u : Tm), u.Ok ar → form (ps.take ar.length) u = form ps u
  | .node x us, hu => by
    obtain ⟨hk, hl⟩ := Ok_node.1 hu
    rw [form_node, form_node, formL_take us hl]
    by_cases hx : x < 0
    · rw [if_pos hx, if_pos hx]
    · rw [if_neg hx, if_neg hx]
      obtain ⟨x0, rfl⟩ := Int.eq_ofNat_of_zero_le (show 0 ≤ x by omega)
      have hlt := arI_lt hk
      rw [Int.toNat_natCast, List.getD_eq_getElem?_getD, List.getD_eq_getElem?_getD, List.getElem?_take, if_pos (by omega)]
theorem formL_take {ar : List Int} {ps : List Pl} : ∀ (us : List Tm), OkL ar us → formL (ps.take ar.length) us = formL ps us
  | [], _ => by rw [formL_nil, formL_nil]
  | a :: us, hu => by
    obtain ⟨h1, h2⟩ := OkL_cons.1 hu
    rw [formL_cons, formL_cons, form_take a h1, formL_take us h2]
end
/-- The form of a term whose head is marked, where all is right. -/
noncomputable def headO (ar : List Int) (ps : List Pl) (t : List Int) : Option Pl := if (markedOk ar ps && termOk ar t) = true then formM ps ar.length (tmOf ar t) else none
theorem headO_f {ar : List Int} {ps : List Pl} {t : List Int} (h : (markedOk ar ps && termOk ar t) = false) : headO ar ps t = none := by unfold headO; rw [h]; rfl
theorem headO_t {ar : List Int} {ps : List Pl} {t : List Int} (h : (markedOk ar ps && termOk ar t) = true) : headO ar ps t = formM ps ar.length (tmOf ar t) := by unfold headO; rw [if_pos h]
theorem headO_fm {ar : List Int} {ps : List Pl} {t : List Int} {f : Pl} (h : headO ar ps t = some f) : Fm f := by
  cases hk : (markedOk ar ps && termOk ar t) with
  | false => rw [headO_f hk] at h; cases h
  | true =>
    rw [headO_t hk] at h
    rw [Bool.and_eq_true] at hk
    have ht := termOk_iff.1 hk.2
    have hs := (marked_parts hk.1).2.1.1
    obtain ⟨k1, k2⟩ := tmOf_ok ht
    have hv : ∀ y ∈ (tmOf ar t).flat, -24 ≤ y := fun y hy => ht.2.2.1 y (by rw [← k2]; exact hy)
    cases hT : tmOf ar t with
    | node x us =>
      rw [hT] at h k1 hv
      by_cases hx : x < 0
      · rw [formM_var hx] at h; cases h
        exact varPl_fm hx (hv x (by rw [flat_node]; exact List.mem_cons_self))
      · obtain ⟨x0, rfl⟩ := Int.eq_ofNat_of_zero_le (show 0 ≤ x by omega)
        rw [formM_node, if_neg hx] at h
        obtain ⟨fs, h1, h2⟩ := Option.bind_eq_some_iff.1 h
        obtain ⟨hok, hol⟩ := Ok_node.1 k1
        obtain ⟨hfs, hlen⟩ := formL_fm (marked_all hk.1) (fun y b hb => arI_le hs hb) us hol (fun y hy => hv y (by rw [flat_node]; exact List.mem_cons_of_mem _ hy)) fs h1
        obtain ⟨q, hq, hql, hqc, hqcf⟩ := marked_atN hk.1 x0 us.length hok
        rw [Int.toNat_natCast, List.getD_eq_getElem?_getD, hq] at h2
        have hP : Parts q fs := ⟨hqc, hqcf, by have := arI_le hs hok; omega, hfs⟩
        simp only [Option.getD_some] at h2
        unfold appP at h2
        split at h2
        · cases h2
        · rename_i hb
          cases h2
          exact fm_of_not_big hP hb
set_option maxRecDepth 100000 in
set_option maxHeartbeats 2000000 in
theorem c_headForm {v0 v1 v2 : Value} {ar t : List Int} {ps : List Pl} {w : World} (h0 : RdSig w v0 ar) (h1 : RdPs w v1 ps) (h2 : RdI w v2 t) (hm : markedOk ar ps = true) (ht : TermP ar t) :
    Calls Try.prog 46 #[v0, v1, v2] w (NewF w (formM ps ar.length (tmOf ar t))) := by
  obtain ⟨A, n, c, rfl, ha⟩ := h0
  obtain ⟨B, m, d, rfl, hb⟩ := h1
  obtain ⟨D, q, l, rfl, hd⟩ := h2
  have HA := Lib.hid ha
  have HB := Lib.hid hb
  have HD := Lib.hid hd
  have HAN := Lib.hid ha.len
  have HM := Lib.hid hm
  have HT := Lib.hid ht
  obtain ⟨k1, k2⟩ := tmOf_ok ht
  have hs := (marked_parts hm).2.1.1
  have hv : ∀ y ∈ (tmOf ar t).flat, -24 ≤ y := fun y hy => ht.2.2.1 y (by rw [← k2]; exact hy)
  obtain ⟨of, hof⟩ : ∃ of, of = formM ps ar.length (tmOf ar t) := ⟨_, rfl⟩
  rw [← hof]
  cases hT : tmOf ar t with
  | node x us =>
    rw [hT] at hof k1 k2 hv
    have HOF := Lib.hid hof
    have hc : ∀ (v0 v1 v2 : Value) (w : World), RdSig w v0 ar → RdPs w v1 ps → RdI w v2 t → Calls Try.prog 66 #[v0, v1, .int .i64 (ar.length : Int), v2, (.int .i64 0)] w (NewF w (formM ps ar.length (.node x us))) := fun v0 v1 v2 w h0 h1 h2 =>
      c_markedForm (h := ar.length) (p := 0) (rest := []) h0 h1 h2 (by rw [k2]; simp) hs k1 hv (marked_atN hm) (marked_at0 hm) (by have := hs.2.1; omega) (marked_all hm) fun a ha =>
        c_formAtN hs (marked_at0 hm) (marked_all hm) _ a (Nat.le_refl _) (OkL_iff.1 (Ok_node.1 k1).2 a ha) (fun y hy => hv y (by rw [flat_node]; exact List.mem_cons_of_mem _ (mem_flatL hy ha)))
    rw [ha.len] at hc
    have HC := Lib.hid hc
    clear ha hb hd hm ht k1 k2 hs hv hof hT hc
    go_enter Try.func46, Try.ntmps46
    go_wp2_with fail
    (with_reducible refine (HC.out _ _ _ _ (RdSig.mk (RI.ext HA.out (by exact extX))) (RdPs.mk (RP.ext HB.out (by exact extX))) (RdI.mk (RI.ext HD.out (by exact extX)))).mono ?_)
    rw [← HAN.out, ← HOF.out]
    rintro e3 w3 ⟨A3, n3, c3, rfl, hO3, hE3⟩
    have HO3 := Lib.hid hO3
    have hbd := hO3.bd
    have hz3 := sz_of hE3; (try simp only [World.size_alloc, World.size_setCell, World.size_drew] at hz3); obtain ⟨hc3, hf3⟩ := bcell hE3; (try have hq3_0 : w.heap.size < w3.heap.size := by omega); (try have hq3_1 : w.heap.size + 1 < w3.heap.size := by omega); (try have hq3_2 : w.heap.size + 1 + 1 < w3.heap.size := by omega); (try have hq3_3 : w.heap.size + 1 + 1 + 1 < w3.heap.size := by omega); (try have hq3_4 : w.heap.size + 1 + 1 + 1 + 1 < w3.heap.size := by omega); (try have hq3_5 : w.heap.size + 1 + 1 + 1 + 1 + 1 < w3.heap.size := by omega); (try have hx3_1 : w1.heap.size < w3.heap.size := by omega); (try have hx3_2 : w2.heap.size < w3.heap.size := by omega)
    clear hO3
    go_wp2_with fail
    refine bodyPost_ret (v := .tuple #[.agg #[.int .i64 (rp of).c, .slice A3 n3 c3], .bool of.isSome]) (by simp [results, Try.results46, go_sem, *]) rfl ?_
    refine ⟨A3, n3, c3, rfl, ?_, by exact extX⟩
    have h3 := HO3.out.lower (B' := w.heap.size) (by go_size)
    refine OwI.setFar (OwI.setFar h3 _ (fun g o s e => ?_)) _ (fun g o s e => ?_)
    · have := (hbd g o s e).1; simp [go_sem] at this; show g ≠ w.heap.size + 1; omega
    · have := (hbd g o s e).1; simp [go_sem] at this; show g ≠ w.heap.size + 1; omega
set_option maxRecDepth 100000 in
set_option maxHeartbeats 2000000 in
theorem c_iHeadForm {v0 v1 v2 : Value} {ar t : List Int} {ps : List Pl} {w : World} (h0 : RdSig w v0 ar) (h1 : RdPc w v1 ps) (h2 : RdI w v2 t) :
    Calls Try.prog 17 #[v0, v1, v2] w (NewF w (headO ar ps t)) := by
  obtain ⟨A, n, c, rfl, ha⟩ := h0
  obtain ⟨B, m, d, rfl, hmd, hd63, hb⟩ := h1
  obtain ⟨D, q, l, rfl, hd⟩ := h2
  have HA := Lib.hid ha
  have HB := Lib.hid hb
  have HD := Lib.hid hd
  skip
  clear ha hb hd
  cases hk : (markedOk ar ps && termOk ar t) with
  | false =>
    have HR := Lib.hid (headO_f hk)
    cases hw : markedOk ar ps with
    | false =>
      clear hk
      go_enter Try.func17, Try.ntmps17
      go_wp2_with (go_at_call 19; (with_reducible refine (c_iMarkedOk (ar := ar) (ps := ps) (by (first | (first | (with_reducible exact RdI.mk (RI.ext (Hid.out (by with_reducible assumption)) (by exact extX))) | (with_reducible exact RdI.ext (by with_reducible assumption) (by exact extX))) | (with_reducible exact RdPc.mk (RP.ext (Hid.out (by with_reducible assumption)) (by exact extX))) | (with_reducible exact RdPc.ext (by with_reducible assumption) (by exact extX)) | (with_reducible exact RdPs.mk (RP.ext (Hid.out (by with_reducible assumption)) (by exact extX))) | (with_reducible exact RdPs.ext (by with_reducible assumption) (by exact extX)) | (with_reducible exact RdPl.mk (by (first | (with_reducible exact RI.ext (Hid.out (by with_reducible assumption)) (by exact extX))))) | (with_reducible exact RdPl.ext (by with_reducible assumption) (by exact extX)) | (with_reducible exact RdSig.mk (by (first | (with_reducible exact RI.ext (Hid.out (by with_reducible assumption)) (by exact extX))))) | (with_reducible exact RdSig.ext (by with_reducible assumption) (by exact extX)))) (RdPc.mkc hmd hd63 (RP.ext HB.out (by exact extX)))).mono ?_); rintro e w1 ⟨rfl, hE1⟩; have hz1 := sz_of hE1; (try simp only [World.size_alloc, World.size_setCell, World.size_drew] at hz1); obtain ⟨hc1, hf1⟩ := bcell hE1; (try have hq1_0 : w.heap.size < w1.heap.size := by omega); (try have hq1_1 : w.heap.size + 1 < w1.heap.size := by omega); (try have hq1_2 : w.heap.size + 1 + 1 < w1.heap.size := by omega); (try have hq1_3 : w.heap.size + 1 + 1 + 1 < w1.heap.size := by omega); (try have hq1_4 : w.heap.size + 1 + 1 + 1 + 1 < w1.heap.size := by omega); (try have hq1_5 : w.heap.size + 1 + 1 + 1 + 1 + 1 < w1.heap.size := by omega))
      refine bodyPost_ret (v := .tuple #[.agg #[.int .i64 0, .slice none 0 0], .bool false]) (by simp [results, Try.results17, go_sem, *]) rfl ?_
      rw [HR.out]
      exact ⟨none, 0, 0, rfl, ⟨by omega, World.ownsRow_nil _ _ _ _⟩, by exact extX⟩
    | true =>
      have ht : termOk ar t = false := by rw [hw] at hk; simpa using hk
      clear hk
      go_enter Try.func17, Try.ntmps17
      go_wp2_with (first
        | (go_at_call 19; (with_reducible refine (c_iMarkedOk (ar := ar) (ps := ps) (by (first | (first | (with_reducible exact RdI.mk (RI.ext (Hid.out (by with_reducible assumption)) (by exact extX))) | (with_reducible exact RdI.ext (by with_reducible assumption) (by exact extX))) | (with_reducible exact RdPc.mk (RP.ext (Hid.out (by with_reducible assumption)) (by exact extX))) | (with_reducible exact RdPc.ext (by with_reducible assumption) (by exact extX)) | (with_reducible exact RdPs.mk (RP.ext (Hid.out (by with_reducible assumption)) (by exact extX))) | (with_reducible exact RdPs.ext (by with_reducible assumption) (by exact extX)) | (with_reducible exact RdPl.mk (by (first | (with_reducible exact RI.ext (Hid.out (by with_reducible assumption)) (by exact extX))))) | (with_reducible exact RdPl.ext (by with_reducible assumption) (by exact extX)) | (with_reducible exact RdSig.mk (by (first | (with_reducible exact RI.ext (Hid.out (by with_reducible assumption)) (by exact extX))))) | (with_reducible exact RdSig.ext (by with_reducible assumption) (by exact extX)))) (RdPc.mkc hmd hd63 (RP.ext HB.out (by exact extX)))).mono ?_); rintro e w1 ⟨rfl, hE1⟩; have hz1 := sz_of hE1; (try simp only [World.size_alloc, World.size_setCell, World.size_drew] at hz1); obtain ⟨hc1, hf1⟩ := bcell hE1; (try have hq1_0 : w.heap.size < w1.heap.size := by omega); (try have hq1_1 : w.heap.size + 1 < w1.heap.size := by omega); (try have hq1_2 : w.heap.size + 1 + 1 < w1.heap.size := by omega); (try have hq1_3 : w.heap.size + 1 + 1 + 1 < w1.heap.size := by omega); (try have hq1_4 : w.heap.size + 1 + 1 + 1 + 1 < w1.heap.size := by omega); (try have hq1_5 : w.heap.size + 1 + 1 + 1 + 1 + 1 < w1.heap.size := by omega))
        | (go_at_call 33; (with_reducible refine (c_iTermOk (ar := ar) (t := t) (by (first | (first | (with_reducible exact RdI.mk (RI.ext (Hid.out (by with_reducible assumption)) (by exact extX))) | (with_reducible exact RdI.ext (by with_reducible assumption) (by exact extX))) | (with_reducible exact RdPc.mk (RP.ext (Hid.out (by with_reducible assumption)) (by exact extX))) | (with_reducible exact RdPc.ext (by with_reducible assumption) (by exact extX)) | (with_reducible exact RdPs.mk (RP.ext (Hid.out (by with_reducible assumption)) (by exact extX))) | (with_reducible exact RdPs.ext (by with_reducible assumption) (by exact extX)) | (with_reducible exact RdPl.mk (by (first | (with_reducible exact RI.ext (Hid.out (by with_reducible assumption)) (by exact extX))))) | (with_reducible exact RdPl.ext (by with_reducible assumption) (by exact extX)) | (with_reducible exact RdSig.mk (by (first | (with_reducible exact RI.ext (Hid.out (by with_reducible assumption)) (by exact extX))))) | (with_reducible exact RdSig.ext (by with_reducible assumption) (by exact extX)))) (by (first | (first | (with_reducible exact RdI.mk (RI.ext (Hid.out (by with_reducible assumption)) (by exact extX))) | (with_reducible exact RdI.ext (by with_reducible assumption) (by exact extX))) | (with_reducible exact RdPc.mk (RP.ext (Hid.out (by with_reducible assumption)) (by exact extX))) | (with_reducible exact RdPc.ext (by with_reducible assumption) (by exact extX)) | (with_reducible exact RdPs.mk (RP.ext (Hid.out (by with_reducible assumption)) (by exact extX))) | (with_reducible exact RdPs.ext (by with_reducible assumption) (by exact extX)) | (with_reducible exact RdPl.mk (by (first | (with_reducible exact RI.ext (Hid.out (by with_reducible assumption)) (by exact extX))))) | (with_reducible exact RdPl.ext (by with_reducible assumption) (by exact extX)) | (with_reducible exact RdSig.mk (by (first | (with_reducible exact RI.ext (Hid.out (by with_reducible assumption)) (by exact extX))))) | (with_reducible exact RdSig.ext (by with_reducible assumption) (by exact extX))))).mono ?_); rintro e w2 ⟨rfl, hE2⟩; have hz2 := sz_of hE2; (try simp only [World.size_alloc, World.size_setCell, World.size_drew] at hz2); obtain ⟨hc2, hf2⟩ := bcell hE2; (try have hq2_0 : w.heap.size < w2.heap.size := by omega); (try have hq2_1 : w.heap.size + 1 < w2.heap.size := by omega); (try have hq2_2 : w.heap.size + 1 + 1 < w2.heap.size := by omega); (try have hq2_3 : w.heap.size + 1 + 1 + 1 < w2.heap.size := by omega); (try have hq2_4 : w.heap.size + 1 + 1 + 1 + 1 < w2.heap.size := by omega); (try have hq2_5 : w.heap.size + 1 + 1 + 1 + 1 + 1 < w2.heap.size := by omega); (try have hx2_1 : w1.heap.size < w2.heap.size := by omega)))
      refine bodyPost_ret (v := .tuple #[.agg #[.int .i64 0, .slice none 0 0], .bool false]) (by simp [results, Try.results17, go_sem, *]) rfl ?_
      rw [HR.out]
      exact ⟨none, 0, 0, rfl, ⟨by omega, World.ownsRow_nil _ _ _ _⟩, by exact extX⟩
  | true =>
    have HR := Lib.hid (headO_t hk)
    rw [Bool.and_eq_true] at hk
    obtain ⟨hw, ht⟩ := hk
    have HP := Lib.hid hw
    have HT := Lib.hid (termOk_iff.1 ht)
    obtain ⟨of, hof⟩ : ∃ of, of = formM ps ar.length (tmOf ar t) := ⟨_, rfl⟩
    have HOF := Lib.hid hof
    clear hof
    go_enter Try.func17, Try.ntmps17
    go_wp2_with (first
      | (go_at_call 19; (with_reducible refine (c_iMarkedOk (ar := ar) (ps := ps) (by (first | (first | (with_reducible exact RdI.mk (RI.ext (Hid.out (by with_reducible assumption)) (by exact extX))) | (with_reducible exact RdI.ext (by with_reducible assumption) (by exact extX))) | (with_reducible exact RdPc.mk (RP.ext (Hid.out (by with_reducible assumption)) (by exact extX))) | (with_reducible exact RdPc.ext (by with_reducible assumption) (by exact extX)) | (with_reducible exact RdPs.mk (RP.ext (Hid.out (by with_reducible assumption)) (by exact extX))) | (with_reducible exact RdPs.ext (by with_reducible assumption) (by exact extX)) | (with_reducible exact RdPl.mk (by (first | (with_reducible exact RI.ext (Hid.out (by with_reducible assumption)) (by exact extX))))) | (with_reducible exact RdPl.ext (by with_reducible assumption) (by exact extX)) | (with_reducible exact RdSig.mk (by (first | (with_reducible exact RI.ext (Hid.out (by with_reducible assumption)) (by exact extX))))) | (with_reducible exact RdSig.ext (by with_reducible assumption) (by exact extX)))) (RdPc.mkc hmd hd63 (RP.ext HB.out (by exact extX)))).mono ?_); rintro e w1 ⟨rfl, hE1⟩; have hz1 := sz_of hE1; (try simp only [World.size_alloc, World.size_setCell, World.size_drew] at hz1); obtain ⟨hc1, hf1⟩ := bcell hE1; (try have hq1_0 : w.heap.size < w1.heap.size := by omega); (try have hq1_1 : w.heap.size + 1 < w1.heap.size := by omega); (try have hq1_2 : w.heap.size + 1 + 1 < w1.heap.size := by omega); (try have hq1_3 : w.heap.size + 1 + 1 + 1 < w1.heap.size := by omega); (try have hq1_4 : w.heap.size + 1 + 1 + 1 + 1 < w1.heap.size := by omega); (try have hq1_5 : w.heap.size + 1 + 1 + 1 + 1 + 1 < w1.heap.size := by omega))
      | (go_at_call 33; (with_reducible refine (c_iTermOk (ar := ar) (t := t) (by (first | (first | (with_reducible exact RdI.mk (RI.ext (Hid.out (by with_reducible assumption)) (by exact extX))) | (with_reducible exact RdI.ext (by with_reducible assumption) (by exact extX))) | (with_reducible exact RdPc.mk (RP.ext (Hid.out (by with_reducible assumption)) (by exact extX))) | (with_reducible exact RdPc.ext (by with_reducible assumption) (by exact extX)) | (with_reducible exact RdPs.mk (RP.ext (Hid.out (by with_reducible assumption)) (by exact extX))) | (with_reducible exact RdPs.ext (by with_reducible assumption) (by exact extX)) | (with_reducible exact RdPl.mk (by (first | (with_reducible exact RI.ext (Hid.out (by with_reducible assumption)) (by exact extX))))) | (with_reducible exact RdPl.ext (by with_reducible assumption) (by exact extX)) | (with_reducible exact RdSig.mk (by (first | (with_reducible exact RI.ext (Hid.out (by with_reducible assumption)) (by exact extX))))) | (with_reducible exact RdSig.ext (by with_reducible assumption) (by exact extX)))) (by (first | (first | (with_reducible exact RdI.mk (RI.ext (Hid.out (by with_reducible assumption)) (by exact extX))) | (with_reducible exact RdI.ext (by with_reducible assumption) (by exact extX))) | (with_reducible exact RdPc.mk (RP.ext (Hid.out (by with_reducible assumption)) (by exact extX))) | (with_reducible exact RdPc.ext (by with_reducible assumption) (by exact extX)) | (with_reducible exact RdPs.mk (RP.ext (Hid.out (by with_reducible assumption)) (by exact extX))) | (with_reducible exact RdPs.ext (by with_reducible assumption) (by exact extX)) | (with_reducible exact RdPl.mk (by (first | (with_reducible exact RI.ext (Hid.out (by with_reducible assumption)) (by exact extX))))) | (with_reducible exact RdPl.ext (by with_reducible assumption) (by exact extX)) | (with_reducible exact RdSig.mk (by (first | (with_reducible exact RI.ext (Hid.out (by with_reducible assumption)) (by exact extX))))) | (with_reducible exact RdSig.ext (by with_reducible assumption) (by exact extX))))).mono ?_); rintro e w2 ⟨rfl, hE2⟩; have hz2 := sz_of hE2; (try simp only [World.size_alloc, World.size_setCell, World.size_drew] at hz2); obtain ⟨hc2, hf2⟩ := bcell hE2; (try have hq2_0 : w.heap.size < w2.heap.size := by omega); (try have hq2_1 : w.heap.size + 1 < w2.heap.size := by omega); (try have hq2_2 : w.heap.size + 1 + 1 < w2.heap.size := by omega); (try have hq2_3 : w.heap.size + 1 + 1 + 1 < w2.heap.size := by omega); (try have hq2_4 : w.heap.size + 1 + 1 + 1 + 1 < w2.heap.size := by omega); (try have hq2_5 : w.heap.size + 1 + 1 + 1 + 1 + 1 < w2.heap.size := by omega); (try have hx2_1 : w1.heap.size < w2.heap.size := by omega))
      | fail)
    (with_reducible refine (c_headForm (t := t) (by (first | (first | (with_reducible exact RdI.mk (RI.ext (Hid.out (by with_reducible assumption)) (by exact extX))) | (with_reducible exact RdI.ext (by with_reducible assumption) (by exact extX))) | (with_reducible exact RdPc.mk (RP.ext (Hid.out (by with_reducible assumption)) (by exact extX))) | (with_reducible exact RdPc.ext (by with_reducible assumption) (by exact extX)) | (with_reducible exact RdPs.mk (RP.ext (Hid.out (by with_reducible assumption)) (by exact extX))) | (with_reducible exact RdPs.ext (by with_reducible assumption) (by exact extX)) | (with_reducible exact RdPl.mk (by (first | (with_reducible exact RI.ext (Hid.out (by with_reducible assumption)) (by exact extX))))) | (with_reducible exact RdPl.ext (by with_reducible assumption) (by exact extX)) | (with_reducible exact RdSig.mk (by (first | (with_reducible exact RI.ext (Hid.out (by with_reducible assumption)) (by exact extX))))) | (with_reducible exact RdSig.ext (by with_reducible assumption) (by exact extX)))) (by (first | (first | (with_reducible exact RdI.mk (RI.ext (Hid.out (by with_reducible assumption)) (by exact extX))) | (with_reducible exact RdI.ext (by with_reducible assumption) (by exact extX))) | (with_reducible exact RdPc.mk (RP.ext (Hid.out (by with_reducible assumption)) (by exact extX))) | (with_reducible exact RdPc.ext (by with_reducible assumption) (by exact extX)) | (with_reducible exact RdPs.mk (RP.ext (Hid.out (by with_reducible assumption)) (by exact extX))) | (with_reducible exact RdPs.ext (by with_reducible assumption) (by exact extX)) | (with_reducible exact RdPl.mk (by (first | (with_reducible exact RI.ext (Hid.out (by with_reducible assumption)) (by exact extX))))) | (with_reducible exact RdPl.ext (by with_reducible assumption) (by exact extX)) | (with_reducible exact RdSig.mk (by (first | (with_reducible exact RI.ext (Hid.out (by with_reducible assumption)) (by exact extX))))) | (with_reducible exact RdSig.ext (by with_reducible assumption) (by exact extX)))) (by (first | (first | (with_reducible exact RdI.mk (RI.ext (Hid.out (by with_reducible assumption)) (by exact extX))) | (with_reducible exact RdI.ext (by with_reducible assumption) (by exact extX))) | (with_reducible exact RdPc.mk (RP.ext (Hid.out (by with_reducible assumption)) (by exact extX))) | (with_reducible exact RdPc.ext (by with_reducible assumption) (by exact extX)) | (with_reducible exact RdPs.mk (RP.ext (Hid.out (by with_reducible assumption)) (by exact extX))) | (with_reducible exact RdPs.ext (by with_reducible assumption) (by exact extX)) | (with_reducible exact RdPl.mk (by (first | (with_reducible exact RI.ext (Hid.out (by with_reducible assumption)) (by exact extX))))) | (with_reducible exact RdPl.ext (by with_reducible assumption) (by exact extX)) | (with_reducible exact RdSig.mk (by (first | (with_reducible exact RI.ext (Hid.out (by with_reducible assumption)) (by exact extX))))) | (with_reducible exact RdSig.ext (by with_reducible assumption) (by exact extX)))) HP.out HT.out).mono ?_)
    rw [← HOF.out]
    rintro e3 w3 ⟨A3, n3, c3, rfl, hO3, hE3⟩
    have HO3 := Lib.hid hO3
    have hbd := hO3.bd
    have hz3 := sz_of hE3; (try simp only [World.size_alloc, World.size_setCell, World.size_drew] at hz3); obtain ⟨hc3, hf3⟩ := bcell hE3; (try have hq3_0 : w.heap.size < w3.heap.size := by omega); (try have hq3_1 : w.heap.size + 1 < w3.heap.size := by omega); (try have hq3_2 : w.heap.size + 1 + 1 < w3.heap.size := by omega); (try have hq3_3 : w.heap.size + 1 + 1 + 1 < w3.heap.size := by omega); (try have hq3_4 : w.heap.size + 1 + 1 + 1 + 1 < w3.heap.size := by omega); (try have hq3_5 : w.heap.size + 1 + 1 + 1 + 1 + 1 < w3.heap.size := by omega); (try have hx3_1 : w1.heap.size < w3.heap.size := by omega); (try have hx3_2 : w2.heap.size < w3.heap.size := by omega)
    clear hO3
    go_wp2_with fail
    refine bodyPost_ret (v := .tuple #[.agg #[.int .i64 (rp of).c, .slice A3 n3 c3], .bool of.isSome]) (by simp [results, Try.results17, go_sem, *]) rfl ?_
    rw [HR.out, ← HOF.out]
    refine ⟨A3, n3, c3, rfl, ?_, by exact extX⟩
    have h3 := HO3.out.lower (B' := w.heap.size) (by go_size)
    refine OwI.setFar (OwI.setFar h3 _ (fun g o s e => ?_)) _ (fun g o s e => ?_)
    · have := (hbd g o s e).1; show g ≠ w.heap.size + 1; omega
    · have := (hbd g o s e).1; show g ≠ w.heap.size + 1; omega
theorem c_l15Form0' {v0 v1 v2 : Value} {ar t : List Int} {ps : List Pl} {w : World} {oo : Option Pl} (ho : oo = form ps (tmOf ar t)) (h0 : RdSig w v0 ar) (h1 : RdPs w v1 ps) (h2 : RdIc w v2 t) (hp : PolysP ar ps) (ht : TermP ar t) :
    Calls Try.prog 48 #[v0, v1, v2] w (NewF w oo) := by rw [ho]; exact c_l15Form0 h0 h1 h2 hp ht
set_option maxRecDepth 100000 in
set_option maxHeartbeats 4000000 in
theorem c_sHeadForm {v0 v1 v2 : Value} {ar t : List Int} {ps : List Pl} {w : World} (h0 : RdSig w v0 ar) (h1 : RdPc w v1 ps) (h2 : RdIc w v2 t) :
    Calls Try.prog 23 #[v0, v1, v2] w (NewF w (headO ar ps t)) := by
  obtain ⟨A, n, c, rfl, ha⟩ := h0
  obtain ⟨B, m, d, rfl, hmd, hd63, hb⟩ := h1
  obtain ⟨D, q, l, rfl, hcap, hd⟩ := h2
  have HA := Lib.hid ha
  have HB := Lib.hid hb
  have HD := Lib.hid hd
  have HCP := Lib.hid hcap
  have HAN := Lib.hid ha.len
  have HDL := Lib.hid hd.len
  have HBL := Lib.hid hb.len
  clear ha hb hd hcap
  cases hk : (markedOk ar ps && termOk ar t) with
  | false =>
    have HR := Lib.hid (headO_f hk)
    cases hw : markedOk ar ps with
    | false =>
      clear hk
      go_enter Try.func23, Try.ntmps23
      go_wp2_with (go_at_call 52; (with_reducible refine (c_sMarkedOk (ar := ar) (ps := ps) (by (first | (first | (with_reducible exact RdI.mk (RI.ext (Hid.out (by with_reducible assumption)) (by exact extX))) | (with_reducible exact RdI.ext (by with_reducible assumption) (by exact extX))) | (with_reducible exact RdPc.mk (RP.ext (Hid.out (by with_reducible assumption)) (by exact extX))) | (with_reducible exact RdPc.ext (by with_reducible assumption) (by exact extX)) | (with_reducible exact RdPs.mk (RP.ext (Hid.out (by with_reducible assumption)) (by exact extX))) | (with_reducible exact RdPs.ext (by with_reducible assumption) (by exact extX)) | (with_reducible exact RdPl.mk (by (first | (with_reducible exact RI.ext (Hid.out (by with_reducible assumption)) (by exact extX))))) | (with_reducible exact RdPl.ext (by with_reducible assumption) (by exact extX)) | (with_reducible exact RdSig.mk (by (first | (with_reducible exact RI.ext (Hid.out (by with_reducible assumption)) (by exact extX))))) | (with_reducible exact RdSig.ext (by with_reducible assumption) (by exact extX)))) (RdPc.mkc hmd hd63 (RP.ext HB.out (by exact extX)))).mono ?_); rintro e w1 ⟨rfl, hE1⟩; have hz1 := sz_of hE1; (try simp only [World.size_alloc, World.size_setCell, World.size_drew] at hz1); obtain ⟨hc1, hf1⟩ := bcell hE1; (try have hq1_0 : w.heap.size < w1.heap.size := by omega); (try have hq1_1 : w.heap.size + 1 < w1.heap.size := by omega); (try have hq1_2 : w.heap.size + 1 + 1 < w1.heap.size := by omega); (try have hq1_3 : w.heap.size + 1 + 1 + 1 < w1.heap.size := by omega); (try have hq1_4 : w.heap.size + 1 + 1 + 1 + 1 < w1.heap.size := by omega); (try have hq1_5 : w.heap.size + 1 + 1 + 1 + 1 + 1 < w1.heap.size := by omega))
      refine bodyPost_ret (v := .tuple #[.agg #[.int .i64 0, .slice none 0 0], .bool false]) (by simp [results, Try.results23, go_sem, *]) rfl ?_
      rw [HR.out]
      exact ⟨none, 0, 0, rfl, ⟨by omega, World.ownsRow_nil _ _ _ _⟩, by exact extX⟩
    | true =>
      have ht : termOk ar t = false := by rw [hw] at hk; simpa using hk
      clear hk
      go_enter Try.func23, Try.ntmps23
      go_wp2_with (first
        | (go_at_call 52; (with_reducible refine (c_sMarkedOk (ar := ar) (ps := ps) (by (first | (first | (with_reducible exact RdI.mk (RI.ext (Hid.out (by with_reducible assumption)) (by exact extX))) | (with_reducible exact RdI.ext (by with_reducible assumption) (by exact extX))) | (with_reducible exact RdPc.mk (RP.ext (Hid.out (by with_reducible assumption)) (by exact extX))) | (with_reducible exact RdPc.ext (by with_reducible assumption) (by exact extX)) | (with_reducible exact RdPs.mk (RP.ext (Hid.out (by with_reducible assumption)) (by exact extX))) | (with_reducible exact RdPs.ext (by with_reducible assumption) (by exact extX)) | (with_reducible exact RdPl.mk (by (first | (with_reducible exact RI.ext (Hid.out (by with_reducible assumption)) (by exact extX))))) | (with_reducible exact RdPl.ext (by with_reducible assumption) (by exact extX)) | (with_reducible exact RdSig.mk (by (first | (with_reducible exact RI.ext (Hid.out (by with_reducible assumption)) (by exact extX))))) | (with_reducible exact RdSig.ext (by with_reducible assumption) (by exact extX)))) (RdPc.mkc hmd hd63 (RP.ext HB.out (by exact extX)))).mono ?_); rintro e w1 ⟨rfl, hE1⟩; have hz1 := sz_of hE1; (try simp only [World.size_alloc, World.size_setCell, World.size_drew] at hz1); obtain ⟨hc1, hf1⟩ := bcell hE1; (try have hq1_0 : w.heap.size < w1.heap.size := by omega); (try have hq1_1 : w.heap.size + 1 < w1.heap.size := by omega); (try have hq1_2 : w.heap.size + 1 + 1 < w1.heap.size := by omega); (try have hq1_3 : w.heap.size + 1 + 1 + 1 < w1.heap.size := by omega); (try have hq1_4 : w.heap.size + 1 + 1 + 1 + 1 < w1.heap.size := by omega); (try have hq1_5 : w.heap.size + 1 + 1 + 1 + 1 + 1 < w1.heap.size := by omega))
        | (go_at_call 37; (with_reducible refine (c_sTermOk (ar := ar) (t := t) (by (first | (first | (with_reducible exact RdI.mk (RI.ext (Hid.out (by with_reducible assumption)) (by exact extX))) | (with_reducible exact RdI.ext (by with_reducible assumption) (by exact extX))) | (with_reducible exact RdPc.mk (RP.ext (Hid.out (by with_reducible assumption)) (by exact extX))) | (with_reducible exact RdPc.ext (by with_reducible assumption) (by exact extX)) | (with_reducible exact RdPs.mk (RP.ext (Hid.out (by with_reducible assumption)) (by exact extX))) | (with_reducible exact RdPs.ext (by with_reducible assumption) (by exact extX)) | (with_reducible exact RdPl.mk (by (first | (with_reducible exact RI.ext (Hid.out (by with_reducible assumption)) (by exact extX))))) | (with_reducible exact RdPl.ext (by with_reducible assumption) (by exact extX)) | (with_reducible exact RdSig.mk (by (first | (with_reducible exact RI.ext (Hid.out (by with_reducible assumption)) (by exact extX))))) | (with_reducible exact RdSig.ext (by with_reducible assumption) (by exact extX)))) (by (first | (first | (with_reducible exact RdI.mk (RI.ext (Hid.out (by with_reducible assumption)) (by exact extX))) | (with_reducible exact RdI.ext (by with_reducible assumption) (by exact extX))) | (with_reducible exact RdPc.mk (RP.ext (Hid.out (by with_reducible assumption)) (by exact extX))) | (with_reducible exact RdPc.ext (by with_reducible assumption) (by exact extX)) | (with_reducible exact RdPs.mk (RP.ext (Hid.out (by with_reducible assumption)) (by exact extX))) | (with_reducible exact RdPs.ext (by with_reducible assumption) (by exact extX)) | (with_reducible exact RdPl.mk (by (first | (with_reducible exact RI.ext (Hid.out (by with_reducible assumption)) (by exact extX))))) | (with_reducible exact RdPl.ext (by with_reducible assumption) (by exact extX)) | (with_reducible exact RdSig.mk (by (first | (with_reducible exact RI.ext (Hid.out (by with_reducible assumption)) (by exact extX))))) | (with_reducible exact RdSig.ext (by with_reducible assumption) (by exact extX))))).mono ?_); rintro e w2 ⟨rfl, hE2⟩; have hz2 := sz_of hE2; (try simp only [World.size_alloc, World.size_setCell, World.size_drew] at hz2); obtain ⟨hc2, hf2⟩ := bcell hE2; (try have hq2_0 : w.heap.size < w2.heap.size := by omega); (try have hq2_1 : w.heap.size + 1 < w2.heap.size := by omega); (try have hq2_2 : w.heap.size + 1 + 1 < w2.heap.size := by omega); (try have hq2_3 : w.heap.size + 1 + 1 + 1 < w2.heap.size := by omega); (try have hq2_4 : w.heap.size + 1 + 1 + 1 + 1 < w2.heap.size := by omega); (try have hq2_5 : w.heap.size + 1 + 1 + 1 + 1 + 1 < w2.heap.size := by omega); (try have hx2_1 : w1.heap.size < w2.heap.size := by omega)))
      refine bodyPost_ret (v := .tuple #[.agg #[.int .i64 0, .slice none 0 0], .bool false]) (by simp [results, Try.results23, go_sem, *]) rfl ?_
      rw [HR.out]
      exact ⟨none, 0, 0, rfl, ⟨by omega, World.ownsRow_nil _ _ _ _⟩, by exact extX⟩
  | true =>
    have hR := headO_t hk
    rw [Bool.and_eq_true] at hk
    obtain ⟨hw, ht⟩ := hk
    obtain ⟨hlen, hP1, hP2⟩ := marked_parts hw
    have hTP := termOk_iff.1 ht
    obtain ⟨k1, k2⟩ := tmOf_ok hTP
    have hv : ∀ y ∈ (tmOf ar t).flat, -24 ≤ y := fun y hy => hTP.2.2.1 y (by rw [← k2]; exact hy)
    have hmn : m = 2 * n := by rw [← HAN.out, ← HBL.out]; exact hlen
    have HMN := Lib.hid hmn
    have hnm : n ≤ m := by omega
    have hnle := HA.out.le
    have hn0 : (0 : Int) ≤ (n : Int) := by omega
    have hnd : (n : Int) ≤ (d : Int) := by omega
    have HP1 := Lib.hid hP1
    have HTP := Lib.hid hTP
    clear hmn
    cases hT : tmOf ar t with
    | node x us =>
      rw [hT] at k1 k2 hv hR
      have hxt : t[0]? = some x := by rw [← k2, flat_node]; rfl
      have hq1 : 0 < q := by
        have := (List.getElem?_eq_some_iff.1 hxt).1; rw [HDL.out] at this; exact this
      have hq1i : (0 : Int) < (q : Int) := by omega
      obtain ⟨bt, ot, y, rfl, hy, hcy⟩ := RI.at_ HD.out hq1
      rw [hxt] at hy; cases hy
      rw [Nat.add_zero] at hcy
      have hbt : bt < w.heap.size := World.block_lt_of_cell? w _ hcy
      obtain ⟨oo, hoo⟩ : ∃ oo, oo = headO ar ps t := ⟨_, rfl⟩
      rw [← hoo]
      by_cases hx : x < 0
      · have hf0 : oo = form (ps.take ar.length) (tmOf ar t) := by rw [hoo, hR, formM_var hx, hT, form_node, if_pos hx]
        have HOO := Lib.hid hf0
        clear hoo hR hf0 hlen hP1 hP2 hTP k1 k2 hv hxt hT
        go_enter Try.func23, Try.ntmps23
        go_wp2_with (first
          | (go_at_call 52; (with_reducible refine (c_sMarkedOk (ar := ar) (ps := ps) (by (first | (first | (with_reducible exact RdI.mk (RI.ext (Hid.out (by with_reducible assumption)) (by exact extX))) | (with_reducible exact RdI.ext (by with_reducible assumption) (by exact extX))) | (with_reducible exact RdPc.mk (RP.ext (Hid.out (by with_reducible assumption)) (by exact extX))) | (with_reducible exact RdPc.ext (by with_reducible assumption) (by exact extX)) | (with_reducible exact RdPs.mk (RP.ext (Hid.out (by with_reducible assumption)) (by exact extX))) | (with_reducible exact RdPs.ext (by with_reducible assumption) (by exact extX)) | (with_reducible exact RdPl.mk (by (first | (with_reducible exact RI.ext (Hid.out (by with_reducible assumption)) (by exact extX))))) | (with_reducible exact RdPl.ext (by with_reducible assumption) (by exact extX)) | (with_reducible exact RdSig.mk (by (first | (with_reducible exact RI.ext (Hid.out (by with_reducible assumption)) (by exact extX))))) | (with_reducible exact RdSig.ext (by with_reducible assumption) (by exact extX)))) (RdPc.mkc hmd hd63 (RP.ext HB.out (by exact extX)))).mono ?_); rintro e w1 ⟨rfl, hE1⟩; have hz1 := sz_of hE1; (try simp only [World.size_alloc, World.size_setCell, World.size_drew] at hz1); obtain ⟨hc1, hf1⟩ := bcell hE1; (try have hq1_0 : w.heap.size < w1.heap.size := by omega); (try have hq1_1 : w.heap.size + 1 < w1.heap.size := by omega); (try have hq1_2 : w.heap.size + 1 + 1 < w1.heap.size := by omega); (try have hq1_3 : w.heap.size + 1 + 1 + 1 < w1.heap.size := by omega); (try have hq1_4 : w.heap.size + 1 + 1 + 1 + 1 < w1.heap.size := by omega); (try have hq1_5 : w.heap.size + 1 + 1 + 1 + 1 + 1 < w1.heap.size := by omega))
          | fail)
        (with_reducible refine (c_sTermOk (ar := ar) (t := t) (by (first | (first | (with_reducible exact RdI.mk (RI.ext (Hid.out (by with_reducible assumption)) (by exact extX))) | (with_reducible exact RdI.ext (by with_reducible assumption) (by exact extX))) | (with_reducible exact RdPc.mk (RP.ext (Hid.out (by with_reducible assumption)) (by exact extX))) | (with_reducible exact RdPc.ext (by with_reducible assumption) (by exact extX)) | (with_reducible exact RdPs.mk (RP.ext (Hid.out (by with_reducible assumption)) (by exact extX))) | (with_reducible exact RdPs.ext (by with_reducible assumption) (by exact extX)) | (with_reducible exact RdPl.mk (by (first | (with_reducible exact RI.ext (Hid.out (by with_reducible assumption)) (by exact extX))))) | (with_reducible exact RdPl.ext (by with_reducible assumption) (by exact extX)) | (with_reducible exact RdSig.mk (by (first | (with_reducible exact RI.ext (Hid.out (by with_reducible assumption)) (by exact extX))))) | (with_reducible exact RdSig.ext (by with_reducible assumption) (by exact extX)))) (by (first | (first | (with_reducible exact RdI.mk (RI.ext (Hid.out (by with_reducible assumption)) (by exact extX))) | (with_reducible exact RdI.ext (by with_reducible assumption) (by exact extX))) | (with_reducible exact RdPc.mk (RP.ext (Hid.out (by with_reducible assumption)) (by exact extX))) | (with_reducible exact RdPc.ext (by with_reducible assumption) (by exact extX)) | (with_reducible exact RdPs.mk (RP.ext (Hid.out (by with_reducible assumption)) (by exact extX))) | (with_reducible exact RdPs.ext (by with_reducible assumption) (by exact extX)) | (with_reducible exact RdPl.mk (by (first | (with_reducible exact RI.ext (Hid.out (by with_reducible assumption)) (by exact extX))))) | (with_reducible exact RdPl.ext (by with_reducible assumption) (by exact extX)) | (with_reducible exact RdSig.mk (by (first | (with_reducible exact RI.ext (Hid.out (by with_reducible assumption)) (by exact extX))))) | (with_reducible exact RdSig.ext (by with_reducible assumption) (by exact extX))))).mono ?_); rintro e w2 ⟨rfl, hE2⟩; have hz2 := sz_of hE2; (try simp only [World.size_alloc, World.size_setCell, World.size_drew] at hz2); obtain ⟨hc2, hf2⟩ := bcell hE2; (try have hq2_0 : w.heap.size < w2.heap.size := by omega); (try have hq2_1 : w.heap.size + 1 < w2.heap.size := by omega); (try have hq2_2 : w.heap.size + 1 + 1 < w2.heap.size := by omega); (try have hq2_3 : w.heap.size + 1 + 1 + 1 < w2.heap.size := by omega); (try have hq2_4 : w.heap.size + 1 + 1 + 1 + 1 < w2.heap.size := by omega); (try have hq2_5 : w.heap.size + 1 + 1 + 1 + 1 + 1 < w2.heap.size := by omega); (try have hx2_1 : w1.heap.size < w2.heap.size := by omega)
        have hs0 : w2.cell? ⟨w.heap.size, 0, none⟩ = some (.slice A n c) := Ext.keep hE2 (Ext.keep hE1 (by simp [go_sem]))
        obtain ⟨hs2, hs3, hs4⟩ := box_ext (Ext.trans hE1 hE2) (q := w.heap.size + 1) (u := .int .i64 0) (v := .slice none 0 0) (by simp [go_sem]) (by simp [go_sem]) (by intro j; simp [go_sem])
        have hEw2 : Ext w w2 := Ext.trans (by exact extX) (Ext.trans hE1 hE2)
        have hsz2 : w.heap.size + 1 < w2.heap.size := World.block_lt_of_cell? w2 _ hs2
        have hcy2 := Ext.keep hEw2 hcy
        go_wp2_with fail
        refine wp_only (R := fun (a0 : Act) (a8 : Act) (w9 : World) => ∃ (A6 : Option Addr) (n6 : Nat) (c6 : Nat), a8 = (((((((((a0.put (some 27) (.agg #[.slice A n c])).put (some 28) (.slice B m d)).put (some 29) (.int .i64 (n : Int))).put (some 30) (.slice B n d)).put (some 31) (.slice (some ⟨bt, ot, none⟩) q l)).put (some 32) (.tuple #[.agg #[.int .i64 (rp oo).c, .slice A6 n6 c6], .bool oo.isSome])).put (some 33) (.agg #[.int .i64 (rp oo).c, .slice A6 n6 c6])).put (some 34) (.bool oo.isSome)).put (some 7) (.bool oo.isSome)) ∧ n6 = (rp oo).cf.length ∧ PG w w9 (w.heap.size + 1) (rp oo).c A6 c6 (rp oo).cf) ?_ (fun a8 w5 hR => ?_)
        · refine wp_region_held_drew (S := (fun w' => w'.cell? ⟨w.heap.size, 0, none⟩ = some (.slice A n c) ∧ Ext w w')) (by kernel_rfl) (⟨hs0, hEw2.drew⟩) (fun hH => ?_)
          refine wpAnyH_take_dst (i := 0) (v := .agg #[.slice A n c]) (d := some 27) rfl rfl (by kernel_rfl) (by kernel_rfl) (by kernel_rfl) (fun _ _ _ h => h) (Or.inl ⟨by rfl, ?_⟩) hH ?_
          · (intro w' hE'; (try dsimp only at hE'); have y0 := hE'.1; go_simp; try with_reducible rfl)
          try simp only [Act.put, List.setIfInBounds_toArray, List.set_cons_zero, List.set_cons_succ]
          refine wpAnyH_take_dst (i := 1) (v := .slice B m d) (d := some 28) rfl rfl (by kernel_rfl) (by kernel_rfl) (by kernel_rfl) (fun _ _ _ h => h) (Or.inl ⟨by rfl, ?_⟩) hH ?_
          · (intro w' hE'; (try dsimp only at hE'); have y0 := hE'.1; go_simp; try with_reducible rfl)
          try simp only [Act.put, List.setIfInBounds_toArray, List.set_cons_zero, List.set_cons_succ]
          refine wpAnyH_take_dst (i := 2) (v := .int .i64 (n : Int)) (d := some 29) rfl rfl (by kernel_rfl) (by kernel_rfl) (by kernel_rfl) (fun _ _ _ h => h) (Or.inl ⟨by rfl, ?_⟩) hH ?_
          · (intro w' hE'; (try dsimp only at hE'); have y0 := hE'.1; go_simp; try with_reducible rfl)
          try simp only [Act.put, List.setIfInBounds_toArray, List.set_cons_zero, List.set_cons_succ]
          refine wpAnyH_take_dst (i := 3) (v := .slice B n d) (d := some 30) rfl rfl (by kernel_rfl) (by kernel_rfl) (by kernel_rfl) (fun _ _ _ h => h) (Or.inl ⟨by rfl, ?_⟩) hH ?_
          · (intro w' hE'; (try dsimp only at hE'); have y0 := hE'.1; go_simp; try with_reducible rfl)
          try simp only [Act.put, List.setIfInBounds_toArray, List.set_cons_zero, List.set_cons_succ]
          refine wpAnyH_take_dst (i := 4) (v := .slice (some ⟨bt, ot, none⟩) q l) (d := some 31) rfl rfl (by kernel_rfl) (by kernel_rfl) (by kernel_rfl) (fun _ _ _ h => h) (Or.inl ⟨by rfl, ?_⟩) hH ?_
          · (intro w' hE'; (try dsimp only at hE'); have y0 := hE'.1; go_simp; try with_reducible rfl)
          try simp only [Act.put, List.setIfInBounds_toArray, List.set_cons_zero, List.set_cons_succ]
          refine wpAnyH_ready (rs := [5]) (by kernel_rfl) (by simp) ?_
          refine AllReadyH.cons rfl (fun K hK => ?_) AllReadyH.nil
          rw [if_pos (by rfl)]
          go_wp2_with fail
          (with_reducible refine (c_l15Form0' HOO.out (RdSig.mk (RI.ext HA.out hH.2)) (RdPs.mk (by rw [HAN.out]; exact RP.ext (RP.take HB.out (by omega)) hH.2)) (RdIc.mk HCP.out (RI.ext HD.out hH.2)) HP1.out HTP.out).mono ?_)
          rintro e w9 ⟨A6, n6, c6, rfl, hO6, hE8⟩
          refine hK.out _ _ (⟨Ext.keep hE8 hH.1, Ext.trans hH.2 hE8⟩) (fun hH9 => ?_)
          clear hK; have hH0 := hH; clear hH; have hH := hH9; clear hH9
          try simp only [Act.put, List.setIfInBounds_toArray, List.set_cons_zero, List.set_cons_succ]
          refine wpAnyH_take_dst (i := 6) (v := .agg #[.int .i64 (rp oo).c, .slice A6 n6 c6]) (d := some 33) rfl rfl (by kernel_rfl) (by kernel_rfl) (by kernel_rfl) (fun _ _ _ h => h) (Or.inl ⟨by rfl, ?_⟩) hH ?_
          · (intro w' hE'; (try dsimp only at hE'); have y0 := hE'.1; go_simp; try with_reducible rfl)
          try simp only [Act.put, List.setIfInBounds_toArray, List.set_cons_zero, List.set_cons_succ]
          refine wpAnyH_take_dst (i := 7) (v := .bool oo.isSome) (d := some 34) rfl rfl (by kernel_rfl) (by kernel_rfl) (by kernel_rfl) (fun _ _ _ h => h) (Or.inl ⟨by rfl, ?_⟩) hH ?_
          · (intro w' hE'; (try dsimp only at hE'); have y0 := hE'.1; go_simp; try with_reducible rfl)
          try simp only [Act.put, List.setIfInBounds_toArray, List.set_cons_zero, List.set_cons_succ]
          refine wpAnyH_ready (rs := [8]) (by kernel_rfl) (by simp) ?_
          refine AllReadyH.cons rfl (fun K hK => ?_) AllReadyH.nil
          rw [if_pos (by rfl)]
          obtain ⟨k0, k1, kf⟩ := box_ext hE8 (q := w.heap.size + 1) (u := .int .i64 0) (v := .slice none 0 0) hs2 hs3 hs4; go_wp2_with fail
          refine hK.out _ _ (⟨by rw [World.cell?_setCell_other _ _ _ _ (by simp), World.cell?_setCell_other _ _ _ _ (by simp)]; exact hH.1, (hH.2.set (Nat.le_succ _) _).set (Nat.le_succ _) _⟩) (fun hH9 => ?_)
          clear hK; have hH0 := hH; clear hH; have hH := hH9; clear hH9
          try simp only [Act.put, List.setIfInBounds_toArray, List.set_cons_zero, List.set_cons_succ]
          refine wpAnyH_take_dst (i := 9) (v := .bool oo.isSome) (d := some 7) rfl rfl (by kernel_rfl) (by kernel_rfl) (by kernel_rfl) (fun _ _ _ h => h) (Or.inl ⟨by rfl, ?_⟩) hH ?_
          · (intro w' hE'; (try dsimp only at hE'); have y0 := hE'.1; go_simp; try with_reducible rfl)
          try simp only [Act.put, List.setIfInBounds_toArray, List.set_cons_zero, List.set_cons_succ]
          refine wpAnyH_done (by kernel_rfl) ?_ _
          refine ⟨A6, n6, c6, by rfl, hO6.len.symm, PG.put hO6.len.symm k0 k1 kf (hO6.lower hEw2.size) (fun b o s e => ?_) (Nat.le_succ _) hH0.2⟩
          have h1 := (hO6.bd b o s e).1; have h3 : w2.heap.size ≤ w2.drew.heap.size := Nat.le_refl _; omega
        obtain ⟨A6, n6, c6, ha, hn6, P6⟩ := hR
        simp only [Act.put, List.setIfInBounds_toArray, List.set_cons_zero, List.set_cons_succ] at ha
        subst ha
        have k0 := P6.c0
        have k1 := P6.c1
        have kf := P6.fr
        have hE5 := P6.ex
        have HO := Lib.hid P6.oA
        clear P6 hn6
        go_wp2_with fail
        refine bodyPost_ret (v := .tuple #[.agg #[.int .i64 (rp oo).c, .slice A6 (rp oo).cf.length c6], .bool oo.isSome]) (by simp [results, Try.results23, go_sem, k0, k1, kf]) rfl ?_
        exact ⟨A6, _, c6, rfl, HO.out, hE5⟩
      · obtain ⟨x0, rfl⟩ := Int.eq_ofNat_of_zero_le (show 0 ≤ x by omega)
        obtain ⟨hok, hol⟩ := Ok_node.1 k1
        obtain ⟨p0, hp0, hp0l, hp0c, hp0cf⟩ := marked_atN hw x0 us.length hok
        have hs := hP1.1
        have hal : us.length ≤ 3 := arI_le hs hok
        have hx8 : x0 < n := by have := arI_lt hok; rw [← HAN.out]; omega
        have hOL := OkL_iff.1 hol
        have HFM := Lib.hid (show ∀ a ∈ us, ∀ f, form (ps.take ar.length) a = some f → Fm f from fun a hm f hf =>
          form_fm (ar := ar) hP1.all (fun y b hb => arI_le hs hb) a (hOL a hm) (fun y hy => hv y (by rw [flat_node]; exact List.mem_cons_of_mem _ (mem_flatL hy hm))) f hf)
        have HIA := Lib.hid (show ∀ a ∈ us, FormV ar (ps.take ar.length) a (form (ps.take ar.length) a) from fun a hm => c_l15FormN hs hP1.at0 hP1.all _ a (Nat.le_refl _) (hOL a hm) (fun y hy => hv y (by rw [flat_node]; exact List.mem_cons_of_mem _ (mem_flatL hy hm))))
        have hf0 : oo = (formL (ps.take ar.length) us).bind fun fs => appP p0 fs := by
          rw [hoo, hR, formM_node, if_neg hx, formL_take us hol, Int.toNat_natCast, List.getD_eq_getElem?_getD, hp0]; rfl
        have HOO := Lib.hid hf0
        have HQB := Lib.hid (And.intro hp0c hp0cf)
        have HQL := Lib.hid hp0l
        have HS := Lib.hid hs
        have HU := Lib.hid k1
        have HFT := Lib.hid k2
        have hml : x0 + n < m := by have := HMN.out; omega
        rw [HAN.out] at hp0
        obtain ⟨b4, o4, q', A4, m4, c4, rfl, hq', hd1, hd2, hri4⟩ := RP.at_ HB.out hml
        rw [hp0] at hq'; cases hq'
        have HR4 := Lib.hid hri4
        have hsum : IntKind.i64.wrap ((n : Int) + (x0 : Int)) = ((x0 + n : Nat) : Int) := by rw [show (n : Int) + (x0 : Int) = ((x0 + n : Nat) : Int) by omega]; exact IntWalk.i64_in _ (by omega)
        have hsum2 : (n : Int) + (x0 : Int) = ((x0 + n : Nat) : Int) := by omega
        have hsi : ((x0 + n : Nat) : Int) < (m : Int) := by omega
        obtain ⟨z, hz⟩ : ∃ z, z = x0 + n := ⟨_, rfl⟩
        rw [← hz] at hsum hsum2 hsi hd1 hd2 hml
        have hz0 : (0 : Int) ≤ (z : Int) := by omega
        have hwz : IntKind.i64.wrap (z : Int) = (z : Int) := IntWalk.i64_in _ (by have := HB.out.le; omega)
        have hsi2 : (z : Int) < (m : Int) := hsi
        have HZ := Lib.hid hz
        clear hoo hR hf0 hlen hP1 hP2 hTP k1 k2 hv hxt hT hok hol hp0 hp0l hp0c hp0cf hs hOL hri4 hz
        go_enter Try.func23, Try.ntmps23
        go_wp2_with (first
          | (go_at_call 52; (with_reducible refine (c_sMarkedOk (ar := ar) (ps := ps) (by (first | (first | (with_reducible exact RdI.mk (RI.ext (Hid.out (by with_reducible assumption)) (by exact extX))) | (with_reducible exact RdI.ext (by with_reducible assumption) (by exact extX))) | (with_reducible exact RdPc.mk (RP.ext (Hid.out (by with_reducible assumption)) (by exact extX))) | (with_reducible exact RdPc.ext (by with_reducible assumption) (by exact extX)) | (with_reducible exact RdPs.mk (RP.ext (Hid.out (by with_reducible assumption)) (by exact extX))) | (with_reducible exact RdPs.ext (by with_reducible assumption) (by exact extX)) | (with_reducible exact RdPl.mk (by (first | (with_reducible exact RI.ext (Hid.out (by with_reducible assumption)) (by exact extX))))) | (with_reducible exact RdPl.ext (by with_reducible assumption) (by exact extX)) | (with_reducible exact RdSig.mk (by (first | (with_reducible exact RI.ext (Hid.out (by with_reducible assumption)) (by exact extX))))) | (with_reducible exact RdSig.ext (by with_reducible assumption) (by exact extX)))) (RdPc.mkc hmd hd63 (RP.ext HB.out (by exact extX)))).mono ?_); rintro e w1 ⟨rfl, hE1⟩; have hz1 := sz_of hE1; (try simp only [World.size_alloc, World.size_setCell, World.size_drew] at hz1); obtain ⟨hc1, hf1⟩ := bcell hE1; (try have hq1_0 : w.heap.size < w1.heap.size := by omega); (try have hq1_1 : w.heap.size + 1 < w1.heap.size := by omega); (try have hq1_2 : w.heap.size + 1 + 1 < w1.heap.size := by omega); (try have hq1_3 : w.heap.size + 1 + 1 + 1 < w1.heap.size := by omega); (try have hq1_4 : w.heap.size + 1 + 1 + 1 + 1 < w1.heap.size := by omega); (try have hq1_5 : w.heap.size + 1 + 1 + 1 + 1 + 1 < w1.heap.size := by omega))
          | fail)
        (with_reducible refine (c_sTermOk (ar := ar) (t := t) (by (first | (first | (with_reducible exact RdI.mk (RI.ext (Hid.out (by with_reducible assumption)) (by exact extX))) | (with_reducible exact RdI.ext (by with_reducible assumption) (by exact extX))) | (with_reducible exact RdPc.mk (RP.ext (Hid.out (by with_reducible assumption)) (by exact extX))) | (with_reducible exact RdPc.ext (by with_reducible assumption) (by exact extX)) | (with_reducible exact RdPs.mk (RP.ext (Hid.out (by with_reducible assumption)) (by exact extX))) | (with_reducible exact RdPs.ext (by with_reducible assumption) (by exact extX)) | (with_reducible exact RdPl.mk (by (first | (with_reducible exact RI.ext (Hid.out (by with_reducible assumption)) (by exact extX))))) | (with_reducible exact RdPl.ext (by with_reducible assumption) (by exact extX)) | (with_reducible exact RdSig.mk (by (first | (with_reducible exact RI.ext (Hid.out (by with_reducible assumption)) (by exact extX))))) | (with_reducible exact RdSig.ext (by with_reducible assumption) (by exact extX)))) (by (first | (first | (with_reducible exact RdI.mk (RI.ext (Hid.out (by with_reducible assumption)) (by exact extX))) | (with_reducible exact RdI.ext (by with_reducible assumption) (by exact extX))) | (with_reducible exact RdPc.mk (RP.ext (Hid.out (by with_reducible assumption)) (by exact extX))) | (with_reducible exact RdPc.ext (by with_reducible assumption) (by exact extX)) | (with_reducible exact RdPs.mk (RP.ext (Hid.out (by with_reducible assumption)) (by exact extX))) | (with_reducible exact RdPs.ext (by with_reducible assumption) (by exact extX)) | (with_reducible exact RdPl.mk (by (first | (with_reducible exact RI.ext (Hid.out (by with_reducible assumption)) (by exact extX))))) | (with_reducible exact RdPl.ext (by with_reducible assumption) (by exact extX)) | (with_reducible exact RdSig.mk (by (first | (with_reducible exact RI.ext (Hid.out (by with_reducible assumption)) (by exact extX))))) | (with_reducible exact RdSig.ext (by with_reducible assumption) (by exact extX))))).mono ?_); rintro e w2 ⟨rfl, hE2⟩; have hz2 := sz_of hE2; (try simp only [World.size_alloc, World.size_setCell, World.size_drew] at hz2); obtain ⟨hc2, hf2⟩ := bcell hE2; (try have hq2_0 : w.heap.size < w2.heap.size := by omega); (try have hq2_1 : w.heap.size + 1 < w2.heap.size := by omega); (try have hq2_2 : w.heap.size + 1 + 1 < w2.heap.size := by omega); (try have hq2_3 : w.heap.size + 1 + 1 + 1 < w2.heap.size := by omega); (try have hq2_4 : w.heap.size + 1 + 1 + 1 + 1 < w2.heap.size := by omega); (try have hq2_5 : w.heap.size + 1 + 1 + 1 + 1 + 1 < w2.heap.size := by omega); (try have hx2_1 : w1.heap.size < w2.heap.size := by omega)
        have hs0 : w2.cell? ⟨w.heap.size, 0, none⟩ = some (.slice A n c) := Ext.keep hE2 (Ext.keep hE1 (by simp [go_sem]))
        obtain ⟨hs2, hs3, hs4⟩ := box_ext (Ext.trans hE1 hE2) (q := w.heap.size + 1) (u := .int .i64 0) (v := .slice none 0 0) (by simp [go_sem]) (by simp [go_sem]) (by intro j; simp [go_sem])
        have hEw2 : Ext w w2 := Ext.trans (by exact extX) (Ext.trans hE1 hE2)
        have hsz2 : w.heap.size + 1 < w2.heap.size := World.block_lt_of_cell? w2 _ hs2
        have hcy2 := Ext.keep hEw2 hcy
        go_wp2_with fail
        refine wp_only (R := fun (a0 : Act) (a8 : Act) (w9 : World) => ∃ (A5 : Option Addr) (c5 : Nat) (A6 : Option Addr) (n6 : Nat) (c6 : Nat), a8 = (((((((((((((((((((a0.put (some 35) (.agg #[.slice A n c])).put (some 36) (.slice (some ⟨b4, o4, none⟩) m d)).put (some 37) (.int .i64 (n : Int))).put (some 38) (.slice (some ⟨b4, o4, none⟩) n d)).put (some 39) (.slice (some ⟨b4, o4, none⟩) m d)).put (some 40) (.int .i64 (n : Int))).put (some 41) (.slice (some ⟨bt, ot, none⟩) q l)).put (some 42) (.pointer (some ⟨bt, ot, none⟩))).put (some 43) (.int .i64 (x0 : Int))).put (some 44) (.int .i64 (z : Int))).put (some 45) (.pointer (some ⟨b4, o4 + z * 2, none⟩))).put (some 46) (.agg #[.int .i64 p0.c, .slice A4 m4 c4])).put (some 47) (.agg #[.slice A n c])).put (some 48) (.slice (some ⟨bt, ot, none⟩) q l)).put (some 49) (.slice A5 us.length c5)).put (some 50) (.tuple #[.agg #[.int .i64 (rp oo).c, .slice A6 n6 c6], .bool oo.isSome])).put (some 51) (.agg #[.int .i64 (rp oo).c, .slice A6 n6 c6])).put (some 52) (.bool oo.isSome)).put (some 7) (.bool oo.isSome)) ∧ n6 = (rp oo).cf.length ∧ PG w w9 (w.heap.size + 1) (rp oo).c A6 c6 (rp oo).cf) ?_ (fun a8 w5 hR => ?_)
        · refine wp_region_held_drew (S := (fun w' => w'.cell? ⟨w.heap.size, 0, none⟩ = some (.slice A n c) ∧ Ext w w')) (by kernel_rfl) (⟨hs0, hEw2.drew⟩) (fun hH => ?_)
          refine wpAnyH_take_dst (i := 0) (v := .agg #[.slice A n c]) (d := some 35) rfl rfl (by kernel_rfl) (by kernel_rfl) (by kernel_rfl) (fun _ _ _ h => h) (Or.inl ⟨by rfl, ?_⟩) hH ?_
          · (intro w' hE'; (try dsimp only at hE'); have y0 := hE'.1; have y1 := Ext.keep hE'.2 hcy; have y2 := Ext.keep hE'.2 hd1; have y3 := Ext.keep hE'.2 hd2; go_simp; try with_reducible rfl)
          try simp only [Act.put, List.setIfInBounds_toArray, List.set_cons_zero, List.set_cons_succ]
          refine wpAnyH_take_dst (i := 1) (v := .slice (some ⟨b4, o4, none⟩) m d) (d := some 36) rfl rfl (by kernel_rfl) (by kernel_rfl) (by kernel_rfl) (fun _ _ _ h => h) (Or.inl ⟨by rfl, ?_⟩) hH ?_
          · (intro w' hE'; (try dsimp only at hE'); have y0 := hE'.1; have y1 := Ext.keep hE'.2 hcy; have y2 := Ext.keep hE'.2 hd1; have y3 := Ext.keep hE'.2 hd2; go_simp; try with_reducible rfl)
          try simp only [Act.put, List.setIfInBounds_toArray, List.set_cons_zero, List.set_cons_succ]
          refine wpAnyH_take_dst (i := 2) (v := .int .i64 (n : Int)) (d := some 37) rfl rfl (by kernel_rfl) (by kernel_rfl) (by kernel_rfl) (fun _ _ _ h => h) (Or.inl ⟨by rfl, ?_⟩) hH ?_
          · (intro w' hE'; (try dsimp only at hE'); have y0 := hE'.1; have y1 := Ext.keep hE'.2 hcy; have y2 := Ext.keep hE'.2 hd1; have y3 := Ext.keep hE'.2 hd2; go_simp; try with_reducible rfl)
          try simp only [Act.put, List.setIfInBounds_toArray, List.set_cons_zero, List.set_cons_succ]
          refine wpAnyH_take_dst (i := 3) (v := .slice (some ⟨b4, o4, none⟩) n d) (d := some 38) rfl rfl (by kernel_rfl) (by kernel_rfl) (by kernel_rfl) (fun _ _ _ h => h) (Or.inl ⟨by rfl, ?_⟩) hH ?_
          · (intro w' hE'; (try dsimp only at hE'); have y0 := hE'.1; have y1 := Ext.keep hE'.2 hcy; have y2 := Ext.keep hE'.2 hd1; have y3 := Ext.keep hE'.2 hd2; go_simp; try with_reducible rfl)
          try simp only [Act.put, List.setIfInBounds_toArray, List.set_cons_zero, List.set_cons_succ]
          refine wpAnyH_take_dst (i := 4) (v := .slice (some ⟨b4, o4, none⟩) m d) (d := some 39) rfl rfl (by kernel_rfl) (by kernel_rfl) (by kernel_rfl) (fun _ _ _ h => h) (Or.inl ⟨by rfl, ?_⟩) hH ?_
          · (intro w' hE'; (try dsimp only at hE'); have y0 := hE'.1; have y1 := Ext.keep hE'.2 hcy; have y2 := Ext.keep hE'.2 hd1; have y3 := Ext.keep hE'.2 hd2; go_simp; try with_reducible rfl)
          try simp only [Act.put, List.setIfInBounds_toArray, List.set_cons_zero, List.set_cons_succ]
          refine wpAnyH_take_dst (i := 5) (v := .int .i64 (n : Int)) (d := some 40) rfl rfl (by kernel_rfl) (by kernel_rfl) (by kernel_rfl) (fun _ _ _ h => h) (Or.inl ⟨by rfl, ?_⟩) hH ?_
          · (intro w' hE'; (try dsimp only at hE'); have y0 := hE'.1; have y1 := Ext.keep hE'.2 hcy; have y2 := Ext.keep hE'.2 hd1; have y3 := Ext.keep hE'.2 hd2; go_simp; try with_reducible rfl)
          try simp only [Act.put, List.setIfInBounds_toArray, List.set_cons_zero, List.set_cons_succ]
          refine wpAnyH_take_dst (i := 6) (v := .slice (some ⟨bt, ot, none⟩) q l) (d := some 41) rfl rfl (by kernel_rfl) (by kernel_rfl) (by kernel_rfl) (fun _ _ _ h => h) (Or.inl ⟨by rfl, ?_⟩) hH ?_
          · (intro w' hE'; (try dsimp only at hE'); have y0 := hE'.1; have y1 := Ext.keep hE'.2 hcy; have y2 := Ext.keep hE'.2 hd1; have y3 := Ext.keep hE'.2 hd2; go_simp; try with_reducible rfl)
          try simp only [Act.put, List.setIfInBounds_toArray, List.set_cons_zero, List.set_cons_succ]
          refine wpAnyH_take_dst (i := 7) (v := .pointer (some ⟨bt, ot, none⟩)) (d := some 42) rfl rfl (by kernel_rfl) (by kernel_rfl) (by kernel_rfl) (fun _ _ _ h => h) (Or.inl ⟨by rfl, ?_⟩) hH ?_
          · (intro w' hE'; (try dsimp only at hE'); have y0 := hE'.1; have y1 := Ext.keep hE'.2 hcy; have y2 := Ext.keep hE'.2 hd1; have y3 := Ext.keep hE'.2 hd2; go_simp; try with_reducible rfl)
          try simp only [Act.put, List.setIfInBounds_toArray, List.set_cons_zero, List.set_cons_succ]
          refine wpAnyH_take_dst (i := 8) (v := .int .i64 (x0 : Int)) (d := some 43) rfl rfl (by kernel_rfl) (by kernel_rfl) (by kernel_rfl) (fun _ _ _ h => h) (Or.inl ⟨by rfl, ?_⟩) hH ?_
          · (intro w' hE'; (try dsimp only at hE'); have y0 := hE'.1; have y1 := Ext.keep hE'.2 hcy; have y2 := Ext.keep hE'.2 hd1; have y3 := Ext.keep hE'.2 hd2; go_simp; try with_reducible rfl)
          try simp only [Act.put, List.setIfInBounds_toArray, List.set_cons_zero, List.set_cons_succ]
          refine wpAnyH_take_dst (i := 9) (v := .int .i64 (z : Int)) (d := some 44) rfl rfl (by kernel_rfl) (by kernel_rfl) (by kernel_rfl) (fun _ _ _ h => h) (Or.inl ⟨by rfl, ?_⟩) hH ?_
          · (intro w' hE'; (try dsimp only at hE'); have y0 := hE'.1; have y1 := Ext.keep hE'.2 hcy; have y2 := Ext.keep hE'.2 hd1; have y3 := Ext.keep hE'.2 hd2; go_simp; try with_reducible rfl)
          try simp only [Act.put, List.setIfInBounds_toArray, List.set_cons_zero, List.set_cons_succ]
          refine wpAnyH_take_dst (i := 10) (v := .pointer (some ⟨b4, o4 + z * 2, none⟩)) (d := some 45) rfl rfl (by kernel_rfl) (by kernel_rfl) (by kernel_rfl) (fun _ _ _ h => h) (Or.inl ⟨by rfl, ?_⟩) hH ?_
          · (intro w' hE'; (try dsimp only at hE'); have y0 := hE'.1; have y1 := Ext.keep hE'.2 hcy; have y2 := Ext.keep hE'.2 hd1; have y3 := Ext.keep hE'.2 hd2; go_simp; try with_reducible rfl)
          try simp only [Act.put, List.setIfInBounds_toArray, List.set_cons_zero, List.set_cons_succ]
          refine wpAnyH_take_dst (i := 11) (v := .agg #[.int .i64 p0.c, .slice A4 m4 c4]) (d := some 46) rfl rfl (by kernel_rfl) (by kernel_rfl) (by kernel_rfl) (fun _ _ _ h => h) (Or.inl ⟨by rfl, ?_⟩) hH ?_
          · (intro w' hE'; (try dsimp only at hE'); have y0 := hE'.1; have y1 := Ext.keep hE'.2 hcy; have y2 := Ext.keep hE'.2 hd1; have y3 := Ext.keep hE'.2 hd2; go_simp; try with_reducible rfl)
          try simp only [Act.put, List.setIfInBounds_toArray, List.set_cons_zero, List.set_cons_succ]
          refine wpAnyH_take_dst (i := 12) (v := .agg #[.slice A n c]) (d := some 47) rfl rfl (by kernel_rfl) (by kernel_rfl) (by kernel_rfl) (fun _ _ _ h => h) (Or.inl ⟨by rfl, ?_⟩) hH ?_
          · (intro w' hE'; (try dsimp only at hE'); have y0 := hE'.1; have y1 := Ext.keep hE'.2 hcy; have y2 := Ext.keep hE'.2 hd1; have y3 := Ext.keep hE'.2 hd2; go_simp; try with_reducible rfl)
          try simp only [Act.put, List.setIfInBounds_toArray, List.set_cons_zero, List.set_cons_succ]
          refine wpAnyH_take_dst (i := 13) (v := .slice (some ⟨bt, ot, none⟩) q l) (d := some 48) rfl rfl (by kernel_rfl) (by kernel_rfl) (by kernel_rfl) (fun _ _ _ h => h) (Or.inl ⟨by rfl, ?_⟩) hH ?_
          · (intro w' hE'; (try dsimp only at hE'); have y0 := hE'.1; have y1 := Ext.keep hE'.2 hcy; have y2 := Ext.keep hE'.2 hd1; have y3 := Ext.keep hE'.2 hd2; go_simp; try with_reducible rfl)
          try simp only [Act.put, List.setIfInBounds_toArray, List.set_cons_zero, List.set_cons_succ]
          refine wpAnyH_ready (rs := [14]) (by kernel_rfl) (by simp) ?_
          refine AllReadyH.cons rfl (fun K hK => ?_) AllReadyH.nil
          rw [if_pos (by rfl)]
          go_wp2_with fail
          (with_reducible refine (c_l13Parts (x := (x0 : Int)) (us := us) (RdSig.mk (RI.ext HA.out hH.2)) (RdIc.mk HCP.out (by rw [HFT.out]; exact RI.ext HD.out hH.2)) HS.out HU.out).mono ?_)
          rintro e w9 ⟨A5, n5, c5, rfl, rfl, hS5, hE9⟩
          refine hK.out _ _ (⟨Ext.keep hE9 hH.1, Ext.trans hH.2 hE9⟩) (fun hH9 => ?_)
          clear hK; have hH0 := hH; clear hH; have hH := hH9; clear hH9
          try simp only [Act.put, List.setIfInBounds_toArray, List.set_cons_zero, List.set_cons_succ]
          refine wpAnyH_ready (rs := [15]) (by kernel_rfl) (by simp) ?_
          refine AllReadyH.cons rfl (fun K hK => ?_) AllReadyH.nil
          rw [if_pos (by rfl)]
          go_wp2_with fail
          (with_reducible refine (c_l15Sum' (q := p0) HOO.out (RdSig.mk (RI.ext HA.out hH.2)) (RdPs.mk (by rw [HAN.out]; exact RP.ext (RP.take HB.out (by omega)) hH.2)) (RdPl.mk (RI.ext HR4.out hH.2)) hS5 rfl HQB.out HQL.out hal HFM.out HIA.out).mono ?_)
          rintro e w9 ⟨A6, n6, c6, rfl, hO6, hE8⟩
          refine hK.out _ _ (⟨Ext.keep hE8 hH.1, Ext.trans hH.2 hE8⟩) (fun hH9 => ?_)
          clear hK; have hH0 := hH; clear hH; have hH := hH9; clear hH9
          try simp only [Act.put, List.setIfInBounds_toArray, List.set_cons_zero, List.set_cons_succ]
          refine wpAnyH_take_dst (i := 16) (v := .agg #[.int .i64 (rp oo).c, .slice A6 n6 c6]) (d := some 51) rfl rfl (by kernel_rfl) (by kernel_rfl) (by kernel_rfl) (fun _ _ _ h => h) (Or.inl ⟨by rfl, ?_⟩) hH ?_
          · (intro w' hE'; (try dsimp only at hE'); have y0 := hE'.1; have y1 := Ext.keep hE'.2 hcy; have y2 := Ext.keep hE'.2 hd1; have y3 := Ext.keep hE'.2 hd2; go_simp; try with_reducible rfl)
          try simp only [Act.put, List.setIfInBounds_toArray, List.set_cons_zero, List.set_cons_succ]
          refine wpAnyH_take_dst (i := 17) (v := .bool oo.isSome) (d := some 52) rfl rfl (by kernel_rfl) (by kernel_rfl) (by kernel_rfl) (fun _ _ _ h => h) (Or.inl ⟨by rfl, ?_⟩) hH ?_
          · (intro w' hE'; (try dsimp only at hE'); have y0 := hE'.1; have y1 := Ext.keep hE'.2 hcy; have y2 := Ext.keep hE'.2 hd1; have y3 := Ext.keep hE'.2 hd2; go_simp; try with_reducible rfl)
          try simp only [Act.put, List.setIfInBounds_toArray, List.set_cons_zero, List.set_cons_succ]
          refine wpAnyH_ready (rs := [18]) (by kernel_rfl) (by simp) ?_
          refine AllReadyH.cons rfl (fun K hK => ?_) AllReadyH.nil
          rw [if_pos (by rfl)]
          obtain ⟨k0, k1, kf⟩ := box_ext (Ext.trans hE9 hE8) (q := w.heap.size + 1) (u := .int .i64 0) (v := .slice none 0 0) hs2 hs3 hs4; go_wp2_with fail
          refine hK.out _ _ (⟨by rw [World.cell?_setCell_other _ _ _ _ (by simp), World.cell?_setCell_other _ _ _ _ (by simp)]; exact hH.1, (hH.2.set (Nat.le_succ _) _).set (Nat.le_succ _) _⟩) (fun hH9 => ?_)
          clear hK; have hH0 := hH; clear hH; have hH := hH9; clear hH9
          try simp only [Act.put, List.setIfInBounds_toArray, List.set_cons_zero, List.set_cons_succ]
          refine wpAnyH_take_dst (i := 19) (v := .bool oo.isSome) (d := some 7) rfl rfl (by kernel_rfl) (by kernel_rfl) (by kernel_rfl) (fun _ _ _ h => h) (Or.inl ⟨by rfl, ?_⟩) hH ?_
          · (intro w' hE'; (try dsimp only at hE'); have y0 := hE'.1; have y1 := Ext.keep hE'.2 hcy; have y2 := Ext.keep hE'.2 hd1; have y3 := Ext.keep hE'.2 hd2; go_simp; try with_reducible rfl)
          try simp only [Act.put, List.setIfInBounds_toArray, List.set_cons_zero, List.set_cons_succ]
          refine wpAnyH_done (by kernel_rfl) ?_ _
          refine ⟨A5, c5, A6, n6, c6, by rfl, hO6.len.symm, PG.put hO6.len.symm k0 k1 kf (hO6.lower (Nat.le_trans hEw2.size hE9.size)) (fun b o s e => ?_) (Nat.le_succ _) hH0.2⟩
          have h1 := (hO6.bd b o s e).1; have h2 := hE9.size; have h3 : w2.heap.size ≤ w2.drew.heap.size := Nat.le_refl _; omega
        obtain ⟨A5, c5, A6, n6, c6, ha, hn6, P6⟩ := hR
        simp only [Act.put, List.setIfInBounds_toArray, List.set_cons_zero, List.set_cons_succ] at ha
        subst ha
        have k0 := P6.c0
        have k1 := P6.c1
        have kf := P6.fr
        have hE5 := P6.ex
        have HO := Lib.hid P6.oA
        clear P6 hn6
        go_wp2_with fail
        refine bodyPost_ret (v := .tuple #[.agg #[.int .i64 (rp oo).c, .slice A6 (rp oo).cf.length c6], .bool oo.isSome]) (by simp [results, Try.results23, go_sem, k0, k1, kf]) rfl ?_
        exact ⟨A6, _, c6, rfl, HO.out, hE5⟩

/-! Pairs by their head forms. -/
theorem RdPc.ext {w w' : World} {v : Value} {ps : List Pl} (h : RdPc w v ps) (k : Ext w w') : RdPc w' v ps := by
  obtain ⟨A, n, c, e, h1, h2, h3⟩ := h; exact ⟨A, n, c, e, h1, h2, RP.ext h3 k⟩
def NewPc (w : World) (ps : List Pl) (e : Ending) (w' : World) : Prop := NewPs w ps e w'
theorem NewPc.out {w w' : World} {ps : List Pl} {e : Ending} (h : NewPc w ps e w') : ∃ v, e = .returned v ∧ RdPc w' v ps ∧ Ext w w' := by
  obtain ⟨A, n, e, h1, h2⟩ := h
  exact ⟨_, e, RdPc.mk h1.rp, h2⟩
set_option maxRecDepth 100000 in
set_option maxHeartbeats 2000000 in
theorem c_comparePair {v0 v1 v2 : Value} {ar : List Int} {ps : List Pl} {p : DepP} {w : World} (h0 : RdSig w v0 ar) (h1 : RdPc w v1 ps) (h2 : RdDp w v2 p) :
    Calls Try.prog 51 #[v0, v1, v2] w fun e w' => e = .returned (.tuple #[.bool (cmpMost (headO ar ps p.r) (headO ar ps p.l)), .bool (cmpLess (headO ar ps p.r) (headO ar ps p.l))]) ∧ Ext w w' := by
  obtain ⟨A, n, c, rfl, ha⟩ := h0
  obtain ⟨B, m, d, rfl, hmd, hd63, hb⟩ := h1
  obtain ⟨D, q, l, F, q', l', rfl, hcap, hcap', hd, hf⟩ := h2
  have HA := Lib.hid ha
  have HB := Lib.hid hb
  have HD := Lib.hid hd
  have HF := Lib.hid hf
  have HCP := Lib.hid hcap
  have HCP' := Lib.hid hcap'
  clear ha hb hd hf hcap hcap'
  obtain ⟨oa, hoa⟩ : ∃ oa, oa = headO ar ps p.r := ⟨_, rfl⟩
  obtain ⟨ob, hob⟩ : ∃ ob, ob = headO ar ps p.l := ⟨_, rfl⟩
  rw [← hoa, ← hob]
  have HOA := Lib.hid hoa
  have HOB := Lib.hid hob
  clear hoa hob
  go_enter Try.func51, Try.ntmps51
  go_wp2_with fail
  obtain ⟨w0, hw0⟩ : ∃ w0, w0 = (w.alloc (.cells #[.slice A n c] 29)).alloc (.cells #[.slice D q l, .slice F q' l', .int .i64 p.rule, .int .i64 p.at_] 56) := ⟨_, rfl⟩
  have hs0 : w0.cell? ⟨w.heap.size, 0, none⟩ = some (.slice A n c) := by rw [hw0]; simp [go_sem]
  have hs1 : w0.cell? ⟨w.heap.size + 1, 0, none⟩ = some (.slice D q l) := by rw [hw0]; simp [go_sem]
  have hE0 : Ext w w0 := by rw [hw0]; exact extX
  rw [← hw0]
  clear hw0
  (with_reducible refine (c_iHeadForm (t := p.r) (RdSig.mk (RI.ext HA.out hE0)) (RdPc.mkc hmd hd63 (RP.ext HB.out hE0)) (RdI.mk (RI.ext HF.out hE0))).mono ?_)
  rw [← HOA.out]
  rintro e2 w2 ⟨A2, n2, c2, rfl, hO2, hE2⟩
  have HL2 := Lib.hid hO2.ri
  have hs2 := Ext.keep hE2 hs0
  have hs3 := Ext.keep hE2 hs1
  have hEw2 : Ext w w2 := Ext.trans hE0 hE2
  have hlt2 : w.heap.size < w2.heap.size := World.block_lt_of_cell? w2 _ hs2
  have hlt3 : w.heap.size + 1 < w2.heap.size := World.block_lt_of_cell? w2 _ hs3
  clear hO2 hE2 hs0 hs1 hE0
  go_wp2_with fail
  obtain ⟨wq, hwq⟩ : ∃ wq, wq = w2.alloc (.cells #[.int .i64 (rp oa).c, .slice A2 n2 c2] 38) := ⟨_, rfl⟩
  have hg0 : wq.cell? ⟨w2.heap.size, 0, none⟩ = some (.int .i64 (rp oa).c) := by rw [hwq]; simp [go_sem]
  have hg1 : wq.cell? ⟨w2.heap.size, 1, none⟩ = some (.slice A2 n2 c2) := by rw [hwq]; simp [go_sem]
  have hEq : Ext w2 wq := by rw [hwq]; exact (Ext.refl _).alloc _
  rw [← hwq]
  clear hwq
  have hEwq : Ext w wq := Ext.trans hEw2 hEq
  (with_reducible refine (c_iHeadForm (t := p.l) (RdSig.mk (RI.ext HA.out hEwq)) (RdPc.mkc hmd hd63 (RP.ext HB.out hEwq)) (RdI.mk (RI.ext HD.out hEwq))).mono ?_)
  rw [← HOB.out]
  rintro e3 w3 ⟨A3, n3, c3, rfl, hO3, hE3⟩
  have HL3 := Lib.hid hO3.ri
  have hk0 := Ext.keep hE3 hg0
  have hk1 := Ext.keep hE3 hg1
  have hkl : w2.heap.size < w3.heap.size := World.block_lt_of_cell? w3 _ hk0
  have hE23 : Ext w2 w3 := Ext.trans hEq hE3
  have hEw3 : Ext w w3 := Ext.trans hEwq hE3
  clear hO3 hg0 hg1
  cases oa with
  | none =>
    go_wp2
    go_ret2
    exact ⟨rfl, by exact extX⟩
  | some a =>
    cases ob with
    | none =>
      go_wp2
      go_ret2
      exact ⟨rfl, by exact extX⟩
    | some b =>
      go_wp2_with (go_at_call 73; (with_reducible refine (c_atMost (a := rp (some a)) (b := rp (some b)) (RdPl.mk (RI.ext HL2.out (by exact extX))) (RdPl.mk (RI.ext HL3.out (by exact extX)))).mono ?_); rintro e4 w4 ⟨rfl, hE4⟩)
      go_ret2
      exact ⟨rfl, by exact extX⟩
set_option maxHeartbeats 1000000 in
theorem c_iPairLess {v0 v1 v2 : Value} {ar : List Int} {ps : List Pl} {p : DepP} {w : World} (h0 : RdSig w v0 ar) (h1 : RdPc w v1 ps) (h2 : RdDp w v2 p) :
    Calls Try.prog 21 #[v0, v1, v2] w fun e w' => e = .returned (.bool (cmpLess (headO ar ps p.r) (headO ar ps p.l))) ∧ Ext w w' := by
  obtain ⟨A, n, c, rfl, ha⟩ := h0
  obtain ⟨B, m, d, rfl, hmd, hd63, hb⟩ := h1
  obtain ⟨D, q, l, F, q', l', rfl, hcap, hcap', hd, hf⟩ := h2
  have HA := Lib.hid ha
  have HB := Lib.hid hb
  have HD := Lib.hid hd
  have HF := Lib.hid hf
  have HCP := Lib.hid hcap
  have HCP' := Lib.hid hcap'
  clear ha hb hd hf hcap hcap'
  go_enter Try.func21, Try.ntmps21
  go_wp2_with (go_at_call 51; (with_reducible refine (c_comparePair (ar := ar) (ps := ps) (p := p) (RdSig.mk (RI.ext HA.out (by exact extX))) (RdPc.mkc hmd hd63 (RP.ext HB.out (by exact extX))) (RdDp.mk HCP.out HCP'.out (RI.ext HD.out (by exact extX)) (RI.ext HF.out (by exact extX)))).mono ?_); rintro e w1 ⟨rfl, hE1⟩; have hz1 := sz_of hE1; (try simp only [World.size_alloc, World.size_setCell, World.size_drew] at hz1); obtain ⟨hc1, hf1⟩ := bcell hE1; (try have hq1_0 : w.heap.size < w1.heap.size := by omega); (try have hq1_1 : w.heap.size + 1 < w1.heap.size := by omega); (try have hq1_2 : w.heap.size + 1 + 1 < w1.heap.size := by omega); (try have hq1_3 : w.heap.size + 1 + 1 + 1 < w1.heap.size := by omega); (try have hq1_4 : w.heap.size + 1 + 1 + 1 + 1 < w1.heap.size := by omega); (try have hq1_5 : w.heap.size + 1 + 1 + 1 + 1 + 1 < w1.heap.size := by omega))
  go_ret
  exact ⟨rfl, by exact extX⟩
set_option maxHeartbeats 1000000 in
theorem c_iPairAtMost {v0 v1 v2 : Value} {ar : List Int} {ps : List Pl} {p : DepP} {w : World} (h0 : RdSig w v0 ar) (h1 : RdPc w v1 ps) (h2 : RdDp w v2 p) :
    Calls Try.prog 22 #[v0, v1, v2] w fun e w' => e = .returned (.bool (cmpMost (headO ar ps p.r) (headO ar ps p.l))) ∧ Ext w w' := by
  obtain ⟨A, n, c, rfl, ha⟩ := h0
  obtain ⟨B, m, d, rfl, hmd, hd63, hb⟩ := h1
  obtain ⟨D, q, l, F, q', l', rfl, hcap, hcap', hd, hf⟩ := h2
  have HA := Lib.hid ha
  have HB := Lib.hid hb
  have HD := Lib.hid hd
  have HF := Lib.hid hf
  have HCP := Lib.hid hcap
  have HCP' := Lib.hid hcap'
  clear ha hb hd hf hcap hcap'
  go_enter Try.func22, Try.ntmps22
  go_wp2_with (go_at_call 51; (with_reducible refine (c_comparePair (ar := ar) (ps := ps) (p := p) (RdSig.mk (RI.ext HA.out (by exact extX))) (RdPc.mkc hmd hd63 (RP.ext HB.out (by exact extX))) (RdDp.mk HCP.out HCP'.out (RI.ext HD.out (by exact extX)) (RI.ext HF.out (by exact extX)))).mono ?_); rintro e w1 ⟨rfl, hE1⟩; have hz1 := sz_of hE1; (try simp only [World.size_alloc, World.size_setCell, World.size_drew] at hz1); obtain ⟨hc1, hf1⟩ := bcell hE1; (try have hq1_0 : w.heap.size < w1.heap.size := by omega); (try have hq1_1 : w.heap.size + 1 < w1.heap.size := by omega); (try have hq1_2 : w.heap.size + 1 + 1 < w1.heap.size := by omega); (try have hq1_3 : w.heap.size + 1 + 1 + 1 < w1.heap.size := by omega); (try have hq1_4 : w.heap.size + 1 + 1 + 1 + 1 < w1.heap.size := by omega); (try have hq1_5 : w.heap.size + 1 + 1 + 1 + 1 + 1 < w1.heap.size := by omega))
  go_ret
  exact ⟨rfl, by exact extX⟩

end Go.Proofs.Ytljbjabgdalabaa
