import Derived.Test.YtpoollcdllagdaaPolysOk
import Derived.Test.YtpoollcdllagdaaMStrict
import Derived.Test.YtpoollcdllagdaaHeld
-- rd: RdPl RdPs
namespace Go.Proofs.Ytpoollcdllagdaa
open Go.RowKit
set_option linter.unusedSimpArgs false
set_option linter.unusedVariables false

theorem RP.take {w : World} {A : Option Addr} {m k : Nat} {ps : List Pl} (h : RP w A m ps) (hk : k ≤ m) : RP w A k (ps.take k) := by
  refine ⟨⟨by rw [List.length_take, h.len]; omega, by have := h.le; omega⟩, fun h0 => ?_⟩
  obtain ⟨b, o, hA, hc⟩ := h.2 (by omega)
  refine ⟨b, o, hA, fun j p hp => ?_⟩
  rw [List.getElem?_take] at hp
  split at hp
  · exact hc j p hp
  · cases hp
theorem RP.drop {w : World} {b o m k : Nat} {ps : List Pl} (h : RP w (some ⟨b, o, none⟩) m ps) (hk : k ≤ m) : RP w (some ⟨b, o + k * 2, none⟩) (m - k) (ps.drop k) := by
  refine ⟨⟨by rw [List.length_drop, h.len], by have := h.le; omega⟩, fun h0 => ?_⟩
  obtain ⟨b', o', hA, hc⟩ := h.2 (by omega)
  cases hA
  refine ⟨b, o + k * 2, rfl, fun j p hp => ?_⟩
  rw [List.getElem?_drop] at hp
  have := hc (k + j) p hp
  rw [show o + k * 2 + j * 2 = o + (k + j) * 2 by omega]
  exact this
/-- Polynomials of which the slice holds room for all. -/
def RdPc (w : World) (v : Value) (ps : List Pl) : Prop := ∃ A n c, v = .slice A n c ∧ n ≤ c ∧ c ≤ 9223372036854775807 ∧ RP w A n ps
theorem RdPc.mk {w : World} {A : Option Addr} {n : Nat} {ps : List Pl} (h : RP w A n ps) : RdPc w (.slice A n n) ps := ⟨A, n, n, rfl, Nat.le_refl _, by have := h.le; omega, h⟩
theorem RP.zero {w : World} {A A' : Option Addr} {m k : Nat} {ps : List Pl} (h : RP w A m ps) (hk : m ≤ k) : RP w A' (m - k) (ps.drop k) := by
  refine ⟨⟨by rw [List.length_drop, h.len], by have := h.le; omega⟩, fun h0 => by omega⟩
theorem RP.hi {w : World} {A : Option Addr} {m k d : Nat} {ps : List Pl} (h : RP w A m ps) (hk : k ≤ m) (hd : m ≤ d) : RP w (if d = k then A else A.map (·.add (k * 2))) (m - k) (ps.drop k) := by
  by_cases e : d = k
  · exact h.zero (by omega)
  · rw [if_neg e]
    by_cases e2 : m ≤ k
    · exact h.zero e2
    · obtain ⟨b, o, hA, _⟩ := h.2 (by omega)
      subst hA
      have := h.drop hk
      by_cases e3 : k * 2 = 0
      · have ek : k = 0 := by omega
        subst ek
        simpa [Addr.add] using this
      · simpa [Addr.add, e3] using this
theorem RP.hi' {w : World} {A : Option Addr} {m k d : Nat} {ps : List Pl} (h : RP w A m ps) (hk : k ≤ m) (hd : m ≤ d) (hn : ¬ d = k) : RP w (A.map (·.add (k * 2))) (m - k) (ps.drop k) := by
  have := h.hi hk hd
  rwa [if_neg hn] at this
theorem markedOk_len {ar : List Int} {ps : List Pl} (h : ¬ ps.length = 2 * ar.length) : markedOk ar ps = false := by
  unfold markedOk; rw [decide_eq_false h]; rfl
theorem markedOk_1 {ar : List Int} {ps : List Pl} (h : polysOk ar (ps.take ar.length) = false) : markedOk ar ps = false := by
  unfold markedOk; rw [h]; simp
theorem markedOk_2 {ar : List Int} {ps : List Pl} (h : polysOk ar (ps.drop ar.length) = false) : markedOk ar ps = false := by
  unfold markedOk; rw [h]; simp
theorem markedOk_t {ar : List Int} {ps : List Pl} (h0 : ps.length = 2 * ar.length) (h1 : polysOk ar (ps.take ar.length) = true) (h2 : polysOk ar (ps.drop ar.length) = true) : markedOk ar ps = true := by
  unfold markedOk; rw [h1, h2, decide_eq_true h0]; rfl

set_option maxRecDepth 100000 in
set_option maxHeartbeats 2000000 in
theorem c_sMarkedOk {v0 v1 : Value} {ar : List Int} {ps : List Pl} {w : World} (h0 : RdSig w v0 ar) (h1 : RdPc w v1 ps) :
    Calls Try.prog 50 #[v0, v1] w fun e w' => e = .returned (.bool (markedOk ar ps)) ∧ Ext w w' := by
  obtain ⟨A, n, c, rfl, ha⟩ := h0
  obtain ⟨B, m, d, rfl, hmd, hd, hb⟩ := h1
  have hn := ha.le
  have hm := hb.le
  have HA := Lib.hid ha
  have HB := Lib.hid hb
  have HL := Lib.hid ha.len
  have HM := Lib.hid hb.len
  clear ha hb
  have e2 : IntKind.i64.wrap (2 * (n : Int)) = 2 * (n : Int) := IntWalk.i64_in _ (by omega)
  by_cases hmn : m = 2 * n
  · have e1 : ((m : Int) == 2 * (n : Int)) = true := by simp; omega
    go_enter Try.func50, Try.ntmps50
    go_wp2_with fail
    obtain ⟨wq, hwq⟩ : ∃ wq, wq = w.alloc (.cells #[.slice A n c] 30) := ⟨_, rfl⟩
    have hq0 : wq.cell? ⟨w.heap.size, 0, none⟩ = some (.slice A n c) := by rw [hwq]; simp [go_sem]
    have hEq : Ext w wq := by rw [hwq]; (repeat' (first | (with_reducible exact Ext.refl _) | (with_reducible assumption) | (with_reducible refine Ext.alloc ?_ _) | (with_reducible refine Ext.set ?_ ?_ _) | (with_reducible refine Ext.drewN ?_ _) | (with_reducible refine Ext.drew ?_) | (with_reducible refine Ext.trans ?_ (by with_reducible assumption)) | go_size))
    rw [← hwq]
    clear hwq
    have hqs : w.heap.size < wq.heap.size := World.block_lt_of_cell? wq _ hq0
    have hn0 : (0 : Int) ≤ (n : Int) := by omega
    have hnd : (n : Int) ≤ (d : Int) := by omega
    have hnm : (n : Int) ≤ (m : Int) := by omega
    have HMN := Lib.hid hmn
    clear hmn
    cases hp1 : polysOk ar (ps.take n) with
    | false =>
      have HP1 := Lib.hid hp1
      have HR := Lib.hid (markedOk_1 (ar := ar) (ps := ps) (by rw [HL.out]; exact hp1))
      clear hp1
      refine wp_region_held_drew (S := (fun w' => w'.cell? ⟨w.heap.size, 0, none⟩ = some (.slice A n c) ∧ Ext w w')) (by kernel_rfl) ?_ (fun hH => ?_)
      · exact ⟨by simpa [go_sem] using hq0, hEq.drew⟩
      refine wpAnyH_take_dst (i := 0) (v := .slice B m d) (d := some 9) rfl rfl (by kernel_rfl) (by kernel_rfl) (by kernel_rfl) (fun _ _ _ h => h) (Or.inl ⟨by rfl, ?_⟩) hH ?_
      · (intro w hSw; (try dsimp only at hSw); go_split_ands; go_simp; try with_reducible rfl)
      try simp only [Act.put, List.setIfInBounds_toArray, List.set_cons_zero, List.set_cons_succ]
      refine wpAnyH_take_dst (i := 1) (v := .int .i64 m) (d := some 10) rfl rfl (by kernel_rfl) (by kernel_rfl) (by kernel_rfl) (fun _ _ _ h => h) (Or.inl ⟨by rfl, ?_⟩) hH ?_
      · (intro w hSw; (try dsimp only at hSw); go_split_ands; go_simp; try with_reducible rfl)
      try simp only [Act.put, List.setIfInBounds_toArray, List.set_cons_zero, List.set_cons_succ]
      refine wpAnyH_take_dst (i := 2) (v := .int .i64 n) (d := some 11) rfl rfl (by kernel_rfl) (by kernel_rfl) (by kernel_rfl) (fun _ _ _ h => h) (Or.inl ⟨by rfl, ?_⟩) hH ?_
      · (intro w hSw; (try dsimp only at hSw); go_split_ands; go_simp; try with_reducible rfl)
      try simp only [Act.put, List.setIfInBounds_toArray, List.set_cons_zero, List.set_cons_succ]
      refine wpAnyH_take_dst (i := 3) (v := .int .i64 (2 * (n : Int))) (d := some 12) rfl rfl (by kernel_rfl) (by kernel_rfl) (by kernel_rfl) (fun _ _ _ h => h) (Or.inl ⟨by rfl, ?_⟩) hH ?_
      · (intro w hSw; (try dsimp only at hSw); go_split_ands; go_simp; try with_reducible rfl)
      try simp only [Act.put, List.setIfInBounds_toArray, List.set_cons_zero, List.set_cons_succ]
      refine wpAnyH_take_dst (i := 4) (v := .bool true) (d := some 13) rfl rfl (by kernel_rfl) (by kernel_rfl) (by kernel_rfl) (fun _ _ _ h => h) (Or.inl ⟨by rfl, ?_⟩) hH ?_
      · (intro w hSw; (try dsimp only at hSw); go_split_ands; go_simp; try with_reducible rfl)
      try simp only [Act.put, List.setIfInBounds_toArray, List.set_cons_zero, List.set_cons_succ]
      refine wpAnyH_take_dst (i := 5) (v := .bool true) (d := some 14) rfl rfl (by kernel_rfl) (by kernel_rfl) (by kernel_rfl) (fun _ _ _ h => h) (Or.inl ⟨by rfl, ?_⟩) hH ?_
      · (intro w hSw; (try dsimp only at hSw); go_split_ands; go_simp; try with_reducible rfl)
      try simp only [Act.put, List.setIfInBounds_toArray, List.set_cons_zero, List.set_cons_succ]
      refine wpAnyH_take_dst (i := 6) (v := .agg #[.slice A n c]) (d := some 15) rfl rfl (by kernel_rfl) (by kernel_rfl) (by kernel_rfl) (fun _ _ _ h => h) (Or.inl ⟨by rfl, ?_⟩) hH ?_
      · (intro w hSw; (try dsimp only at hSw); go_split_ands; go_simp; try with_reducible rfl)
      try simp only [Act.put, List.setIfInBounds_toArray, List.set_cons_zero, List.set_cons_succ]
      refine wpAnyH_take_dst (i := 7) (v := .slice B m d) (d := some 16) rfl rfl (by kernel_rfl) (by kernel_rfl) (by kernel_rfl) (fun _ _ _ h => h) (Or.inl ⟨by rfl, ?_⟩) hH ?_
      · (intro w hSw; (try dsimp only at hSw); go_split_ands; go_simp; try with_reducible rfl)
      try simp only [Act.put, List.setIfInBounds_toArray, List.set_cons_zero, List.set_cons_succ]
      refine wpAnyH_take_dst (i := 8) (v := .int .i64 n) (d := some 17) rfl rfl (by kernel_rfl) (by kernel_rfl) (by kernel_rfl) (fun _ _ _ h => h) (Or.inl ⟨by rfl, ?_⟩) hH ?_
      · (intro w hSw; (try dsimp only at hSw); go_split_ands; go_simp; try with_reducible rfl)
      try simp only [Act.put, List.setIfInBounds_toArray, List.set_cons_zero, List.set_cons_succ]
      refine wpAnyH_take_dst (i := 9) (v := .slice B n d) (d := some 18) rfl rfl (by kernel_rfl) (by kernel_rfl) (by kernel_rfl) (fun _ _ _ h => h) (Or.inl ⟨by rfl, ?_⟩) hH ?_
      · (intro w hSw; (try dsimp only at hSw); go_split_ands; go_simp; try with_reducible rfl)
      try simp only [Act.put, List.setIfInBounds_toArray, List.set_cons_zero, List.set_cons_succ]
      refine wpAnyH_ready (rs := [10]) (by kernel_rfl) (by simp) ?_
      refine AllReadyH.cons rfl (fun K hK => ?_) AllReadyH.nil
      rw [if_pos (by rfl)]
      go_wp2_with (go_at_call 68; (with_reducible refine ((c_sPolysOk' HP1.out (ar := ar) (ps := ps.take n) (RdSig.mk (RI.ext HA.out hH.2)) (RdPs.mk (RP.ext (RP.take HB.out (by omega)) hH.2)))).mono ?_); rintro e w9 ⟨rfl, hE9⟩)
      refine hK.out _ _ ⟨Ext.keep hE9 hH.1, Ext.trans hH.2 hE9⟩ (fun hH9 => ?_)
      clear hK hH; have hH := hH9; clear hH9
      try simp only [Act.put, List.setIfInBounds_toArray, List.set_cons_zero, List.set_cons_succ]
      refine wpAnyH_take_dst (i := 11) (v := .bool false) (d := some 20) rfl rfl (by kernel_rfl) (by kernel_rfl) (by kernel_rfl) (fun _ _ _ h => h) (Or.inl ⟨by rfl, ?_⟩) hH ?_
      · (intro w hSw; (try dsimp only at hSw); go_split_ands; go_simp; try with_reducible rfl)
      try simp only [Act.put, List.setIfInBounds_toArray, List.set_cons_zero, List.set_cons_succ]
      refine wpAnyH_take_dst (i := 12) (v := .bool false) (d := some 21) rfl rfl (by kernel_rfl) (by kernel_rfl) (by kernel_rfl) (fun _ _ _ h => h) (Or.inl ⟨by rfl, ?_⟩) hH ?_
      · (intro w hSw; (try dsimp only at hSw); go_split_ands; go_simp; try with_reducible rfl)
      try simp only [Act.put, List.setIfInBounds_toArray, List.set_cons_zero, List.set_cons_succ]
      refine wpAnyH_take_dst (i := 13) (v := undef) (d := some 22) rfl rfl (by kernel_rfl) (by kernel_rfl) (by kernel_rfl) (fun _ _ _ h => h) (Or.inr ⟨by rfl, rfl⟩) hH ?_
      try simp only [Act.put, List.setIfInBounds_toArray, List.set_cons_zero, List.set_cons_succ]
      refine wpAnyH_take_dst (i := 14) (v := undef) (d := some 23) rfl rfl (by kernel_rfl) (by kernel_rfl) (by kernel_rfl) (fun _ _ _ h => h) (Or.inr ⟨by rfl, rfl⟩) hH ?_
      try simp only [Act.put, List.setIfInBounds_toArray, List.set_cons_zero, List.set_cons_succ]
      refine wpAnyH_take_dst (i := 15) (v := undef) (d := some 24) rfl rfl (by kernel_rfl) (by kernel_rfl) (by kernel_rfl) (fun _ _ _ h => h) (Or.inr ⟨by rfl, rfl⟩) hH ?_
      try simp only [Act.put, List.setIfInBounds_toArray, List.set_cons_zero, List.set_cons_succ]
      refine wpAnyH_take_dst (i := 16) (v := undef) (d := some 25) rfl rfl (by kernel_rfl) (by kernel_rfl) (by kernel_rfl) (fun _ _ _ h => h) (Or.inr ⟨by rfl, rfl⟩) hH ?_
      try simp only [Act.put, List.setIfInBounds_toArray, List.set_cons_zero, List.set_cons_succ]
      refine wpAnyH_take_dst (i := 17) (v := undef) (d := some 26) rfl rfl (by kernel_rfl) (by kernel_rfl) (by kernel_rfl) (fun _ _ _ h => h) (Or.inr ⟨by rfl, rfl⟩) hH ?_
      try simp only [Act.put, List.setIfInBounds_toArray, List.set_cons_zero, List.set_cons_succ]
      refine wpAnyH_take_dst (i := 18) (v := .bool false) (d := some 27) rfl rfl (by kernel_rfl) (by kernel_rfl) (by kernel_rfl) (fun _ _ _ h => h) (Or.inl ⟨by rfl, ?_⟩) hH ?_
      · (intro w hSw; (try dsimp only at hSw); go_split_ands; go_simp; try with_reducible rfl)
      try simp only [Act.put, List.setIfInBounds_toArray, List.set_cons_zero, List.set_cons_succ]
      refine wpAnyH_take_dst (i := 19) (v := .bool false) (d := some 4) rfl rfl (by kernel_rfl) (by kernel_rfl) (by kernel_rfl) (fun _ _ _ h => h) (Or.inl ⟨by rfl, ?_⟩) hH ?_
      · (intro w hSw; (try dsimp only at hSw); go_split_ands; go_simp; try with_reducible rfl)
      try simp only [Act.put, List.setIfInBounds_toArray, List.set_cons_zero, List.set_cons_succ]
      refine wpAnyH_done (by kernel_rfl) ?_ _
      go_wp2
      go_ret
      exact ⟨ret_bool HR.out.symm, by (repeat' (first | (with_reducible exact Ext.refl _) | (with_reducible assumption) | (with_reducible refine Ext.alloc ?_ _) | (with_reducible refine Ext.set ?_ ?_ _) | (with_reducible refine Ext.drewN ?_ _) | (with_reducible refine Ext.drew ?_) | (with_reducible refine Ext.trans ?_ (by with_reducible assumption)) | go_size))⟩
    | true =>
      have HP1 := Lib.hid hp1
      have hn1 : 1 ≤ n := by have := (polysOk_iff.1 hp1).1.1; rw [HL.out] at this; exact this
      have hdn : ¬ d = n := by have := HMN.out; omega
      cases hp2 : polysOk ar (ps.drop n) with
      | false =>
        have HP2 := Lib.hid hp2
        have HR := Lib.hid (markedOk_2 (ar := ar) (ps := ps) (by rw [HL.out]; exact hp2))
        clear hp1 hp2
        first
        | (go_region_held3 (fun w' => w'.cell? ⟨w.heap.size, 0, none⟩ = some (.slice A n c) ∧ Ext w w')
            (first
              | exact ⟨by simpa [go_sem] using hq0, hEq.drew⟩
              | (go_split_ands; exact ⟨Ext.keep hE9 (by assumption), Ext.trans (by assumption) hE9⟩)
              | (go_split_ands; exact ⟨by assumption, by assumption⟩))
            (first
              | (go_split_ands; go_at_call 68; (with_reducible refine (c_sPolysOk' HP1.out (ar := ar) (ps := ps.take n) (RdSig.mk (RI.ext HA.out (by assumption))) (RdPs.mk (RP.ext (RP.take HB.out (by omega)) (by assumption)))).mono ?_); rintro e w9 ⟨rfl, hE9⟩)
              | (go_split_ands; go_at_call 68; (with_reducible refine (c_sPolysOk' HP2.out (ar := ar) (ps := ps.drop n) (RdSig.mk (RI.ext HA.out (by assumption))) (RdPs.mk (RP.ext (RP.hi' HB.out (by omega) hmd hdn) (by assumption)))).mono ?_); rintro e w9 ⟨rfl, hE9⟩)))
        | fail
        go_wp2
        go_ret
        exact ⟨ret_bool HR.out.symm, by (repeat' (first | (with_reducible exact Ext.refl _) | (with_reducible assumption) | (with_reducible refine Ext.alloc ?_ _) | (with_reducible refine Ext.set ?_ ?_ _) | (with_reducible refine Ext.drewN ?_ _) | (with_reducible refine Ext.drew ?_) | (with_reducible refine Ext.trans ?_ (by with_reducible assumption)) | go_size))⟩
      | true =>
        have HP2 := Lib.hid hp2
        have HR := Lib.hid (markedOk_t (ar := ar) (ps := ps) (by rw [HL.out, HM.out]; exact HMN.out) (by rw [HL.out]; exact hp1) (by rw [HL.out]; exact hp2))
        clear hp1 hp2
        first
        | (go_region_held3 (fun w' => w'.cell? ⟨w.heap.size, 0, none⟩ = some (.slice A n c) ∧ Ext w w')
            (first
              | exact ⟨by simpa [go_sem] using hq0, hEq.drew⟩
              | (go_split_ands; exact ⟨Ext.keep hE9 (by assumption), Ext.trans (by assumption) hE9⟩)
              | (go_split_ands; exact ⟨by assumption, by assumption⟩))
            (first
              | (go_split_ands; go_at_call 68; (with_reducible refine (c_sPolysOk' HP1.out (ar := ar) (ps := ps.take n) (RdSig.mk (RI.ext HA.out (by assumption))) (RdPs.mk (RP.ext (RP.take HB.out (by omega)) (by assumption)))).mono ?_); rintro e w9 ⟨rfl, hE9⟩)
              | (go_split_ands; go_at_call 68; (with_reducible refine (c_sPolysOk' HP2.out (ar := ar) (ps := ps.drop n) (RdSig.mk (RI.ext HA.out (by assumption))) (RdPs.mk (RP.ext (RP.hi' HB.out (by omega) hmd hdn) (by assumption)))).mono ?_); rintro e w9 ⟨rfl, hE9⟩)))
        | fail
        go_wp2
        go_ret
        exact ⟨ret_bool HR.out.symm, by (repeat' (first | (with_reducible exact Ext.refl _) | (with_reducible assumption) | (with_reducible refine Ext.alloc ?_ _) | (with_reducible refine Ext.set ?_ ?_ _) | (with_reducible refine Ext.drewN ?_ _) | (with_reducible refine Ext.drew ?_) | (with_reducible refine Ext.trans ?_ (by with_reducible assumption)) | go_size))⟩
  · have e1 : ((m : Int) == 2 * (n : Int)) = false := by simp; omega
    have HR := Lib.hid (markedOk_len (ar := ar) (ps := ps) (by rw [HL.out, HM.out]; exact hmn))
    go_enter Try.func50, Try.ntmps50
    go_wp2_with fail
    go_quiet (fail)
    go_wp2
    go_ret
    exact ⟨ret_bool HR.out.symm, by (repeat' (first | (with_reducible exact Ext.refl _) | (with_reducible assumption) | (with_reducible refine Ext.alloc ?_ _) | (with_reducible refine Ext.set ?_ ?_ _) | (with_reducible refine Ext.drewN ?_ _) | (with_reducible refine Ext.drew ?_) | (with_reducible refine Ext.trans ?_ (by with_reducible assumption)) | go_size))⟩

set_option maxRecDepth 100000 in
set_option maxHeartbeats 2000000 in
theorem c_iMarkedOk {v0 v1 : Value} {ar : List Int} {ps : List Pl} {w : World} (h0 : RdSig w v0 ar) (h1 : RdPc w v1 ps) :
    Calls Try.prog 55 #[v0, v1] w fun e w' => e = .returned (.bool (markedOk ar ps)) ∧ Ext w w' := by
  obtain ⟨A, n, c, rfl, ha⟩ := h0
  obtain ⟨B, m, d, rfl, hmd, hd, hb⟩ := h1
  have hn := ha.le
  have hm := hb.le
  have HA := Lib.hid ha
  have HB := Lib.hid hb
  have HL := Lib.hid ha.len
  have HM := Lib.hid hb.len
  clear ha hb
  have e2 : IntKind.i64.wrap (2 * (n : Int)) = 2 * (n : Int) := IntWalk.i64_in _ (by omega)
  by_cases hmn : m = 2 * n
  · have e1 : ((m : Int) == 2 * (n : Int)) = true := by simp; omega
    go_enter Try.func55, Try.ntmps55
    go_wp2_with fail
    obtain ⟨wq, hwq⟩ : ∃ wq, wq = w.alloc (.cells #[.slice A n c] 30) := ⟨_, rfl⟩
    have hq0 : wq.cell? ⟨w.heap.size, 0, none⟩ = some (.slice A n c) := by rw [hwq]; simp [go_sem]
    have hEq : Ext w wq := by rw [hwq]; (repeat' (first | (with_reducible exact Ext.refl _) | (with_reducible assumption) | (with_reducible refine Ext.alloc ?_ _) | (with_reducible refine Ext.set ?_ ?_ _) | (with_reducible refine Ext.drewN ?_ _) | (with_reducible refine Ext.drew ?_) | (with_reducible refine Ext.trans ?_ (by with_reducible assumption)) | go_size))
    rw [← hwq]
    clear hwq
    have hqs : w.heap.size < wq.heap.size := World.block_lt_of_cell? wq _ hq0
    have hn0 : (0 : Int) ≤ (n : Int) := by omega
    have hnd : (n : Int) ≤ (d : Int) := by omega
    have hnm : (n : Int) ≤ (m : Int) := by omega
    have HMN := Lib.hid hmn
    clear hmn
    cases hp1 : polysOk ar (ps.take n) with
    | false =>
      have HP1 := Lib.hid hp1
      have HR := Lib.hid (markedOk_1 (ar := ar) (ps := ps) (by rw [HL.out]; exact hp1))
      clear hp1
      refine wp_region_held_drew (S := (fun w' => w'.cell? ⟨w.heap.size, 0, none⟩ = some (.slice A n c) ∧ Ext w w')) (by kernel_rfl) ?_ (fun hH => ?_)
      · exact ⟨by simpa [go_sem] using hq0, hEq.drew⟩
      refine wpAnyH_take_dst (i := 0) (v := .slice B m d) (d := some 9) rfl rfl (by kernel_rfl) (by kernel_rfl) (by kernel_rfl) (fun _ _ _ h => h) (Or.inl ⟨by rfl, ?_⟩) hH ?_
      · (intro w hSw; (try dsimp only at hSw); go_split_ands; go_simp; try with_reducible rfl)
      try simp only [Act.put, List.setIfInBounds_toArray, List.set_cons_zero, List.set_cons_succ]
      refine wpAnyH_take_dst (i := 1) (v := .int .i64 m) (d := some 10) rfl rfl (by kernel_rfl) (by kernel_rfl) (by kernel_rfl) (fun _ _ _ h => h) (Or.inl ⟨by rfl, ?_⟩) hH ?_
      · (intro w hSw; (try dsimp only at hSw); go_split_ands; go_simp; try with_reducible rfl)
      try simp only [Act.put, List.setIfInBounds_toArray, List.set_cons_zero, List.set_cons_succ]
      refine wpAnyH_take_dst (i := 2) (v := .int .i64 n) (d := some 11) rfl rfl (by kernel_rfl) (by kernel_rfl) (by kernel_rfl) (fun _ _ _ h => h) (Or.inl ⟨by rfl, ?_⟩) hH ?_
      · (intro w hSw; (try dsimp only at hSw); go_split_ands; go_simp; try with_reducible rfl)
      try simp only [Act.put, List.setIfInBounds_toArray, List.set_cons_zero, List.set_cons_succ]
      refine wpAnyH_take_dst (i := 3) (v := .int .i64 (2 * (n : Int))) (d := some 12) rfl rfl (by kernel_rfl) (by kernel_rfl) (by kernel_rfl) (fun _ _ _ h => h) (Or.inl ⟨by rfl, ?_⟩) hH ?_
      · (intro w hSw; (try dsimp only at hSw); go_split_ands; go_simp; try with_reducible rfl)
      try simp only [Act.put, List.setIfInBounds_toArray, List.set_cons_zero, List.set_cons_succ]
      refine wpAnyH_take_dst (i := 4) (v := .bool true) (d := some 13) rfl rfl (by kernel_rfl) (by kernel_rfl) (by kernel_rfl) (fun _ _ _ h => h) (Or.inl ⟨by rfl, ?_⟩) hH ?_
      · (intro w hSw; (try dsimp only at hSw); go_split_ands; go_simp; try with_reducible rfl)
      try simp only [Act.put, List.setIfInBounds_toArray, List.set_cons_zero, List.set_cons_succ]
      refine wpAnyH_take_dst (i := 5) (v := .bool true) (d := some 14) rfl rfl (by kernel_rfl) (by kernel_rfl) (by kernel_rfl) (fun _ _ _ h => h) (Or.inl ⟨by rfl, ?_⟩) hH ?_
      · (intro w hSw; (try dsimp only at hSw); go_split_ands; go_simp; try with_reducible rfl)
      try simp only [Act.put, List.setIfInBounds_toArray, List.set_cons_zero, List.set_cons_succ]
      refine wpAnyH_take_dst (i := 6) (v := .agg #[.slice A n c]) (d := some 15) rfl rfl (by kernel_rfl) (by kernel_rfl) (by kernel_rfl) (fun _ _ _ h => h) (Or.inl ⟨by rfl, ?_⟩) hH ?_
      · (intro w hSw; (try dsimp only at hSw); go_split_ands; go_simp; try with_reducible rfl)
      try simp only [Act.put, List.setIfInBounds_toArray, List.set_cons_zero, List.set_cons_succ]
      refine wpAnyH_take_dst (i := 7) (v := .slice B m d) (d := some 16) rfl rfl (by kernel_rfl) (by kernel_rfl) (by kernel_rfl) (fun _ _ _ h => h) (Or.inl ⟨by rfl, ?_⟩) hH ?_
      · (intro w hSw; (try dsimp only at hSw); go_split_ands; go_simp; try with_reducible rfl)
      try simp only [Act.put, List.setIfInBounds_toArray, List.set_cons_zero, List.set_cons_succ]
      refine wpAnyH_take_dst (i := 8) (v := .int .i64 n) (d := some 17) rfl rfl (by kernel_rfl) (by kernel_rfl) (by kernel_rfl) (fun _ _ _ h => h) (Or.inl ⟨by rfl, ?_⟩) hH ?_
      · (intro w hSw; (try dsimp only at hSw); go_split_ands; go_simp; try with_reducible rfl)
      try simp only [Act.put, List.setIfInBounds_toArray, List.set_cons_zero, List.set_cons_succ]
      refine wpAnyH_take_dst (i := 9) (v := .slice B n d) (d := some 18) rfl rfl (by kernel_rfl) (by kernel_rfl) (by kernel_rfl) (fun _ _ _ h => h) (Or.inl ⟨by rfl, ?_⟩) hH ?_
      · (intro w hSw; (try dsimp only at hSw); go_split_ands; go_simp; try with_reducible rfl)
      try simp only [Act.put, List.setIfInBounds_toArray, List.set_cons_zero, List.set_cons_succ]
      refine wpAnyH_ready (rs := [10]) (by kernel_rfl) (by simp) ?_
      refine AllReadyH.cons rfl (fun K hK => ?_) AllReadyH.nil
      rw [if_pos (by rfl)]
      go_wp2_with (go_at_call 70; (with_reducible refine ((c_iPolysOk' HP1.out (ar := ar) (ps := ps.take n) (RdSig.mk (RI.ext HA.out hH.2)) (RdPs.mk (RP.ext (RP.take HB.out (by omega)) hH.2)))).mono ?_); rintro e w9 ⟨rfl, hE9⟩)
      refine hK.out _ _ ⟨Ext.keep hE9 hH.1, Ext.trans hH.2 hE9⟩ (fun hH9 => ?_)
      clear hK hH; have hH := hH9; clear hH9
      try simp only [Act.put, List.setIfInBounds_toArray, List.set_cons_zero, List.set_cons_succ]
      refine wpAnyH_take_dst (i := 11) (v := .bool false) (d := some 20) rfl rfl (by kernel_rfl) (by kernel_rfl) (by kernel_rfl) (fun _ _ _ h => h) (Or.inl ⟨by rfl, ?_⟩) hH ?_
      · (intro w hSw; (try dsimp only at hSw); go_split_ands; go_simp; try with_reducible rfl)
      try simp only [Act.put, List.setIfInBounds_toArray, List.set_cons_zero, List.set_cons_succ]
      refine wpAnyH_take_dst (i := 12) (v := .bool false) (d := some 21) rfl rfl (by kernel_rfl) (by kernel_rfl) (by kernel_rfl) (fun _ _ _ h => h) (Or.inl ⟨by rfl, ?_⟩) hH ?_
      · (intro w hSw; (try dsimp only at hSw); go_split_ands; go_simp; try with_reducible rfl)
      try simp only [Act.put, List.setIfInBounds_toArray, List.set_cons_zero, List.set_cons_succ]
      refine wpAnyH_take_dst (i := 13) (v := undef) (d := some 22) rfl rfl (by kernel_rfl) (by kernel_rfl) (by kernel_rfl) (fun _ _ _ h => h) (Or.inr ⟨by rfl, rfl⟩) hH ?_
      try simp only [Act.put, List.setIfInBounds_toArray, List.set_cons_zero, List.set_cons_succ]
      refine wpAnyH_take_dst (i := 14) (v := undef) (d := some 23) rfl rfl (by kernel_rfl) (by kernel_rfl) (by kernel_rfl) (fun _ _ _ h => h) (Or.inr ⟨by rfl, rfl⟩) hH ?_
      try simp only [Act.put, List.setIfInBounds_toArray, List.set_cons_zero, List.set_cons_succ]
      refine wpAnyH_take_dst (i := 15) (v := undef) (d := some 24) rfl rfl (by kernel_rfl) (by kernel_rfl) (by kernel_rfl) (fun _ _ _ h => h) (Or.inr ⟨by rfl, rfl⟩) hH ?_
      try simp only [Act.put, List.setIfInBounds_toArray, List.set_cons_zero, List.set_cons_succ]
      refine wpAnyH_take_dst (i := 16) (v := undef) (d := some 25) rfl rfl (by kernel_rfl) (by kernel_rfl) (by kernel_rfl) (fun _ _ _ h => h) (Or.inr ⟨by rfl, rfl⟩) hH ?_
      try simp only [Act.put, List.setIfInBounds_toArray, List.set_cons_zero, List.set_cons_succ]
      refine wpAnyH_take_dst (i := 17) (v := undef) (d := some 26) rfl rfl (by kernel_rfl) (by kernel_rfl) (by kernel_rfl) (fun _ _ _ h => h) (Or.inr ⟨by rfl, rfl⟩) hH ?_
      try simp only [Act.put, List.setIfInBounds_toArray, List.set_cons_zero, List.set_cons_succ]
      refine wpAnyH_take_dst (i := 18) (v := .bool false) (d := some 27) rfl rfl (by kernel_rfl) (by kernel_rfl) (by kernel_rfl) (fun _ _ _ h => h) (Or.inl ⟨by rfl, ?_⟩) hH ?_
      · (intro w hSw; (try dsimp only at hSw); go_split_ands; go_simp; try with_reducible rfl)
      try simp only [Act.put, List.setIfInBounds_toArray, List.set_cons_zero, List.set_cons_succ]
      refine wpAnyH_take_dst (i := 19) (v := .bool false) (d := some 4) rfl rfl (by kernel_rfl) (by kernel_rfl) (by kernel_rfl) (fun _ _ _ h => h) (Or.inl ⟨by rfl, ?_⟩) hH ?_
      · (intro w hSw; (try dsimp only at hSw); go_split_ands; go_simp; try with_reducible rfl)
      try simp only [Act.put, List.setIfInBounds_toArray, List.set_cons_zero, List.set_cons_succ]
      refine wpAnyH_done (by kernel_rfl) ?_ _
      go_wp2
      go_ret
      exact ⟨ret_bool HR.out.symm, by (repeat' (first | (with_reducible exact Ext.refl _) | (with_reducible assumption) | (with_reducible refine Ext.alloc ?_ _) | (with_reducible refine Ext.set ?_ ?_ _) | (with_reducible refine Ext.drewN ?_ _) | (with_reducible refine Ext.drew ?_) | (with_reducible refine Ext.trans ?_ (by with_reducible assumption)) | go_size))⟩
    | true =>
      have HP1 := Lib.hid hp1
      have hn1 : 1 ≤ n := by have := (polysOk_iff.1 hp1).1.1; rw [HL.out] at this; exact this
      have hdn : ¬ d = n := by have := HMN.out; omega
      cases hp2 : polysOk ar (ps.drop n) with
      | false =>
        have HP2 := Lib.hid hp2
        have HR := Lib.hid (markedOk_2 (ar := ar) (ps := ps) (by rw [HL.out]; exact hp2))
        clear hp1 hp2
        first
        | (go_region_held3 (fun w' => w'.cell? ⟨w.heap.size, 0, none⟩ = some (.slice A n c) ∧ Ext w w')
            (first
              | exact ⟨by simpa [go_sem] using hq0, hEq.drew⟩
              | (go_split_ands; exact ⟨Ext.keep hE9 (by assumption), Ext.trans (by assumption) hE9⟩)
              | (go_split_ands; exact ⟨by assumption, by assumption⟩))
            (first
              | (go_split_ands; go_at_call 70; (with_reducible refine (c_iPolysOk' HP1.out (ar := ar) (ps := ps.take n) (RdSig.mk (RI.ext HA.out (by assumption))) (RdPs.mk (RP.ext (RP.take HB.out (by omega)) (by assumption)))).mono ?_); rintro e w9 ⟨rfl, hE9⟩)
              | (go_split_ands; go_at_call 70; (with_reducible refine (c_iPolysOk' HP2.out (ar := ar) (ps := ps.drop n) (RdSig.mk (RI.ext HA.out (by assumption))) (RdPs.mk (RP.ext (RP.hi' HB.out (by omega) hmd hdn) (by assumption)))).mono ?_); rintro e w9 ⟨rfl, hE9⟩)))
        | fail
        go_wp2
        go_ret
        exact ⟨ret_bool HR.out.symm, by (repeat' (first | (with_reducible exact Ext.refl _) | (with_reducible assumption) | (with_reducible refine Ext.alloc ?_ _) | (with_reducible refine Ext.set ?_ ?_ _) | (with_reducible refine Ext.drewN ?_ _) | (with_reducible refine Ext.drew ?_) | (with_reducible refine Ext.trans ?_ (by with_reducible assumption)) | go_size))⟩
      | true =>
        have HP2 := Lib.hid hp2
        have HR := Lib.hid (markedOk_t (ar := ar) (ps := ps) (by rw [HL.out, HM.out]; exact HMN.out) (by rw [HL.out]; exact hp1) (by rw [HL.out]; exact hp2))
        clear hp1 hp2
        first
        | (go_region_held3 (fun w' => w'.cell? ⟨w.heap.size, 0, none⟩ = some (.slice A n c) ∧ Ext w w')
            (first
              | exact ⟨by simpa [go_sem] using hq0, hEq.drew⟩
              | (go_split_ands; exact ⟨Ext.keep hE9 (by assumption), Ext.trans (by assumption) hE9⟩)
              | (go_split_ands; exact ⟨by assumption, by assumption⟩))
            (first
              | (go_split_ands; go_at_call 70; (with_reducible refine (c_iPolysOk' HP1.out (ar := ar) (ps := ps.take n) (RdSig.mk (RI.ext HA.out (by assumption))) (RdPs.mk (RP.ext (RP.take HB.out (by omega)) (by assumption)))).mono ?_); rintro e w9 ⟨rfl, hE9⟩)
              | (go_split_ands; go_at_call 70; (with_reducible refine (c_iPolysOk' HP2.out (ar := ar) (ps := ps.drop n) (RdSig.mk (RI.ext HA.out (by assumption))) (RdPs.mk (RP.ext (RP.hi' HB.out (by omega) hmd hdn) (by assumption)))).mono ?_); rintro e w9 ⟨rfl, hE9⟩)))
        | fail
        go_wp2
        go_ret
        exact ⟨ret_bool HR.out.symm, by (repeat' (first | (with_reducible exact Ext.refl _) | (with_reducible assumption) | (with_reducible refine Ext.alloc ?_ _) | (with_reducible refine Ext.set ?_ ?_ _) | (with_reducible refine Ext.drewN ?_ _) | (with_reducible refine Ext.drew ?_) | (with_reducible refine Ext.trans ?_ (by with_reducible assumption)) | go_size))⟩
  · have e1 : ((m : Int) == 2 * (n : Int)) = false := by simp; omega
    have HR := Lib.hid (markedOk_len (ar := ar) (ps := ps) (by rw [HL.out, HM.out]; exact hmn))
    go_enter Try.func55, Try.ntmps55
    go_wp2_with fail
    go_quiet (fail)
    go_wp2
    go_ret
    exact ⟨ret_bool HR.out.symm, by (repeat' (first | (with_reducible exact Ext.refl _) | (with_reducible assumption) | (with_reducible refine Ext.alloc ?_ _) | (with_reducible refine Ext.set ?_ ?_ _) | (with_reducible refine Ext.drewN ?_ _) | (with_reducible refine Ext.drew ?_) | (with_reducible refine Ext.trans ?_ (by with_reducible assumption)) | go_size))⟩

end Go.Proofs.Ytpoollcdllagdaa
