/- Terms filled, by the reference: the test of what is given; lists of terms by dice. -/
import Derived.Test.YtljbjabgdalabaaFil
namespace Go.Proofs.Ytljbjabgdalabaa
open Go.RowKit
set_option linter.unusedSimpArgs false
set_option linter.unusedVariables false

theorem c_sTermOkT {v0 v1 : Value} {ar t : List Int} {w : World} (hb : termOk ar t = true) (h0 : RdSig w v0 ar) (h1 : RdI w v1 t) :
    Calls Try.prog 37 #[v0, v1] w fun e w' => e = .returned (.bool true) ∧ Ext w w' := by rw [← hb]; exact c_sTermOk h0 h1
theorem c_sSigOkT {v0 : Value} {ar : List Int} {w : World} (hb : sigOk ar = true) (h0 : RdSig w v0 ar) :
    Calls Try.prog 68 #[v0] w fun e w' => e = .returned (.bool true) ∧ Ext w w' := by rw [← hb]; exact c_sSigOk h0
set_option maxRecDepth 100000 in
set_option maxHeartbeats 4000000 in
theorem c_SubstOk {v0 v1 : Value} {ar : List Int} {σ : List (List Int)} {w : World} (hs : SigP ar) (hσ : SubP ar σ) (h0 : RdSig w v0 ar) (h1 : RdSub w v1 σ) :
    Calls Try.prog 36 #[v0, v1] w fun e w' => e = .returned (.bool true) ∧ Ext w w' := by
  obtain ⟨A, n, c, rfl, ha⟩ := h0
  obtain ⟨B, m, d, rfl, hb⟩ := h1
  have HA := Lib.hid ha
  have HB := Lib.hid hb
  have HS := Lib.hid hσ
  have HSG := Lib.hid (sigOk_iff.2 hs)
  have hm := hb.1.1
  have hm24 : m ≤ 24 := by rw [← hm]; exact hσ.1
  have hm24i : ¬ ((m : Int) > 24) := by omega
  clear ha hb hσ hs hm
  go_enter Try.func36, Try.ntmps36
  go_wp2_with fail
  obtain ⟨w1, hw1⟩ : ∃ w1, w1 = (w.alloc (.cells #[.slice A n c] 29)).alloc (.cells #[.slice B m d] 36) := ⟨_, rfl⟩
  have hb0 : w1.cell? ⟨w.heap.size, 0, none⟩ = some (.slice A n c) := by rw [hw1]; simp [go_sem]
  have hb1 : w1.cell? ⟨w.heap.size + 1, 0, none⟩ = some (.slice B m d) := by rw [hw1]; simp [go_sem]
  have hE1 : Ext w w1 := by rw [hw1]; exact extX
  rw [← hw1]
  clear hw1
  (with_reducible refine (c_sSigOkT HSG.out (RdSig.mk (RI.ext HA.out hE1))).mono ?_)
  rintro e w2 ⟨rfl, hE2⟩
  have hc0 := Ext.keep hE2 hb0
  have hc1 := Ext.keep hE2 hb1
  have hEw2 := Ext.trans hE1 hE2
  go_wp2_with fail
  go_loopw [5] (fun kv wr => ∃ k : Nat, kv = .int .i64 k ∧ k ≤ m ∧ Ext w2 wr) (fun kv _ => m - (intOf kv).toNat)
  case atStart => exact ⟨0, rfl, Nat.zero_le _, Ext.refl _⟩
  case round =>
    obtain ⟨k, rfl, hk, hE⟩ := hrel
    have hEw : Ext w wr := Ext.trans hEw2 hE
    have hr0 := Ext.keep hE hc0
    have hr1 := Ext.keep hE hc1
    by_cases hlt : k < m
    · obtain ⟨b, o, A1, m1, c1, rfl, hd, hri⟩ := RSg.at_ (RSg.ext HB.out hEw) hlt
      have HR := Lib.hid hri
      have hl1 := hri.len
      have hbl := World.block_lt_of_cell? wr _ hd
      have hki : (k : Int) < (m : Int) := by omega
      have hk0 : (0 : Int) ≤ (k : Int) := by omega
      clear hri
      have hh := HS.out.at_ k
      by_cases h0 : σ.getD k [] = []
      · rw [h0] at hl1
        obtain rfl : m1 = 0 := by simpa using hl1.symm
        clear hh h0
        go_wp2_with fail
        refine wp_region_held_drew (S := (fun w' => w'.cell? ⟨w.heap.size + 1, 0, none⟩ = some (.slice (some ⟨b, o, none⟩) m d) ∧ w'.cell? ⟨b, o + k, none⟩ = some (.slice A1 0 c1) ∧ Ext wr w')) (by kernel_rfl) ?_ (fun hH => ?_)
        · exact ⟨hr1, hd, (Ext.refl wr).drew⟩
        refine wpAnyH_take_dst (i := 0) (v := .pointer (some ⟨w.heap.size + 1, 0, none⟩)) (d := some 22) rfl rfl (by kernel_rfl) (by kernel_rfl) (by kernel_rfl) (fun _ _ _ h => h) (Or.inl ⟨by rfl, ?_⟩) hH ?_
        · (intro w hSw; (try dsimp only at hSw); go_split_ands; go_simp; try with_reducible rfl)
        try simp only [Act.put, List.setIfInBounds_toArray, List.set_cons_zero, List.set_cons_succ]
        refine wpAnyH_take_dst (i := 1) (v := .slice (some ⟨b, o, none⟩) m d) (d := some 23) rfl rfl (by kernel_rfl) (by kernel_rfl) (by kernel_rfl) (fun _ _ _ h => h) (Or.inl ⟨by rfl, ?_⟩) hH ?_
        · (intro w hSw; (try dsimp only at hSw); go_split_ands; go_simp; try with_reducible rfl)
        try simp only [Act.put, List.setIfInBounds_toArray, List.set_cons_zero, List.set_cons_succ]
        refine wpAnyH_take_dst (i := 2) (v := .int .i64 (k : Int)) (d := some 24) rfl rfl (by kernel_rfl) (by kernel_rfl) (by kernel_rfl) (fun _ _ _ h => h) (Or.inl ⟨by rfl, ?_⟩) hH ?_
        · (intro w hSw; (try dsimp only at hSw); go_split_ands; go_simp; try with_reducible rfl)
        try simp only [Act.put, List.setIfInBounds_toArray, List.set_cons_zero, List.set_cons_succ]
        refine wpAnyH_take_dst (i := 3) (v := .pointer (some ⟨b, o + k, none⟩)) (d := some 25) rfl rfl (by kernel_rfl) (by kernel_rfl) (by kernel_rfl) (fun _ _ _ h => h) (Or.inl ⟨by rfl, ?_⟩) hH ?_
        · (intro w hSw; (try dsimp only at hSw); go_split_ands; go_simp; try with_reducible rfl)
        try simp only [Act.put, List.setIfInBounds_toArray, List.set_cons_zero, List.set_cons_succ]
        refine wpAnyH_take_dst (i := 4) (v := .slice A1 0 c1) (d := some 26) rfl rfl (by kernel_rfl) (by kernel_rfl) (by kernel_rfl) (fun _ _ _ h => h) (Or.inl ⟨by rfl, ?_⟩) hH ?_
        · (intro w hSw; (try dsimp only at hSw); go_split_ands; go_simp; try with_reducible rfl)
        try simp only [Act.put, List.setIfInBounds_toArray, List.set_cons_zero, List.set_cons_succ]
        refine wpAnyH_take_dst (i := 5) (v := .int .i64 0) (d := some 27) rfl rfl (by kernel_rfl) (by kernel_rfl) (by kernel_rfl) (fun _ _ _ h => h) (Or.inl ⟨by rfl, ?_⟩) hH ?_
        · (intro w hSw; (try dsimp only at hSw); go_split_ands; go_simp; try with_reducible rfl)
        try simp only [Act.put, List.setIfInBounds_toArray, List.set_cons_zero, List.set_cons_succ]
        refine wpAnyH_take_dst (i := 6) (v := .bool false) (d := some 28) rfl rfl (by kernel_rfl) (by kernel_rfl) (by kernel_rfl) (fun _ _ _ h => h) (Or.inl ⟨by rfl, ?_⟩) hH ?_
        · (intro w hSw; (try dsimp only at hSw); go_split_ands; go_simp; try with_reducible rfl)
        try simp only [Act.put, List.setIfInBounds_toArray, List.set_cons_zero, List.set_cons_succ]
        refine wpAnyH_take_dst (i := 7) (v := .bool false) (d := some 29) rfl rfl (by kernel_rfl) (by kernel_rfl) (by kernel_rfl) (fun _ _ _ h => h) (Or.inl ⟨by rfl, ?_⟩) hH ?_
        · (intro w hSw; (try dsimp only at hSw); go_split_ands; go_simp; try with_reducible rfl)
        try simp only [Act.put, List.setIfInBounds_toArray, List.set_cons_zero, List.set_cons_succ]
        refine wpAnyH_take_dst (i := 8) (v := undef) (d := some 30) rfl rfl (by kernel_rfl) (by kernel_rfl) (by kernel_rfl) (fun _ _ _ h => h) (Or.inr ⟨by rfl, rfl⟩) hH ?_
        try simp only [Act.put, List.setIfInBounds_toArray, List.set_cons_zero, List.set_cons_succ]
        refine wpAnyH_take_dst (i := 9) (v := undef) (d := some 31) rfl rfl (by kernel_rfl) (by kernel_rfl) (by kernel_rfl) (fun _ _ _ h => h) (Or.inr ⟨by rfl, rfl⟩) hH ?_
        try simp only [Act.put, List.setIfInBounds_toArray, List.set_cons_zero, List.set_cons_succ]
        refine wpAnyH_take_dst (i := 10) (v := undef) (d := some 32) rfl rfl (by kernel_rfl) (by kernel_rfl) (by kernel_rfl) (fun _ _ _ h => h) (Or.inr ⟨by rfl, rfl⟩) hH ?_
        try simp only [Act.put, List.setIfInBounds_toArray, List.set_cons_zero, List.set_cons_succ]
        refine wpAnyH_take_dst (i := 11) (v := undef) (d := some 33) rfl rfl (by kernel_rfl) (by kernel_rfl) (by kernel_rfl) (fun _ _ _ h => h) (Or.inr ⟨by rfl, rfl⟩) hH ?_
        try simp only [Act.put, List.setIfInBounds_toArray, List.set_cons_zero, List.set_cons_succ]
        refine wpAnyH_take_dst (i := 12) (v := undef) (d := some 34) rfl rfl (by kernel_rfl) (by kernel_rfl) (by kernel_rfl) (fun _ _ _ h => h) (Or.inr ⟨by rfl, rfl⟩) hH ?_
        try simp only [Act.put, List.setIfInBounds_toArray, List.set_cons_zero, List.set_cons_succ]
        refine wpAnyH_take_dst (i := 13) (v := undef) (d := some 35) rfl rfl (by kernel_rfl) (by kernel_rfl) (by kernel_rfl) (fun _ _ _ h => h) (Or.inr ⟨by rfl, rfl⟩) hH ?_
        try simp only [Act.put, List.setIfInBounds_toArray, List.set_cons_zero, List.set_cons_succ]
        refine wpAnyH_take_dst (i := 14) (v := undef) (d := some 36) rfl rfl (by kernel_rfl) (by kernel_rfl) (by kernel_rfl) (fun _ _ _ h => h) (Or.inr ⟨by rfl, rfl⟩) hH ?_
        try simp only [Act.put, List.setIfInBounds_toArray, List.set_cons_zero, List.set_cons_succ]
        refine wpAnyH_take_dst (i := 15) (v := undef) (d := some 37) rfl rfl (by kernel_rfl) (by kernel_rfl) (by kernel_rfl) (fun _ _ _ h => h) (Or.inr ⟨by rfl, rfl⟩) hH ?_
        try simp only [Act.put, List.setIfInBounds_toArray, List.set_cons_zero, List.set_cons_succ]
        refine wpAnyH_take_dst (i := 16) (v := .bool false) (d := some 38) rfl rfl (by kernel_rfl) (by kernel_rfl) (by kernel_rfl) (fun _ _ _ h => h) (Or.inl ⟨by rfl, ?_⟩) hH ?_
        · (intro w hSw; (try dsimp only at hSw); go_split_ands; go_simp; try with_reducible rfl)
        try simp only [Act.put, List.setIfInBounds_toArray, List.set_cons_zero, List.set_cons_succ]
        refine wpAnyH_done (by kernel_rfl) ?_ _
        have hE6 := hH.2.2
        clear hH
        go_wp2_with fail
        go_roundw
        case rel => exact ⟨k + 1, by go_num, by omega, Ext.trans hE hE6⟩
        case measure => simp only [intOf]; omega
      · have HT := Lib.hid (termOk_iff.2 (hh.resolve_left h0))
        have h1 : 0 < m1 := by
          rcases Nat.eq_zero_or_pos m1 with h2 | h2
          · exact absurd (List.length_eq_zero_iff.1 (by omega)) h0
          · exact h2
        have h1i : (m1 : Int) > 0 := by omega
        have h1d : decide ((m1 : Int) > 0) = true := by simpa using h1
        clear hh h0 hl1
        go_wp2_with fail
        refine wp_region_held_drew (S := (fun w' => w'.cell? ⟨w.heap.size, 0, none⟩ = some (.slice A n c) ∧ w'.cell? ⟨w.heap.size + 1, 0, none⟩ = some (.slice (some ⟨b, o, none⟩) m d) ∧ w'.cell? ⟨b, o + k, none⟩ = some (.slice A1 m1 c1) ∧ Ext wr w')) (by kernel_rfl) ?_ (fun hH => ?_)
        · exact ⟨hr0, hr1, hd, (Ext.refl wr).drew⟩
        refine wpAnyH_take_dst (i := 0) (v := .pointer (some ⟨w.heap.size + 1, 0, none⟩)) (d := some 22) rfl rfl (by kernel_rfl) (by kernel_rfl) (by kernel_rfl) (fun _ _ _ h => h) (Or.inl ⟨by rfl, ?_⟩) hH ?_
        · (intro w hSw; (try dsimp only at hSw); go_split_ands; go_simp; try with_reducible rfl)
        try simp only [Act.put, List.setIfInBounds_toArray, List.set_cons_zero, List.set_cons_succ]
        refine wpAnyH_take_dst (i := 1) (v := .slice (some ⟨b, o, none⟩) m d) (d := some 23) rfl rfl (by kernel_rfl) (by kernel_rfl) (by kernel_rfl) (fun _ _ _ h => h) (Or.inl ⟨by rfl, ?_⟩) hH ?_
        · (intro w hSw; (try dsimp only at hSw); go_split_ands; go_simp; try with_reducible rfl)
        try simp only [Act.put, List.setIfInBounds_toArray, List.set_cons_zero, List.set_cons_succ]
        refine wpAnyH_take_dst (i := 2) (v := .int .i64 (k : Int)) (d := some 24) rfl rfl (by kernel_rfl) (by kernel_rfl) (by kernel_rfl) (fun _ _ _ h => h) (Or.inl ⟨by rfl, ?_⟩) hH ?_
        · (intro w hSw; (try dsimp only at hSw); go_split_ands; go_simp; try with_reducible rfl)
        try simp only [Act.put, List.setIfInBounds_toArray, List.set_cons_zero, List.set_cons_succ]
        refine wpAnyH_take_dst (i := 3) (v := .pointer (some ⟨b, o + k, none⟩)) (d := some 25) rfl rfl (by kernel_rfl) (by kernel_rfl) (by kernel_rfl) (fun _ _ _ h => h) (Or.inl ⟨by rfl, ?_⟩) hH ?_
        · (intro w hSw; (try dsimp only at hSw); go_split_ands; go_simp; try with_reducible rfl)
        try simp only [Act.put, List.setIfInBounds_toArray, List.set_cons_zero, List.set_cons_succ]
        refine wpAnyH_take_dst (i := 4) (v := .slice A1 m1 c1) (d := some 26) rfl rfl (by kernel_rfl) (by kernel_rfl) (by kernel_rfl) (fun _ _ _ h => h) (Or.inl ⟨by rfl, ?_⟩) hH ?_
        · (intro w hSw; (try dsimp only at hSw); go_split_ands; go_simp; try with_reducible rfl)
        try simp only [Act.put, List.setIfInBounds_toArray, List.set_cons_zero, List.set_cons_succ]
        refine wpAnyH_take_dst (i := 5) (v := .int .i64 (m1 : Int)) (d := some 27) rfl rfl (by kernel_rfl) (by kernel_rfl) (by kernel_rfl) (fun _ _ _ h => h) (Or.inl ⟨by rfl, ?_⟩) hH ?_
        · (intro w hSw; (try dsimp only at hSw); go_split_ands; go_simp; try with_reducible rfl)
        try simp only [Act.put, List.setIfInBounds_toArray, List.set_cons_zero, List.set_cons_succ]
        refine wpAnyH_take_dst (i := 6) (v := .bool true) (d := some 28) rfl rfl (by kernel_rfl) (by kernel_rfl) (by kernel_rfl) (fun _ _ _ h => h) (Or.inl ⟨by rfl, ?_⟩) hH ?_
        · (intro w hSw; (try dsimp only at hSw); go_split_ands; go_simp; try with_reducible rfl)
        try simp only [Act.put, List.setIfInBounds_toArray, List.set_cons_zero, List.set_cons_succ]
        refine wpAnyH_take_dst (i := 7) (v := .bool true) (d := some 29) rfl rfl (by kernel_rfl) (by kernel_rfl) (by kernel_rfl) (fun _ _ _ h => h) (Or.inl ⟨by rfl, ?_⟩) hH ?_
        · (intro w hSw; (try dsimp only at hSw); go_split_ands; go_simp; try with_reducible rfl)
        try simp only [Act.put, List.setIfInBounds_toArray, List.set_cons_zero, List.set_cons_succ]
        refine wpAnyH_take_dst (i := 8) (v := .agg #[.slice A n c]) (d := some 30) rfl rfl (by kernel_rfl) (by kernel_rfl) (by kernel_rfl) (fun _ _ _ h => h) (Or.inl ⟨by rfl, ?_⟩) hH ?_
        · (intro w hSw; (try dsimp only at hSw); go_split_ands; go_simp; try with_reducible rfl)
        try simp only [Act.put, List.setIfInBounds_toArray, List.set_cons_zero, List.set_cons_succ]
        refine wpAnyH_take_dst (i := 9) (v := .pointer (some ⟨w.heap.size + 1, 0, none⟩)) (d := some 31) rfl rfl (by kernel_rfl) (by kernel_rfl) (by kernel_rfl) (fun _ _ _ h => h) (Or.inl ⟨by rfl, ?_⟩) hH ?_
        · (intro w hSw; (try dsimp only at hSw); go_split_ands; go_simp; try with_reducible rfl)
        try simp only [Act.put, List.setIfInBounds_toArray, List.set_cons_zero, List.set_cons_succ]
        refine wpAnyH_take_dst (i := 10) (v := .slice (some ⟨b, o, none⟩) m d) (d := some 32) rfl rfl (by kernel_rfl) (by kernel_rfl) (by kernel_rfl) (fun _ _ _ h => h) (Or.inl ⟨by rfl, ?_⟩) hH ?_
        · (intro w hSw; (try dsimp only at hSw); go_split_ands; go_simp; try with_reducible rfl)
        try simp only [Act.put, List.setIfInBounds_toArray, List.set_cons_zero, List.set_cons_succ]
        refine wpAnyH_take_dst (i := 11) (v := .int .i64 (k : Int)) (d := some 33) rfl rfl (by kernel_rfl) (by kernel_rfl) (by kernel_rfl) (fun _ _ _ h => h) (Or.inl ⟨by rfl, ?_⟩) hH ?_
        · (intro w hSw; (try dsimp only at hSw); go_split_ands; go_simp; try with_reducible rfl)
        try simp only [Act.put, List.setIfInBounds_toArray, List.set_cons_zero, List.set_cons_succ]
        refine wpAnyH_take_dst (i := 12) (v := .pointer (some ⟨b, o + k, none⟩)) (d := some 34) rfl rfl (by kernel_rfl) (by kernel_rfl) (by kernel_rfl) (fun _ _ _ h => h) (Or.inl ⟨by rfl, ?_⟩) hH ?_
        · (intro w hSw; (try dsimp only at hSw); go_split_ands; go_simp; try with_reducible rfl)
        try simp only [Act.put, List.setIfInBounds_toArray, List.set_cons_zero, List.set_cons_succ]
        refine wpAnyH_take_dst (i := 13) (v := .slice A1 m1 c1) (d := some 35) rfl rfl (by kernel_rfl) (by kernel_rfl) (by kernel_rfl) (fun _ _ _ h => h) (Or.inl ⟨by rfl, ?_⟩) hH ?_
        · (intro w hSw; (try dsimp only at hSw); go_split_ands; go_simp; try with_reducible rfl)
        try simp only [Act.put, List.setIfInBounds_toArray, List.set_cons_zero, List.set_cons_succ]
        refine wpAnyH_ready (rs := [14]) (by kernel_rfl) (by simp) ?_
        refine AllReadyH.cons rfl (fun K hK => ?_) AllReadyH.nil
        rw [if_pos (by rfl)]
        go_wp2_with (go_at_call 37; (with_reducible refine ((c_sTermOkT HT.out (RdSig.mk (RI.ext HA.out (Ext.trans hEw hH.2.2.2))) (RdI.mk (RI.ext HR.out hH.2.2.2)))).mono ?_); rintro e w6 ⟨rfl, hE9⟩)
        refine hK.out _ _ ⟨Ext.keep hE9 hH.1, Ext.keep hE9 hH.2.1, Ext.keep hE9 hH.2.2.1, Ext.trans hH.2.2.2 hE9⟩ (fun hH9 => ?_)
        clear hK hH; have hH := hH9; clear hH9
        try simp only [Act.put, List.setIfInBounds_toArray, List.set_cons_zero, List.set_cons_succ]
        refine wpAnyH_take_dst (i := 15) (v := .bool false) (d := some 37) rfl rfl (by kernel_rfl) (by kernel_rfl) (by kernel_rfl) (fun _ _ _ h => h) (Or.inl ⟨by rfl, ?_⟩) hH ?_
        · (intro w hSw; (try dsimp only at hSw); go_split_ands; go_simp; try with_reducible rfl)
        try simp only [Act.put, List.setIfInBounds_toArray, List.set_cons_zero, List.set_cons_succ]
        refine wpAnyH_take_dst (i := 16) (v := .bool false) (d := some 38) rfl rfl (by kernel_rfl) (by kernel_rfl) (by kernel_rfl) (fun _ _ _ h => h) (Or.inl ⟨by rfl, ?_⟩) hH ?_
        · (intro w hSw; (try dsimp only at hSw); go_split_ands; go_simp; try with_reducible rfl)
        try simp only [Act.put, List.setIfInBounds_toArray, List.set_cons_zero, List.set_cons_succ]
        refine wpAnyH_done (by kernel_rfl) ?_ _
        have hE6 := hH.2.2.2
        clear hH
        go_wp2_with fail
        go_roundw
        case rel => exact ⟨k + 1, by go_num, by omega, Ext.trans hE hE6⟩
        case measure => simp only [intOf]; omega
    · go_wp2
      go_ret
      exact ⟨rfl, hEw⟩
set_option maxRecDepth 100000 in
set_option maxHeartbeats 2000000 in
theorem c_Filled {v0 v1 : Value} {A : Option Addr} {n c : Nat} {ar : List Int} {σ : List (List Int)} {t : List Int} {o : Option (List Int)} {w : World} (ho : fillO σ t = o) (hσ : SubP ar σ) (ht : TermP ar t) (h0 : RdSig w v0 ar) (h1 : RdSub w v1 σ) (h2 : RI w A n t) :
    Calls Try.prog 13 #[v0, v1, .slice A n c] w (NewFo w o) := by
  subst ho
  obtain ⟨A1, n1, c1, rfl, ha⟩ := h0
  obtain ⟨B, m, d, rfl, hb⟩ := h1
  have HA := Lib.hid ha
  have HB := Lib.hid hb
  have HT := Lib.hid h2
  have HS := Lib.hid hσ
  have HTP := Lib.hid ht
  have HTK := Lib.hid (termOk_iff.2 ht)
  have HSG := Lib.hid ht.1
  clear ha hb h2 hσ ht
  go_enter Try.func13, Try.ntmps13
  go_wp2_with fail
  (with_reducible refine (c_SubstOk HSG.out HS.out (RdSig.mk (RI.ext HA.out (by exact extX))) (RdSub.mk (RSg.ext HB.out (by exact extX)))).mono ?_)
  rintro e w2 ⟨rfl, hE2⟩
  have hb0 : w2.cell? ⟨w.heap.size, 0, none⟩ = some (.slice A1 n1 c1) := Ext.keep hE2 (by simp [go_sem])
  have hb1 : w2.cell? ⟨w.heap.size + 1, 0, none⟩ = some (.slice B m d) := Ext.keep hE2 (by simp [go_sem])
  have hEw2 : Ext w w2 := by exact extX
  go_wp2_with fail
  (with_reducible refine (c_sTermOkT HTK.out (RdSig.mk (RI.ext HA.out hEw2)) (RdI.mk (RI.ext HT.out hEw2))).mono ?_)
  rintro e w3 ⟨rfl, hE3⟩
  have hc0 := Ext.keep hE3 hb0
  have hc1 := Ext.keep hE3 hb1
  have hEw3 := Ext.trans hEw2 hE3
  go_wp2_with fail
  (with_reducible refine (c_l2Filled HS.out HTP.out (RdSub.mk (RSg.ext HB.out hEw3)) (RI.ext HT.out hEw3)).mono ?_)
  rintro e w4 ⟨A4, n4, c4, rfl, hO4, hE4⟩
  have HO4 := Lib.hid hO4
  clear hO4
  go_wp2_with fail
  refine bodyPost_ret (v := .tuple #[.slice A4 n4 c4, .bool (fillO σ t).isSome]) (by simp [results, Try.results13, go_sem]) rfl ?_
  exact ⟨A4, n4, c4, rfl, HO4.out.lower hEw3.size, Ext.trans hEw3 hE4⟩

end Go.Proofs.Ytljbjabgdalabaa
