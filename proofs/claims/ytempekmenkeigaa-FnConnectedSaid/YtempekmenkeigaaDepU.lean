/- DepOk of both. -/
import Derived.Test.YtempekmenkeigaaDepI
import Derived.Test.YtempekmenkeigaaDepS
-- rd: RdSyK RdDp RdDq
namespace Go.Proofs.Ytempekmenkeigaa
open Go.RowKit
set_option linter.unusedSimpArgs false
set_option linter.unusedVariables false

theorem c_l1Has' {v : Value} {t : List Int} {x : Int} {w : World} {b : Bool} (hb : decide (x ∈ t) = b) (h0 : RdI w v t) :
    Calls Try.prog 60 #[v, .int .i64 x] w fun e w' => e = .returned (.bool b) ∧ Ext w w' :=
  (c_l1Has h0).mono fun _ _ ⟨he, hw⟩ => ⟨he.trans (ret_bool hb), by rw [hw]; exact Ext.refl _⟩
theorem c_l13End' {v0 v1 : Value} {ar t rest : List Int} {p f : Nat} {u : Tm} {w : World} (hf : f = p + u.flat.length) (h0 : RdSig w v0 ar) (h1 : RdI w v1 t) (hs : SigP ar) (hu : u.Ok ar) (hd : t.drop p = u.flat ++ rest) :
    Calls Try.prog 63 #[v0, v1, .int .i64 (p : Int)] w fun e w' => e = .returned (.int .i64 (f : Int)) ∧ Ext w w' := by
  rw [hf]; exact c_l13End h0 h1 hs hu hd
set_option maxRecDepth 100000 in
set_option maxHeartbeats 4000000 in
theorem c_l17At {v0 : Value} {s : Sy} {k a : Nat} {r : Ru} {x : Int} {w : World} (h0 : RdSyC w v0 s) (hs : SysP s) (hr : s.rs[k]? = some r) (hx : r.r[a]? = some x) :
    Calls Try.prog 40 #[v0, (.int .i64 (k : Int)), (.int .i64 (a : Int))] w (NewDo w (depOf s r k a x)) := by
  obtain ⟨A, n, c, B, m, d, rfl, ha, hb⟩ := h0
  have hkm : k < m := by have := (List.getElem?_eq_some_iff.1 hr).1; rw [hb.len] at this; exact this
  obtain ⟨b, o, r', A1, m1, c1, A2, m2, c2, rfl, hx', hd1, hd2, hr1, hr2, hcap1, hcap2⟩ := RR.at_ hb hkm
  rw [hr] at hx'; cases hx'
  have hrp := hs.2.2 k r hr
  have ham : a < m2 := by have := (List.getElem?_eq_some_iff.1 hx).1; rw [hr2.len] at this; exact this
  obtain ⟨b2, o2, x', rfl, hxx, hcx⟩ := RI.at_ hr2 ham
  rw [hx] at hxx; cases hxx
  obtain ⟨hok, rest, hdr⟩ := subT_ok hrp.2.1 (show a < r.r.length from (List.getElem?_eq_some_iff.1 hx).1)
  have HA := Lib.hid ha
  have HB := Lib.hid hb
  have HS := Lib.hid hs
  have HSG := Lib.hid (show SigP s.ar from hs.1)
  have HR1 := Lib.hid hr1
  have HR2 := Lib.hid hr2
  have HC1 := Lib.hid (hcap1 rfl)
  have HC2 := Lib.hid (hcap2 rfl)
  have HTL := Lib.hid hrp.1
  have HOK := Lib.hid hok
  have HDR := Lib.hid hdr
  have hki : (k : Int) < (m : Int) := by omega
  have hk0 : (0 : Int) ≤ (k : Int) := by omega
  have hai : (a : Int) < (m2 : Int) := by omega
  have ha0 : (0 : Int) ≤ (a : Int) := by omega
  have hbl : b < w.heap.size := World.block_lt_of_cell? w _ hd1
  have hbl2 : b2 < w.heap.size := World.block_lt_of_cell? w _ hcx
  clear ha hb hs hr1 hr2 hcap1 hcap2 hrp hok hdr
  go_enter Try.func40, Try.ntmps40
  go_wp2_with fail
  obtain ⟨w1, hw1⟩ : ∃ w1, w1 = ((w.alloc (.cells #[.slice A n c, .slice (some ⟨b, o, none⟩) m d] 34)).alloc (.cells #[.slice none 0 0, .slice none 0 0, .int .i64 0, .int .i64 0] 51)).alloc (.cells #[.slice A1 m1 c1, .slice (some ⟨b2, o2, none⟩) m2 c2] 75) := ⟨_, rfl⟩
  have hs0 : w1.cell? ⟨w.heap.size, 0, none⟩ = some (.slice A n c) := by rw [hw1]; simp [go_sem]
  have hs1 : w1.cell? ⟨w.heap.size, 1, none⟩ = some (.slice (some ⟨b, o, none⟩) m d) := by rw [hw1]; simp [go_sem]
  have hp0 : w1.cell? ⟨w.heap.size + 1, 0, none⟩ = some (.slice none 0 0) := by rw [hw1]; simp [go_sem]
  have hp1 : w1.cell? ⟨w.heap.size + 1, 1, none⟩ = some (.slice none 0 0) := by rw [hw1]; simp [go_sem]
  have hp2 : w1.cell? ⟨w.heap.size + 1, 2, none⟩ = some (.int .i64 0) := by rw [hw1]; simp [go_sem]
  have hp3 : w1.cell? ⟨w.heap.size + 1, 3, none⟩ = some (.int .i64 0) := by rw [hw1]; simp [go_sem]
  have hpf : ∀ j, w1.frozen? ⟨w.heap.size + 1, j, none⟩ = false := by intro j; rw [hw1]; simp [go_sem]
  have hq0 : w1.cell? ⟨w.heap.size + 1 + 1, 0, none⟩ = some (.slice A1 m1 c1) := by rw [hw1]; simp [go_sem]
  have hq1 : w1.cell? ⟨w.heap.size + 1 + 1, 1, none⟩ = some (.slice (some ⟨b2, o2, none⟩) m2 c2) := by rw [hw1]; simp [go_sem]
  have hE1 : Ext w w1 := by rw [hw1]; exact extX
  rw [← hw1]
  clear hw1
  have hcx1 := Ext.keep hE1 hcx
  by_cases hx0 : x < 0
  · have HR := Lib.hid (show depOf s r k a x = none by unfold depOf; rw [if_pos hx0])
    go_quiet (fail)
    go_wp2
    refine bodyPost_ret (v := .tuple #[.agg #[.slice none 0 0, .slice none 0 0, .int .i64 0, .int .i64 0], .bool false]) (by simp [results, Try.results40, go_sem, hp0, hp1, hp2, hp3, hpf]) rfl ?_
    rw [HR.out]
    exact ⟨none, 0, 0, none, 0, 0, 0, 0, rfl, (fun q e => by cases e), by exact extX⟩
  · have hd0 : decide (x < 0) = false := by simpa using hx0
    cases hdf : dfd s x with
    | false =>
      have HR := Lib.hid (show depOf s r k a x = none by unfold depOf; rw [if_neg hx0, if_pos hdf])
      have HD := Lib.hid hdf
      clear hdf
      refine wp_region_held_drew (S := (fun w' => w'.cell? ⟨w.heap.size, 0, none⟩ = some (.slice A n c) ∧ w'.cell? ⟨w.heap.size, 1, none⟩ = some (.slice (some ⟨b, o, none⟩) m d) ∧ w'.cell? ⟨w.heap.size + 1 + 1, 1, none⟩ = some (.slice (some ⟨b2, o2, none⟩) m2 c2) ∧ w'.cell? ⟨b2, o2 + a, none⟩ = some (.int .i64 x) ∧ Ext w1 w')) (by kernel_rfl) ?_ (fun hH => ?_)
      · exact ⟨hs0, hs1, hq1, hcx1, (Ext.refl w1).drew⟩
      refine wpAnyH_take_dst (i := 0) (v := .pointer (some ⟨w.heap.size + 1 + 1, 1, none⟩)) (d := some 15) rfl rfl (by kernel_rfl) (by kernel_rfl) (by kernel_rfl) (fun _ _ _ h => h) (Or.inl ⟨by rfl, ?_⟩) hH ?_
      · (intro w hSw; (try dsimp only at hSw); go_split_ands; go_simp; try with_reducible rfl)
      try simp only [Act.put, List.setIfInBounds_toArray, List.set_cons_zero, List.set_cons_succ]
      refine wpAnyH_take_dst (i := 1) (v := .slice (some ⟨b2, o2, none⟩) m2 c2) (d := some 16) rfl rfl (by kernel_rfl) (by kernel_rfl) (by kernel_rfl) (fun _ _ _ h => h) (Or.inl ⟨by rfl, ?_⟩) hH ?_
      · (intro w hSw; (try dsimp only at hSw); go_split_ands; go_simp; try with_reducible rfl)
      try simp only [Act.put, List.setIfInBounds_toArray, List.set_cons_zero, List.set_cons_succ]
      refine wpAnyH_take_dst (i := 2) (v := .int .i64 (a : Int)) (d := some 17) rfl rfl (by kernel_rfl) (by kernel_rfl) (by kernel_rfl) (fun _ _ _ h => h) (Or.inl ⟨by rfl, ?_⟩) hH ?_
      · (intro w hSw; (try dsimp only at hSw); go_split_ands; go_simp; try with_reducible rfl)
      try simp only [Act.put, List.setIfInBounds_toArray, List.set_cons_zero, List.set_cons_succ]
      refine wpAnyH_take_dst (i := 3) (v := .pointer (some ⟨b2, o2 + a, none⟩)) (d := some 18) rfl rfl (by kernel_rfl) (by kernel_rfl) (by kernel_rfl) (fun _ _ _ h => h) (Or.inl ⟨by rfl, ?_⟩) hH ?_
      · (intro w hSw; (try dsimp only at hSw); go_split_ands; go_simp; try with_reducible rfl)
      try simp only [Act.put, List.setIfInBounds_toArray, List.set_cons_zero, List.set_cons_succ]
      refine wpAnyH_take_dst (i := 4) (v := .int .i64 x) (d := some 19) rfl rfl (by kernel_rfl) (by kernel_rfl) (by kernel_rfl) (fun _ _ _ h => h) (Or.inl ⟨by rfl, ?_⟩) hH ?_
      · (intro w hSw; (try dsimp only at hSw); go_split_ands; go_simp; try with_reducible rfl)
      try simp only [Act.put, List.setIfInBounds_toArray, List.set_cons_zero, List.set_cons_succ]
      refine wpAnyH_take_dst (i := 5) (v := .bool false) (d := some 20) rfl rfl (by kernel_rfl) (by kernel_rfl) (by kernel_rfl) (fun _ _ _ h => h) (Or.inl ⟨by rfl, ?_⟩) hH ?_
      · (intro w hSw; (try dsimp only at hSw); go_split_ands; go_simp; try with_reducible rfl)
      try simp only [Act.put, List.setIfInBounds_toArray, List.set_cons_zero, List.set_cons_succ]
      refine wpAnyH_take_dst (i := 6) (v := .bool false) (d := some 21) rfl rfl (by kernel_rfl) (by kernel_rfl) (by kernel_rfl) (fun _ _ _ h => h) (Or.inl ⟨by rfl, ?_⟩) hH ?_
      · (intro w hSw; (try dsimp only at hSw); go_split_ands; go_simp; try with_reducible rfl)
      try simp only [Act.put, List.setIfInBounds_toArray, List.set_cons_zero, List.set_cons_succ]
      refine wpAnyH_take_dst (i := 7) (v := .agg #[.slice A n c, .slice (some ⟨b, o, none⟩) m d]) (d := some 22) rfl rfl (by kernel_rfl) (by kernel_rfl) (by kernel_rfl) (fun _ _ _ h => h) (Or.inl ⟨by rfl, ?_⟩) hH ?_
      · (intro w hSw; (try dsimp only at hSw); go_split_ands; go_simp; try with_reducible rfl)
      try simp only [Act.put, List.setIfInBounds_toArray, List.set_cons_zero, List.set_cons_succ]
      refine wpAnyH_take_dst (i := 9) (v := .pointer (some ⟨w.heap.size + 1 + 1, 1, none⟩)) (d := some 24) rfl rfl (by kernel_rfl) (by kernel_rfl) (by kernel_rfl) (fun _ _ _ h => h) (Or.inl ⟨by rfl, ?_⟩) hH ?_
      · (intro w hSw; (try dsimp only at hSw); go_split_ands; go_simp; try with_reducible rfl)
      try simp only [Act.put, List.setIfInBounds_toArray, List.set_cons_zero, List.set_cons_succ]
      refine wpAnyH_take_dst (i := 10) (v := .slice (some ⟨b2, o2, none⟩) m2 c2) (d := some 25) rfl rfl (by kernel_rfl) (by kernel_rfl) (by kernel_rfl) (fun _ _ _ h => h) (Or.inl ⟨by rfl, ?_⟩) hH ?_
      · (intro w hSw; (try dsimp only at hSw); go_split_ands; go_simp; try with_reducible rfl)
      try simp only [Act.put, List.setIfInBounds_toArray, List.set_cons_zero, List.set_cons_succ]
      refine wpAnyH_take_dst (i := 11) (v := .int .i64 (a : Int)) (d := some 26) rfl rfl (by kernel_rfl) (by kernel_rfl) (by kernel_rfl) (fun _ _ _ h => h) (Or.inl ⟨by rfl, ?_⟩) hH ?_
      · (intro w hSw; (try dsimp only at hSw); go_split_ands; go_simp; try with_reducible rfl)
      try simp only [Act.put, List.setIfInBounds_toArray, List.set_cons_zero, List.set_cons_succ]
      refine wpAnyH_take_dst (i := 12) (v := .pointer (some ⟨b2, o2 + a, none⟩)) (d := some 27) rfl rfl (by kernel_rfl) (by kernel_rfl) (by kernel_rfl) (fun _ _ _ h => h) (Or.inl ⟨by rfl, ?_⟩) hH ?_
      · (intro w hSw; (try dsimp only at hSw); go_split_ands; go_simp; try with_reducible rfl)
      try simp only [Act.put, List.setIfInBounds_toArray, List.set_cons_zero, List.set_cons_succ]
      refine wpAnyH_take_dst (i := 13) (v := .int .i64 x) (d := some 28) rfl rfl (by kernel_rfl) (by kernel_rfl) (by kernel_rfl) (fun _ _ _ h => h) (Or.inl ⟨by rfl, ?_⟩) hH ?_
      · (intro w hSw; (try dsimp only at hSw); go_split_ands; go_simp; try with_reducible rfl)
      try simp only [Act.put, List.setIfInBounds_toArray, List.set_cons_zero, List.set_cons_succ]
      refine wpAnyH_ready (rs := [8]) (by kernel_rfl) (by simp) ?_
      refine AllReadyH.cons rfl (fun K hK => ?_) AllReadyH.nil
      rw [if_pos (by rfl)]
      go_wp2_with (go_at_call 61; (with_reducible refine ((c_l6Defined (s := s) (RdSyK.mk (RI.ext HA.out (Ext.trans hE1 hH.2.2.2.2)) (RR.ext HB.out (Ext.trans hE1 hH.2.2.2.2))) HS.out)).mono ?_); rintro e w8 ⟨A7, n7, c7, ys, rfl, hr7, hh7, hE9⟩)
      refine hK.out _ _ ⟨Ext.keep hE9 hH.1, Ext.keep hE9 hH.2.1, Ext.keep hE9 hH.2.2.1, Ext.keep hE9 hH.2.2.2.1, Ext.trans hH.2.2.2.2 hE9⟩ (fun hH9 => ?_)
      clear hK hH; have hH := hH9; clear hH9
      try simp only [Act.put, List.setIfInBounds_toArray, List.set_cons_zero, List.set_cons_succ]
      refine wpAnyH_ready (rs := [14]) (by kernel_rfl) (by simp) ?_
      refine AllReadyH.cons rfl (fun K hK => ?_) AllReadyH.nil
      rw [if_pos (by rfl)]
      go_wp2_with (go_at_call 60; (with_reducible refine ((c_l1Has' (x := x) ((HeadsTo.all hh7 x).trans HD.out) (RdI.mk hr7))).mono ?_); rintro e w9 ⟨rfl, hE9⟩)
      refine hK.out _ _ ⟨Ext.keep hE9 hH.1, Ext.keep hE9 hH.2.1, Ext.keep hE9 hH.2.2.1, Ext.keep hE9 hH.2.2.2.1, Ext.trans hH.2.2.2.2 hE9⟩ (fun hH9 => ?_)
      clear hK hH; have hH := hH9; clear hH9
      try simp only [Act.put, List.setIfInBounds_toArray, List.set_cons_zero, List.set_cons_succ]
      refine wpAnyH_take_dst (i := 15) (v := .bool true) (d := some 30) rfl rfl (by kernel_rfl) (by kernel_rfl) (by kernel_rfl) (fun _ _ _ h => h) (Or.inl ⟨by rfl, ?_⟩) hH ?_
      · (intro w hSw; (try dsimp only at hSw); go_split_ands; go_simp; try with_reducible rfl)
      try simp only [Act.put, List.setIfInBounds_toArray, List.set_cons_zero, List.set_cons_succ]
      refine wpAnyH_take_dst (i := 16) (v := .bool true) (d := some 31) rfl rfl (by kernel_rfl) (by kernel_rfl) (by kernel_rfl) (fun _ _ _ h => h) (Or.inl ⟨by rfl, ?_⟩) hH ?_
      · (intro w hSw; (try dsimp only at hSw); go_split_ands; go_simp; try with_reducible rfl)
      try simp only [Act.put, List.setIfInBounds_toArray, List.set_cons_zero, List.set_cons_succ]
      refine wpAnyH_done (by kernel_rfl) ?_ _
      have hE9 := hH.2.2.2.2
      obtain ⟨k0, k1, k2, k3, kf⟩ : w9.cell? ⟨w.heap.size + 1, 0, none⟩ = some (.slice none 0 0) ∧ w9.cell? ⟨w.heap.size + 1, 1, none⟩ = some (.slice none 0 0) ∧ w9.cell? ⟨w.heap.size + 1, 2, none⟩ = some (.int .i64 0) ∧ w9.cell? ⟨w.heap.size + 1, 3, none⟩ = some (.int .i64 0) ∧ ∀ j, w9.frozen? ⟨w.heap.size + 1, j, none⟩ = false :=
        ⟨Ext.keep hE9 hp0, Ext.keep hE9 hp1, Ext.keep hE9 hp2, Ext.keep hE9 hp3, fun j => (Below.frozen (p := ⟨w.heap.size + 1, j, none⟩) hE9 (by have := World.block_lt_of_cell? w1 _ hp0; exact this)).trans (hpf j)⟩
      have hEw9 : Ext w w9 := Ext.trans hE1 hE9
      clear hH
      go_wp2
      refine bodyPost_ret (v := .tuple #[.agg #[.slice none 0 0, .slice none 0 0, .int .i64 0, .int .i64 0], .bool false]) (by simp [results, Try.results40, go_sem, k0, k1, k2, k3, kf]) rfl ?_
      rw [HR.out]
      exact ⟨none, 0, 0, none, 0, 0, 0, 0, rfl, (fun q e => by cases e), by exact extX⟩
    | true =>
      have HD := Lib.hid hdf
      refine wp_region_held_drew (S := (fun w' => w'.cell? ⟨w.heap.size, 0, none⟩ = some (.slice A n c) ∧ w'.cell? ⟨w.heap.size, 1, none⟩ = some (.slice (some ⟨b, o, none⟩) m d) ∧ w'.cell? ⟨w.heap.size + 1 + 1, 1, none⟩ = some (.slice (some ⟨b2, o2, none⟩) m2 c2) ∧ w'.cell? ⟨b2, o2 + a, none⟩ = some (.int .i64 x) ∧ Ext w1 w')) (by kernel_rfl) ?_ (fun hH => ?_)
      · exact ⟨hs0, hs1, hq1, hcx1, (Ext.refl w1).drew⟩
      refine wpAnyH_take_dst (i := 0) (v := .pointer (some ⟨w.heap.size + 1 + 1, 1, none⟩)) (d := some 15) rfl rfl (by kernel_rfl) (by kernel_rfl) (by kernel_rfl) (fun _ _ _ h => h) (Or.inl ⟨by rfl, ?_⟩) hH ?_
      · (intro w hSw; (try dsimp only at hSw); go_split_ands; go_simp; try with_reducible rfl)
      try simp only [Act.put, List.setIfInBounds_toArray, List.set_cons_zero, List.set_cons_succ]
      refine wpAnyH_take_dst (i := 1) (v := .slice (some ⟨b2, o2, none⟩) m2 c2) (d := some 16) rfl rfl (by kernel_rfl) (by kernel_rfl) (by kernel_rfl) (fun _ _ _ h => h) (Or.inl ⟨by rfl, ?_⟩) hH ?_
      · (intro w hSw; (try dsimp only at hSw); go_split_ands; go_simp; try with_reducible rfl)
      try simp only [Act.put, List.setIfInBounds_toArray, List.set_cons_zero, List.set_cons_succ]
      refine wpAnyH_take_dst (i := 2) (v := .int .i64 (a : Int)) (d := some 17) rfl rfl (by kernel_rfl) (by kernel_rfl) (by kernel_rfl) (fun _ _ _ h => h) (Or.inl ⟨by rfl, ?_⟩) hH ?_
      · (intro w hSw; (try dsimp only at hSw); go_split_ands; go_simp; try with_reducible rfl)
      try simp only [Act.put, List.setIfInBounds_toArray, List.set_cons_zero, List.set_cons_succ]
      refine wpAnyH_take_dst (i := 3) (v := .pointer (some ⟨b2, o2 + a, none⟩)) (d := some 18) rfl rfl (by kernel_rfl) (by kernel_rfl) (by kernel_rfl) (fun _ _ _ h => h) (Or.inl ⟨by rfl, ?_⟩) hH ?_
      · (intro w hSw; (try dsimp only at hSw); go_split_ands; go_simp; try with_reducible rfl)
      try simp only [Act.put, List.setIfInBounds_toArray, List.set_cons_zero, List.set_cons_succ]
      refine wpAnyH_take_dst (i := 4) (v := .int .i64 x) (d := some 19) rfl rfl (by kernel_rfl) (by kernel_rfl) (by kernel_rfl) (fun _ _ _ h => h) (Or.inl ⟨by rfl, ?_⟩) hH ?_
      · (intro w hSw; (try dsimp only at hSw); go_split_ands; go_simp; try with_reducible rfl)
      try simp only [Act.put, List.setIfInBounds_toArray, List.set_cons_zero, List.set_cons_succ]
      refine wpAnyH_take_dst (i := 5) (v := .bool false) (d := some 20) rfl rfl (by kernel_rfl) (by kernel_rfl) (by kernel_rfl) (fun _ _ _ h => h) (Or.inl ⟨by rfl, ?_⟩) hH ?_
      · (intro w hSw; (try dsimp only at hSw); go_split_ands; go_simp; try with_reducible rfl)
      try simp only [Act.put, List.setIfInBounds_toArray, List.set_cons_zero, List.set_cons_succ]
      refine wpAnyH_take_dst (i := 6) (v := .bool false) (d := some 21) rfl rfl (by kernel_rfl) (by kernel_rfl) (by kernel_rfl) (fun _ _ _ h => h) (Or.inl ⟨by rfl, ?_⟩) hH ?_
      · (intro w hSw; (try dsimp only at hSw); go_split_ands; go_simp; try with_reducible rfl)
      try simp only [Act.put, List.setIfInBounds_toArray, List.set_cons_zero, List.set_cons_succ]
      refine wpAnyH_take_dst (i := 7) (v := .agg #[.slice A n c, .slice (some ⟨b, o, none⟩) m d]) (d := some 22) rfl rfl (by kernel_rfl) (by kernel_rfl) (by kernel_rfl) (fun _ _ _ h => h) (Or.inl ⟨by rfl, ?_⟩) hH ?_
      · (intro w hSw; (try dsimp only at hSw); go_split_ands; go_simp; try with_reducible rfl)
      try simp only [Act.put, List.setIfInBounds_toArray, List.set_cons_zero, List.set_cons_succ]
      refine wpAnyH_take_dst (i := 9) (v := .pointer (some ⟨w.heap.size + 1 + 1, 1, none⟩)) (d := some 24) rfl rfl (by kernel_rfl) (by kernel_rfl) (by kernel_rfl) (fun _ _ _ h => h) (Or.inl ⟨by rfl, ?_⟩) hH ?_
      · (intro w hSw; (try dsimp only at hSw); go_split_ands; go_simp; try with_reducible rfl)
      try simp only [Act.put, List.setIfInBounds_toArray, List.set_cons_zero, List.set_cons_succ]
      refine wpAnyH_take_dst (i := 10) (v := .slice (some ⟨b2, o2, none⟩) m2 c2) (d := some 25) rfl rfl (by kernel_rfl) (by kernel_rfl) (by kernel_rfl) (fun _ _ _ h => h) (Or.inl ⟨by rfl, ?_⟩) hH ?_
      · (intro w hSw; (try dsimp only at hSw); go_split_ands; go_simp; try with_reducible rfl)
      try simp only [Act.put, List.setIfInBounds_toArray, List.set_cons_zero, List.set_cons_succ]
      refine wpAnyH_take_dst (i := 11) (v := .int .i64 (a : Int)) (d := some 26) rfl rfl (by kernel_rfl) (by kernel_rfl) (by kernel_rfl) (fun _ _ _ h => h) (Or.inl ⟨by rfl, ?_⟩) hH ?_
      · (intro w hSw; (try dsimp only at hSw); go_split_ands; go_simp; try with_reducible rfl)
      try simp only [Act.put, List.setIfInBounds_toArray, List.set_cons_zero, List.set_cons_succ]
      refine wpAnyH_take_dst (i := 12) (v := .pointer (some ⟨b2, o2 + a, none⟩)) (d := some 27) rfl rfl (by kernel_rfl) (by kernel_rfl) (by kernel_rfl) (fun _ _ _ h => h) (Or.inl ⟨by rfl, ?_⟩) hH ?_
      · (intro w hSw; (try dsimp only at hSw); go_split_ands; go_simp; try with_reducible rfl)
      try simp only [Act.put, List.setIfInBounds_toArray, List.set_cons_zero, List.set_cons_succ]
      refine wpAnyH_take_dst (i := 13) (v := .int .i64 x) (d := some 28) rfl rfl (by kernel_rfl) (by kernel_rfl) (by kernel_rfl) (fun _ _ _ h => h) (Or.inl ⟨by rfl, ?_⟩) hH ?_
      · (intro w hSw; (try dsimp only at hSw); go_split_ands; go_simp; try with_reducible rfl)
      try simp only [Act.put, List.setIfInBounds_toArray, List.set_cons_zero, List.set_cons_succ]
      refine wpAnyH_ready (rs := [8]) (by kernel_rfl) (by simp) ?_
      refine AllReadyH.cons rfl (fun K hK => ?_) AllReadyH.nil
      rw [if_pos (by rfl)]
      go_wp2_with (go_at_call 61; (with_reducible refine ((c_l6Defined (s := s) (RdSyK.mk (RI.ext HA.out (Ext.trans hE1 hH.2.2.2.2)) (RR.ext HB.out (Ext.trans hE1 hH.2.2.2.2))) HS.out)).mono ?_); rintro e w8 ⟨A7, n7, c7, ys, rfl, hr7, hh7, hE9⟩)
      refine hK.out _ _ ⟨Ext.keep hE9 hH.1, Ext.keep hE9 hH.2.1, Ext.keep hE9 hH.2.2.1, Ext.keep hE9 hH.2.2.2.1, Ext.trans hH.2.2.2.2 hE9⟩ (fun hH9 => ?_)
      clear hK hH; have hH := hH9; clear hH9
      try simp only [Act.put, List.setIfInBounds_toArray, List.set_cons_zero, List.set_cons_succ]
      refine wpAnyH_ready (rs := [14]) (by kernel_rfl) (by simp) ?_
      refine AllReadyH.cons rfl (fun K hK => ?_) AllReadyH.nil
      rw [if_pos (by rfl)]
      go_wp2_with (go_at_call 60; (with_reducible refine ((c_l1Has' (x := x) ((HeadsTo.all hh7 x).trans HD.out) (RdI.mk hr7))).mono ?_); rintro e w9 ⟨rfl, hE9⟩)
      refine hK.out _ _ ⟨Ext.keep hE9 hH.1, Ext.keep hE9 hH.2.1, Ext.keep hE9 hH.2.2.1, Ext.keep hE9 hH.2.2.2.1, Ext.trans hH.2.2.2.2 hE9⟩ (fun hH9 => ?_)
      clear hK hH; have hH := hH9; clear hH9
      try simp only [Act.put, List.setIfInBounds_toArray, List.set_cons_zero, List.set_cons_succ]
      refine wpAnyH_take_dst (i := 15) (v := .bool false) (d := some 30) rfl rfl (by kernel_rfl) (by kernel_rfl) (by kernel_rfl) (fun _ _ _ h => h) (Or.inl ⟨by rfl, ?_⟩) hH ?_
      · (intro w hSw; (try dsimp only at hSw); go_split_ands; go_simp; try with_reducible rfl)
      try simp only [Act.put, List.setIfInBounds_toArray, List.set_cons_zero, List.set_cons_succ]
      refine wpAnyH_take_dst (i := 16) (v := .bool false) (d := some 31) rfl rfl (by kernel_rfl) (by kernel_rfl) (by kernel_rfl) (fun _ _ _ h => h) (Or.inl ⟨by rfl, ?_⟩) hH ?_
      · (intro w hSw; (try dsimp only at hSw); go_split_ands; go_simp; try with_reducible rfl)
      try simp only [Act.put, List.setIfInBounds_toArray, List.set_cons_zero, List.set_cons_succ]
      refine wpAnyH_done (by kernel_rfl) ?_ _
      have hE9 := hH.2.2.2.2
      obtain ⟨k0, k1, k2, k3, kf⟩ : w9.cell? ⟨w.heap.size + 1, 0, none⟩ = some (.slice none 0 0) ∧ w9.cell? ⟨w.heap.size + 1, 1, none⟩ = some (.slice none 0 0) ∧ w9.cell? ⟨w.heap.size + 1, 2, none⟩ = some (.int .i64 0) ∧ w9.cell? ⟨w.heap.size + 1, 3, none⟩ = some (.int .i64 0) ∧ ∀ j, w9.frozen? ⟨w.heap.size + 1, j, none⟩ = false :=
        ⟨Ext.keep hE9 hp0, Ext.keep hE9 hp1, Ext.keep hE9 hp2, Ext.keep hE9 hp3, fun j => (Below.frozen (p := ⟨w.heap.size + 1, j, none⟩) hE9 (by have := World.block_lt_of_cell? w1 _ hp0; exact this)).trans (hpf j)⟩
      have m0 := hH.1
      have m1' := hH.2.2.1
      have m2' := Ext.keep hE9 hq0
      have hEw9 : Ext w w9 := Ext.trans hE1 hE9
      clear hH
      obtain ⟨v, hv⟩ : ∃ v, v = (subT s.ar r.r a).flat := ⟨_, rfl⟩
      have HSUB := Lib.hid (RI.sub HR2.out HDR.out)
      have hvl : a + v.length ≤ m2 := by
        have h1 := congrArg List.length HDR.out
        rw [List.length_drop, List.length_append, HR2.out.len, ← hv] at h1
        omega
      obtain ⟨f, hf⟩ : ∃ f : Nat, f = a + v.length := ⟨_, rfl⟩
      have hff : f - a = v.length := by omega
      have hfi : (a : Int) ≤ (f : Int) := by omega
      have hfd : (f : Int) ≤ (c2 : Int) := by have := HC2.out; omega
      have hca : ¬ c2 = a := by have := HC2.out; omega
      have HFN := Lib.hid (show f = a + (subT s.ar r.r a).flat.length by rw [hf, hv])
      have HFF := Lib.hid hff
      have HV := Lib.hid hv
      have HSV := Lib.hid (show RI w (some ⟨b2, o2 + a, none⟩) (f - a) v by rw [HFF.out, HV.out]; exact HSUB.out)
      clear hf hv hff
      obtain ⟨wm, rfl⟩ : ∃ wm : World, w9 = wm := ⟨_, rfl⟩
      have hEm := hE9
      clear hE9
      go_wp2_with fail
      refine wp_region_held_drew (S := (fun w' => w'.cell? ⟨w.heap.size + 1 + 1, 1, none⟩ = some (.slice (some ⟨b2, o2, none⟩) m2 c2) ∧ w'.cell? ⟨w.heap.size, 0, none⟩ = some (.slice A n c) ∧ Ext w9 w')) (by kernel_rfl) ?_ (fun hH => ?_)
      · exact ⟨m1', m0, (Ext.refl w9).drew⟩
      refine wpAnyH_take_dst (i := 0) (v := .pointer (some ⟨w.heap.size + 1 + 1, 1, none⟩)) (d := some 33) rfl rfl (by kernel_rfl) (by kernel_rfl) (by kernel_rfl) (fun _ _ _ h => h) (Or.inl ⟨by rfl, ?_⟩) hH ?_
      · (intro w hSw; (try dsimp only at hSw); go_split_ands; go_simp; try with_reducible rfl)
      try simp only [Act.put, List.setIfInBounds_toArray, List.set_cons_zero, List.set_cons_succ]
      refine wpAnyH_take_dst (i := 1) (v := .slice (some ⟨b2, o2, none⟩) m2 c2) (d := some 34) rfl rfl (by kernel_rfl) (by kernel_rfl) (by kernel_rfl) (fun _ _ _ h => h) (Or.inl ⟨by rfl, ?_⟩) hH ?_
      · (intro w hSw; (try dsimp only at hSw); go_split_ands; go_simp; try with_reducible rfl)
      try simp only [Act.put, List.setIfInBounds_toArray, List.set_cons_zero, List.set_cons_succ]
      refine wpAnyH_take_dst (i := 2) (v := .int .i64 (a : Int)) (d := some 35) rfl rfl (by kernel_rfl) (by kernel_rfl) (by kernel_rfl) (fun _ _ _ h => h) (Or.inl ⟨by rfl, ?_⟩) hH ?_
      · (intro w hSw; (try dsimp only at hSw); go_split_ands; go_simp; try with_reducible rfl)
      try simp only [Act.put, List.setIfInBounds_toArray, List.set_cons_zero, List.set_cons_succ]
      refine wpAnyH_take_dst (i := 3) (v := .pointer (some ⟨w.heap.size, 0, none⟩)) (d := some 36) rfl rfl (by kernel_rfl) (by kernel_rfl) (by kernel_rfl) (fun _ _ _ h => h) (Or.inl ⟨by rfl, ?_⟩) hH ?_
      · (intro w hSw; (try dsimp only at hSw); go_split_ands; go_simp; try with_reducible rfl)
      try simp only [Act.put, List.setIfInBounds_toArray, List.set_cons_zero, List.set_cons_succ]
      refine wpAnyH_take_dst (i := 4) (v := .agg #[.slice A n c]) (d := some 37) rfl rfl (by kernel_rfl) (by kernel_rfl) (by kernel_rfl) (fun _ _ _ h => h) (Or.inl ⟨by rfl, ?_⟩) hH ?_
      · (intro w hSw; (try dsimp only at hSw); go_split_ands; go_simp; try with_reducible rfl)
      try simp only [Act.put, List.setIfInBounds_toArray, List.set_cons_zero, List.set_cons_succ]
      refine wpAnyH_take_dst (i := 5) (v := .pointer (some ⟨w.heap.size + 1 + 1, 1, none⟩)) (d := some 38) rfl rfl (by kernel_rfl) (by kernel_rfl) (by kernel_rfl) (fun _ _ _ h => h) (Or.inl ⟨by rfl, ?_⟩) hH ?_
      · (intro w hSw; (try dsimp only at hSw); go_split_ands; go_simp; try with_reducible rfl)
      try simp only [Act.put, List.setIfInBounds_toArray, List.set_cons_zero, List.set_cons_succ]
      refine wpAnyH_take_dst (i := 6) (v := .slice (some ⟨b2, o2, none⟩) m2 c2) (d := some 39) rfl rfl (by kernel_rfl) (by kernel_rfl) (by kernel_rfl) (fun _ _ _ h => h) (Or.inl ⟨by rfl, ?_⟩) hH ?_
      · (intro w hSw; (try dsimp only at hSw); go_split_ands; go_simp; try with_reducible rfl)
      try simp only [Act.put, List.setIfInBounds_toArray, List.set_cons_zero, List.set_cons_succ]
      refine wpAnyH_take_dst (i := 7) (v := .int .i64 (a : Int)) (d := some 40) rfl rfl (by kernel_rfl) (by kernel_rfl) (by kernel_rfl) (fun _ _ _ h => h) (Or.inl ⟨by rfl, ?_⟩) hH ?_
      · (intro w hSw; (try dsimp only at hSw); go_split_ands; go_simp; try with_reducible rfl)
      try simp only [Act.put, List.setIfInBounds_toArray, List.set_cons_zero, List.set_cons_succ]
      refine wpAnyH_ready (rs := [8]) (by kernel_rfl) (by simp) ?_
      refine AllReadyH.cons rfl (fun K hK => ?_) AllReadyH.nil
      rw [if_pos (by rfl)]
      go_wp2_with (go_at_call 63; (with_reducible refine ((c_l13End' (u := subT s.ar r.r a) (p := a) HFN.out (RdSig.mk (RI.ext HA.out (Ext.trans hEw9 hH.2.2))) (RdI.mk (RI.ext HR2.out (Ext.trans hEw9 hH.2.2))) HSG.out HOK.out HDR.out)).mono ?_); rintro e w2 ⟨rfl, hE9⟩)
      refine hK.out _ _ ⟨Ext.keep hE9 hH.1, Ext.keep hE9 hH.2.1, Ext.trans hH.2.2 hE9⟩ (fun hH9 => ?_)
      clear hK hH; have hH := hH9; clear hH9
      try simp only [Act.put, List.setIfInBounds_toArray, List.set_cons_zero, List.set_cons_succ]
      refine wpAnyH_take_dst (i := 9) (v := .slice (some ⟨b2, o2 + a, none⟩) (f - a) (c2 - a)) (d := some 42) rfl rfl (by kernel_rfl) (by kernel_rfl) (by kernel_rfl) (fun _ _ _ h => h) (Or.inl ⟨by rfl, ?_⟩) hH ?_
      · (intro w hSw; (try dsimp only at hSw); go_split_ands; go_simp; try with_reducible rfl)
      try simp only [Act.put, List.setIfInBounds_toArray, List.set_cons_zero, List.set_cons_succ]
      refine wpAnyH_ready (rs := [10]) (by kernel_rfl) (by simp) ?_
      refine AllReadyH.cons rfl (fun K hK => ?_) AllReadyH.nil
      rw [if_pos (by rfl)]
      go_wp2_with (go_at_call 62; (with_reducible refine ((c_l1Copy (RI.ext HSV.out (Ext.trans hEw9 hH.2.2)))).mono ?_); rintro e w3 ⟨A5, n5, c5, rfl, hO5, hE9⟩)
      refine hK.out _ _ ⟨Ext.keep hE9 hH.1, Ext.keep hE9 hH.2.1, Ext.trans hH.2.2 hE9⟩ (fun hH9 => ?_)
      clear hK hH; have hH := hH9; clear hH9
      try simp only [Act.put, List.setIfInBounds_toArray, List.set_cons_zero, List.set_cons_succ]
      refine wpAnyH_take_dst (i := 11) (v := .slice A5 n5 c5) (d := some 9) rfl rfl (by kernel_rfl) (by kernel_rfl) (by kernel_rfl) (fun _ _ _ h => h) (Or.inl ⟨by rfl, ?_⟩) hH ?_
      · (intro w hSw; (try dsimp only at hSw); go_split_ands; go_simp; try with_reducible rfl)
      try simp only [Act.put, List.setIfInBounds_toArray, List.set_cons_zero, List.set_cons_succ]
      refine wpAnyH_done (by kernel_rfl) ?_ _
      have hE3 := hH.2.2
      have HR5 := Lib.hid hO5.ri
      have hbd5 := hO5.bd
      have hs29 : w9.heap.size ≤ w2.heap.size := (show Ext w9.drew w2 by assumption).size
      have j0 := Ext.keep hE3 m0
      have j1 := Ext.keep hE3 m2'
      have hEw3 := Ext.trans hEw9 hE3
      clear hO5
      go_wp2_with fail
      (with_reducible refine (c_l17Part (u := v) (RdSig.mk (RI.ext HA.out hEw3)) (RdIc.mk HC1.out (RI.ext HR1.out hEw3)) (RdI.mk HR5.out) HTL.out).mono ?_)
      rw [HV.out]
      cases hha : has s.ar r.l (subT s.ar r.r a).flat with
      | true =>
        have HR := Lib.hid (show depOf s r k a x = none by unfold depOf; rw [if_neg (by omega), if_neg (by rw [hdf]; simp), if_pos hha])
        rintro e4 w4 ⟨rfl, hE4⟩
        have hE94 := Ext.trans hE3 hE4
        obtain ⟨k0, k1, k2, k3, kf⟩ : w4.cell? ⟨w.heap.size + 1, 0, none⟩ = some (.slice none 0 0) ∧ w4.cell? ⟨w.heap.size + 1, 1, none⟩ = some (.slice none 0 0) ∧ w4.cell? ⟨w.heap.size + 1, 2, none⟩ = some (.int .i64 0) ∧ w4.cell? ⟨w.heap.size + 1, 3, none⟩ = some (.int .i64 0) ∧ ∀ j, w4.frozen? ⟨w.heap.size + 1, j, none⟩ = false :=
          ⟨Ext.keep hE94 k0, Ext.keep hE94 k1, Ext.keep hE94 k2, Ext.keep hE94 k3, fun j => (Below.frozen (p := ⟨w.heap.size + 1, j, none⟩) hE94 (by have := World.block_lt_of_cell? w9 _ k0; exact this)).trans (kf j)⟩
        have hEw4 := Ext.trans hEw3 hE4
        go_wp2
        refine bodyPost_ret (v := .tuple #[.agg #[.slice none 0 0, .slice none 0 0, .int .i64 0, .int .i64 0], .bool false]) (by simp [results, Try.results40, go_sem, k0, k1, k2, k3, kf]) rfl ?_
        rw [HR.out]
        exact ⟨none, 0, 0, none, 0, 0, 0, 0, rfl, (fun q e => by cases e), by exact extX⟩
      | false =>
        have HR := Lib.hid (show depOf s r k a x = some ⟨r.l, (subT s.ar r.r a).flat, k, a⟩ by unfold depOf; rw [if_neg (by omega), if_neg (by rw [hdf]; simp), if_neg (by rw [hha]; simp)])
        rintro e4 w4 ⟨rfl, hE4⟩
        have i1 := Ext.keep hE4 j1
        have hEw4 := Ext.trans hEw3 hE4
        go_wp2_with fail
        (with_reducible refine (c_l1Copy (RI.ext HR1.out hEw4)).mono ?_)
        rintro e5 w5 ⟨A6, n6, c6, rfl, hO6, hE5⟩
        have HR6 := Lib.hid hO6.ri
        have hbd6 := hO6.bd
        have hEw5 := Ext.trans hEw4 hE5
        clear hO6
        have HR7 := Lib.hid (RI.ext HR5.out (Ext.trans hE4 hE5))
        have hE96 := Ext.trans hE3 (Ext.trans hE4 hE5)
        obtain ⟨k0, k1, k2, k3, kf⟩ : w5.cell? ⟨w.heap.size + 1, 0, none⟩ = some (.slice none 0 0) ∧ w5.cell? ⟨w.heap.size + 1, 1, none⟩ = some (.slice none 0 0) ∧ w5.cell? ⟨w.heap.size + 1, 2, none⟩ = some (.int .i64 0) ∧ w5.cell? ⟨w.heap.size + 1, 3, none⟩ = some (.int .i64 0) ∧ ∀ j, w5.frozen? ⟨w.heap.size + 1, j, none⟩ = false :=
          ⟨Ext.keep hE96 k0, Ext.keep hE96 k1, Ext.keep hE96 k2, Ext.keep hE96 k3, fun j => (Below.frozen (p := ⟨w.heap.size + 1, j, none⟩) hE96 (by have := World.block_lt_of_cell? w9 _ k0; exact this)).trans (kf j)⟩
        have hlt9 : w.heap.size + 1 < w9.heap.size := by
          have h1 := World.block_lt_of_cell? w1 _ hp0
          have h2 := hEm.size
          have h3 : w.heap.size + 1 < w1.heap.size := h1
          omega
        have hs49 : w9.heap.size ≤ w4.heap.size := (Ext.trans hE3 hE4).size
        have hs59 : w4.heap.size ≤ w5.heap.size := hE5.size
        go_wp2_with fail
        refine bodyPost_ret (v := .tuple #[.agg #[.slice A6 n6 c6, .slice A5 n5 c5, .int .i64 (k : Int), .int .i64 (a : Int)], .bool true]) (by simp [results, Try.results40, go_sem, k0, k1, k2, k3, kf]) rfl ?_
        rw [HR.out]
        refine ⟨A6, n6, c6, A5, n5, c5, _, _, rfl, fun q e => ?_, by exact extX⟩
        cases e
        refine ⟨rfl, rfl, ?_, ?_⟩
        · exact RI.only HR6.out (Only.trans (Only.trans (Only.trans (Only.setCell _ (w.heap.size + 1) _ _) (Only.setCell _ _ _ _)) (Only.setCell _ _ _ _)) (Only.setCell _ _ _ _)) (fun b o s e _ => by have := (hbd6 b o s e).1; omega)
        · rw [← HV.out]; exact RI.only HR7.out (Only.trans (Only.trans (Only.trans (Only.setCell _ (w.heap.size + 1) _ _) (Only.setCell _ _ _ _)) (Only.setCell _ _ _ _)) (Only.setCell _ _ _ _)) (fun b o s e _ => by have := (hbd5 b o s e).1; omega)

end Go.Proofs.Ytempekmenkeigaa
