/- The pair of a rule at a place, with what the call owns. -/
import Derived.Test.YtempekmenkeigaaDepU
import Derived.Test.YtempekmenkeigaaPairE
-- rd: RdSyK RdDp RdDq
namespace Go.Proofs.Ytempekmenkeigaa
open Go.RowKit
set_option linter.unusedSimpArgs false
set_option linter.unusedVariables false

/-- A pair of the call's own, or none. -/
def NewDw (w : World) (o : Option DepP) (e : Ending) (w' : World) : Prop := ∃ (A : Option Addr) (n c : Nat) (B : Option Addr) (m d : Nat) (k a : Int), e = .returned (.tuple #[.agg #[.slice A n c, .slice B m d, .int .i64 k, .int .i64 a], .bool o.isSome]) ∧
  (∀ q, o = some q → k = q.rule ∧ a = q.at_ ∧ OwI w' w.heap.size A n c q.l ∧ OwI w' w.heap.size B m d q.r ∧ ∀ b o s b' o' s', A = some ⟨b, o, s⟩ → B = some ⟨b', o', s'⟩ → b ≠ b') ∧ Ext w w'
theorem OwI.set4 {w : World} {B n c p : Nat} {A : Option Addr} {xs : List Int} {v0 v1 v2 v3 : Value} (h : OwI w B A n c xs) (hp : ∀ b o s, A = some ⟨b, o, s⟩ → b ≠ p) :
    OwI ((((w.setCell ⟨p, 0, none⟩ v0).setCell ⟨p, 1, none⟩ v1).setCell ⟨p, 2, none⟩ v2).setCell ⟨p, 3, none⟩ v3) B A n c xs :=
  (((h.setFar _ hp).setFar _ hp).setFar _ hp).setFar _ hp
set_option maxRecDepth 100000 in
set_option maxHeartbeats 4000000 in
theorem c_pairAtO {v0 : Value} {s : Sy} {k a : Nat} {r : Ru} {x : Int} {w : World} (h0 : RdSyC w v0 s) (hs : SysP s) (hr : s.rs[k]? = some r) (hx : r.r[a]? = some x) :
    Calls Try.prog 66 #[v0, .int .i64 (k : Int), .int .i64 (a : Int)] w (NewDw w (depOf s r k a x)) := by
  obtain ⟨A, n, c, B, m, d, rfl, ha, hb⟩ := h0
  have hkm : k < m := by have := (List.getElem?_eq_some_iff.1 hr).1; rw [hb.len] at this; exact this
  obtain ⟨b, o, r', A1, m1, c1, A2, m2, c2, rfl, hx', hd1, hd2, hr1, hr2, hcap1, hcap2⟩ := RR.at_ hb hkm
  rw [hr] at hx'; cases hx'
  have hrp := hs.2.2 k r hr
  have ham : a < m2 := by have := (List.getElem?_eq_some_iff.1 hx).1; rw [hr2.len] at this; exact this
  obtain ⟨b2, o2, x', rfl, hxx, hcx⟩ := RI.at_ hr2 ham
  rw [hx] at hxx; cases hxx
  obtain ⟨hok, rest, hdr⟩ := subT_ok hrp.2.1 (show a < r.r.length from (List.getElem?_eq_some_iff.1 hx).1)
  have HA := Lib.hid ha
  have HB := Lib.hid hb
  have HS := Lib.hid hs
  have HSG := Lib.hid (show SigP s.ar from hs.1)
  have HR1 := Lib.hid hr1
  have HR2 := Lib.hid hr2
  have HC1 := Lib.hid (hcap1 rfl)
  have HC2 := Lib.hid (hcap2 rfl)
  have HTL := Lib.hid hrp.1
  have HOK := Lib.hid hok
  have HDR := Lib.hid hdr
  have hki : (k : Int) < (m : Int) := by omega
  have hk0 : (0 : Int) ≤ (k : Int) := by omega
  have hai : (a : Int) < (m2 : Int) := by omega
  have ha0 : (0 : Int) ≤ (a : Int) := by omega
  have hbl : b < w.heap.size := World.block_lt_of_cell? w _ hd1
  have hbl2 : b2 < w.heap.size := World.block_lt_of_cell? w _ hcx
  clear ha hb hs hr1 hr2 hcap1 hcap2 hrp hok hdr
  go_enter Try.func66, Try.ntmps66
  go_wp2_with fail
  obtain ⟨w1, hw1⟩ : ∃ w1, w1 = ((w.alloc (.cells #[.slice A n c, .slice (some ⟨b, o, none⟩) m d] 34)).alloc (.cells #[.slice none 0 0, .slice none 0 0, .int .i64 0, .int .i64 0] 51)).alloc (.cells #[.slice A1 m1 c1, .slice (some ⟨b2, o2, none⟩) m2 c2] 75) := ⟨_, rfl⟩
  have hs0 : w1.cell? ⟨w.heap.size, 0, none⟩ = some (.slice A n c) := by rw [hw1]; simp [go_sem]
  have hs1 : w1.cell? ⟨w.heap.size, 1, none⟩ = some (.slice (some ⟨b, o, none⟩) m d) := by rw [hw1]; simp [go_sem]
  have hp0 : w1.cell? ⟨w.heap.size + 1, 0, none⟩ = some (.slice none 0 0) := by rw [hw1]; simp [go_sem]
  have hp1 : w1.cell? ⟨w.heap.size + 1, 1, none⟩ = some (.slice none 0 0) := by rw [hw1]; simp [go_sem]
  have hp2 : w1.cell? ⟨w.heap.size + 1, 2, none⟩ = some (.int .i64 0) := by rw [hw1]; simp [go_sem]
  have hp3 : w1.cell? ⟨w.heap.size + 1, 3, none⟩ = some (.int .i64 0) := by rw [hw1]; simp [go_sem]
  have hpf : ∀ j, w1.frozen? ⟨w.heap.size + 1, j, none⟩ = false := by intro j; rw [hw1]; simp [go_sem]
  have hq0 : w1.cell? ⟨w.heap.size + 1 + 1, 0, none⟩ = some (.slice A1 m1 c1) := by rw [hw1]; simp [go_sem]
  have hq1 : w1.cell? ⟨w.heap.size + 1 + 1, 1, none⟩ = some (.slice (some ⟨b2, o2, none⟩) m2 c2) := by rw [hw1]; simp [go_sem]
  have hE1 : Ext w w1 := by rw [hw1]; exact extX
  rw [← hw1]
  clear hw1
  have hcx1 := Ext.keep hE1 hcx
  by_cases hx0 : x < 0
  · have HR := Lib.hid (show depOf s r k a x = none by unfold depOf; rw [if_pos hx0])
    go_quiet (fail)
    go_wp2
    refine bodyPost_ret (v := .tuple #[.agg #[.slice none 0 0, .slice none 0 0, .int .i64 0, .int .i64 0], .bool false]) (by simp [results, Try.results66, go_sem, hp0, hp1, hp2, hp3, hpf]) rfl ?_
    rw [HR.out]
    exact ⟨none, 0, 0, none, 0, 0, 0, 0, rfl, (fun q e => by cases e), by exact extX⟩
  · have hd0 : decide (x < 0) = false := by simpa using hx0
    cases hdf : dfd s x with
    | false =>
      have HR := Lib.hid (show depOf s r k a x = none by unfold depOf; rw [if_neg hx0, if_pos hdf])
      have HD := Lib.hid hdf
      clear hdf
      refine wp_region_held_drew (S := (fun w' => w'.cell? ⟨w.heap.size, 0, none⟩ = some (.slice A n c) ∧ w'.cell? ⟨w.heap.size, 1, none⟩ = some (.slice (some ⟨b, o, none⟩) m d) ∧ w'.cell? ⟨w.heap.size + 1 + 1, 1, none⟩ = some (.slice (some ⟨b2, o2, none⟩) m2 c2) ∧ w'.cell? ⟨b2, o2 + a, none⟩ = some (.int .i64 x) ∧ Ext w1 w')) (by kernel_rfl) ?_ (fun hH => ?_)
      · exact ⟨hs0, hs1, hq1, hcx1, (Ext.refl w1).drew⟩
      refine wpAnyH_take_dst (i := 0) (v := .pointer (some ⟨w.heap.size + 1 + 1, 1, none⟩)) (d := some 15) rfl rfl (by kernel_rfl) (by kernel_rfl) (by kernel_rfl) (fun _ _ _ h => h) (Or.inl ⟨by rfl, ?_⟩) hH ?_
      · (intro w hSw; (try dsimp only at hSw); go_split_ands; go_simp; try with_reducible rfl)
      try simp only [Act.put, List.setIfInBounds_toArray, List.set_cons_zero, List.set_cons_succ]
      refine wpAnyH_take_dst (i := 1) (v := .slice (some ⟨b2, o2, none⟩) m2 c2) (d := some 16) rfl rfl (by kernel_rfl) (by kernel_rfl) (by kernel_rfl) (fun _ _ _ h => h) (Or.inl ⟨by rfl, ?_⟩) hH ?_
      · (intro w hSw; (try dsimp only at hSw); go_split_ands; go_simp; try with_reducible rfl)
      try simp only [Act.put, List.setIfInBounds_toArray, List.set_cons_zero, List.set_cons_succ]
      refine wpAnyH_take_dst (i := 2) (v := .int .i64 (a : Int)) (d := some 17) rfl rfl (by kernel_rfl) (by kernel_rfl) (by kernel_rfl) (fun _ _ _ h => h) (Or.inl ⟨by rfl, ?_⟩) hH ?_
      · (intro w hSw; (try dsimp only at hSw); go_split_ands; go_simp; try with_reducible rfl)
      try simp only [Act.put, List.setIfInBounds_toArray, List.set_cons_zero, List.set_cons_succ]
      refine wpAnyH_take_dst (i := 3) (v := .pointer (some ⟨b2, o2 + a, none⟩)) (d := some 18) rfl rfl (by kernel_rfl) (by kernel_rfl) (by kernel_rfl) (fun _ _ _ h => h) (Or.inl ⟨by rfl, ?_⟩) hH ?_
      · (intro w hSw; (try dsimp only at hSw); go_split_ands; go_simp; try with_reducible rfl)
      try simp only [Act.put, List.setIfInBounds_toArray, List.set_cons_zero, List.set_cons_succ]
      refine wpAnyH_take_dst (i := 4) (v := .int .i64 x) (d := some 19) rfl rfl (by kernel_rfl) (by kernel_rfl) (by kernel_rfl) (fun _ _ _ h => h) (Or.inl ⟨by rfl, ?_⟩) hH ?_
      · (intro w hSw; (try dsimp only at hSw); go_split_ands; go_simp; try with_reducible rfl)
      try simp only [Act.put, List.setIfInBounds_toArray, List.set_cons_zero, List.set_cons_succ]
      refine wpAnyH_take_dst (i := 5) (v := .bool false) (d := some 20) rfl rfl (by kernel_rfl) (by kernel_rfl) (by kernel_rfl) (fun _ _ _ h => h) (Or.inl ⟨by rfl, ?_⟩) hH ?_
      · (intro w hSw; (try dsimp only at hSw); go_split_ands; go_simp; try with_reducible rfl)
      try simp only [Act.put, List.setIfInBounds_toArray, List.set_cons_zero, List.set_cons_succ]
      refine wpAnyH_take_dst (i := 6) (v := .bool false) (d := some 21) rfl rfl (by kernel_rfl) (by kernel_rfl) (by kernel_rfl) (fun _ _ _ h => h) (Or.inl ⟨by rfl, ?_⟩) hH ?_
      · (intro w hSw; (try dsimp only at hSw); go_split_ands; go_simp; try with_reducible rfl)
      try simp only [Act.put, List.setIfInBounds_toArray, List.set_cons_zero, List.set_cons_succ]
      refine wpAnyH_take_dst (i := 7) (v := .agg #[.slice A n c, .slice (some ⟨b, o, none⟩) m d]) (d := some 22) rfl rfl (by kernel_rfl) (by kernel_rfl) (by kernel_rfl) (fun _ _ _ h => h) (Or.inl ⟨by rfl, ?_⟩) hH ?_
      · (intro w hSw; (try dsimp only at hSw); go_split_ands; go_simp; try with_reducible rfl)
      try simp only [Act.put, List.setIfInBounds_toArray, List.set_cons_zero, List.set_cons_succ]
      refine wpAnyH_take_dst (i := 8) (v := .pointer (some ⟨w.heap.size + 1 + 1, 1, none⟩)) (d := some 23) rfl rfl (by kernel_rfl) (by kernel_rfl) (by kernel_rfl) (fun _ _ _ h => h) (Or.inl ⟨by rfl, ?_⟩) hH ?_
      · (intro w hSw; (try dsimp only at hSw); go_split_ands; go_simp; try with_reducible rfl)
      try simp only [Act.put, List.setIfInBounds_toArray, List.set_cons_zero, List.set_cons_succ]
      refine wpAnyH_take_dst (i := 9) (v := .slice (some ⟨b2, o2, none⟩) m2 c2) (d := some 24) rfl rfl (by kernel_rfl) (by kernel_rfl) (by kernel_rfl) (fun _ _ _ h => h) (Or.inl ⟨by rfl, ?_⟩) hH ?_
      · (intro w hSw; (try dsimp only at hSw); go_split_ands; go_simp; try with_reducible rfl)
      try simp only [Act.put, List.setIfInBounds_toArray, List.set_cons_zero, List.set_cons_succ]
      refine wpAnyH_take_dst (i := 10) (v := .int .i64 (a : Int)) (d := some 25) rfl rfl (by kernel_rfl) (by kernel_rfl) (by kernel_rfl) (fun _ _ _ h => h) (Or.inl ⟨by rfl, ?_⟩) hH ?_
      · (intro w hSw; (try dsimp only at hSw); go_split_ands; go_simp; try with_reducible rfl)
      try simp only [Act.put, List.setIfInBounds_toArray, List.set_cons_zero, List.set_cons_succ]
      refine wpAnyH_take_dst (i := 11) (v := .pointer (some ⟨b2, o2 + a, none⟩)) (d := some 26) rfl rfl (by kernel_rfl) (by kernel_rfl) (by kernel_rfl) (fun _ _ _ h => h) (Or.inl ⟨by rfl, ?_⟩) hH ?_
      · (intro w hSw; (try dsimp only at hSw); go_split_ands; go_simp; try with_reducible rfl)
      try simp only [Act.put, List.setIfInBounds_toArray, List.set_cons_zero, List.set_cons_succ]
      refine wpAnyH_take_dst (i := 12) (v := .int .i64 x) (d := some 27) rfl rfl (by kernel_rfl) (by kernel_rfl) (by kernel_rfl) (fun _ _ _ h => h) (Or.inl ⟨by rfl, ?_⟩) hH ?_
      · (intro w hSw; (try dsimp only at hSw); go_split_ands; go_simp; try with_reducible rfl)
      try simp only [Act.put, List.setIfInBounds_toArray, List.set_cons_zero, List.set_cons_succ]
      refine wpAnyH_ready (rs := [13]) (by kernel_rfl) (by simp) ?_
      refine AllReadyH.cons rfl (fun K hK => ?_) AllReadyH.nil
      rw [if_pos (by rfl)]
      go_wp2_with (go_at_call 83; (with_reducible refine ((c_isDefined' HD.out (RdSyK.mk (RI.ext HA.out (Ext.trans hE1 hH.2.2.2.2)) (RR.ext HB.out (Ext.trans hE1 hH.2.2.2.2))) HS.out)).mono ?_); rintro e w9 ⟨rfl, hE9⟩)
      refine hK.out _ _ ⟨Ext.keep hE9 hH.1, Ext.keep hE9 hH.2.1, Ext.keep hE9 hH.2.2.1, Ext.keep hE9 hH.2.2.2.1, Ext.trans hH.2.2.2.2 hE9⟩ (fun hH9 => ?_)
      clear hK hH; have hH := hH9; clear hH9
      try simp only [Act.put, List.setIfInBounds_toArray, List.set_cons_zero, List.set_cons_succ]
      refine wpAnyH_take_dst (i := 14) (v := .bool true) (d := some 29) rfl rfl (by kernel_rfl) (by kernel_rfl) (by kernel_rfl) (fun _ _ _ h => h) (Or.inl ⟨by rfl, ?_⟩) hH ?_
      · (intro w hSw; (try dsimp only at hSw); go_split_ands; go_simp; try with_reducible rfl)
      try simp only [Act.put, List.setIfInBounds_toArray, List.set_cons_zero, List.set_cons_succ]
      refine wpAnyH_take_dst (i := 15) (v := .bool true) (d := some 30) rfl rfl (by kernel_rfl) (by kernel_rfl) (by kernel_rfl) (fun _ _ _ h => h) (Or.inl ⟨by rfl, ?_⟩) hH ?_
      · (intro w hSw; (try dsimp only at hSw); go_split_ands; go_simp; try with_reducible rfl)
      try simp only [Act.put, List.setIfInBounds_toArray, List.set_cons_zero, List.set_cons_succ]
      refine wpAnyH_done (by kernel_rfl) ?_ _
      have hE9 := hH.2.2.2.2
      obtain ⟨k0, k1, k2, k3, kf⟩ : w9.cell? ⟨w.heap.size + 1, 0, none⟩ = some (.slice none 0 0) ∧ w9.cell? ⟨w.heap.size + 1, 1, none⟩ = some (.slice none 0 0) ∧ w9.cell? ⟨w.heap.size + 1, 2, none⟩ = some (.int .i64 0) ∧ w9.cell? ⟨w.heap.size + 1, 3, none⟩ = some (.int .i64 0) ∧ ∀ j, w9.frozen? ⟨w.heap.size + 1, j, none⟩ = false :=
        ⟨Ext.keep hE9 hp0, Ext.keep hE9 hp1, Ext.keep hE9 hp2, Ext.keep hE9 hp3, fun j => (Below.frozen (p := ⟨w.heap.size + 1, j, none⟩) hE9 (by have := World.block_lt_of_cell? w1 _ hp0; exact this)).trans (hpf j)⟩
      have hEw9 : Ext w w9 := Ext.trans hE1 hE9
      clear hH
      go_wp2
      refine bodyPost_ret (v := .tuple #[.agg #[.slice none 0 0, .slice none 0 0, .int .i64 0, .int .i64 0], .bool false]) (by simp [results, Try.results66, go_sem, k0, k1, k2, k3, kf]) rfl ?_
      rw [HR.out]
      exact ⟨none, 0, 0, none, 0, 0, 0, 0, rfl, (fun q e => by cases e), by exact extX⟩
    | true =>
      have HD := Lib.hid hdf
      refine wp_region_held_drew (S := (fun w' => w'.cell? ⟨w.heap.size, 0, none⟩ = some (.slice A n c) ∧ w'.cell? ⟨w.heap.size, 1, none⟩ = some (.slice (some ⟨b, o, none⟩) m d) ∧ w'.cell? ⟨w.heap.size + 1 + 1, 1, none⟩ = some (.slice (some ⟨b2, o2, none⟩) m2 c2) ∧ w'.cell? ⟨b2, o2 + a, none⟩ = some (.int .i64 x) ∧ Ext w1 w')) (by kernel_rfl) ?_ (fun hH => ?_)
      · exact ⟨hs0, hs1, hq1, hcx1, (Ext.refl w1).drew⟩
      refine wpAnyH_take_dst (i := 0) (v := .pointer (some ⟨w.heap.size + 1 + 1, 1, none⟩)) (d := some 15) rfl rfl (by kernel_rfl) (by kernel_rfl) (by kernel_rfl) (fun _ _ _ h => h) (Or.inl ⟨by rfl, ?_⟩) hH ?_
      · (intro w hSw; (try dsimp only at hSw); go_split_ands; go_simp; try with_reducible rfl)
      try simp only [Act.put, List.setIfInBounds_toArray, List.set_cons_zero, List.set_cons_succ]
      refine wpAnyH_take_dst (i := 1) (v := .slice (some ⟨b2, o2, none⟩) m2 c2) (d := some 16) rfl rfl (by kernel_rfl) (by kernel_rfl) (by kernel_rfl) (fun _ _ _ h => h) (Or.inl ⟨by rfl, ?_⟩) hH ?_
      · (intro w hSw; (try dsimp only at hSw); go_split_ands; go_simp; try with_reducible rfl)
      try simp only [Act.put, List.setIfInBounds_toArray, List.set_cons_zero, List.set_cons_succ]
      refine wpAnyH_take_dst (i := 2) (v := .int .i64 (a : Int)) (d := some 17) rfl rfl (by kernel_rfl) (by kernel_rfl) (by kernel_rfl) (fun _ _ _ h => h) (Or.inl ⟨by rfl, ?_⟩) hH ?_
      · (intro w hSw; (try dsimp only at hSw); go_split_ands; go_simp; try with_reducible rfl)
      try simp only [Act.put, List.setIfInBounds_toArray, List.set_cons_zero, List.set_cons_succ]
      refine wpAnyH_take_dst (i := 3) (v := .pointer (some ⟨b2, o2 + a, none⟩)) (d := some 18) rfl rfl (by kernel_rfl) (by kernel_rfl) (by kernel_rfl) (fun _ _ _ h => h) (Or.inl ⟨by rfl, ?_⟩) hH ?_
      · (intro w hSw; (try dsimp only at hSw); go_split_ands; go_simp; try with_reducible rfl)
      try simp only [Act.put, List.setIfInBounds_toArray, List.set_cons_zero, List.set_cons_succ]
      refine wpAnyH_take_dst (i := 4) (v := .int .i64 x) (d := some 19) rfl rfl (by kernel_rfl) (by kernel_rfl) (by kernel_rfl) (fun _ _ _ h => h) (Or.inl ⟨by rfl, ?_⟩) hH ?_
      · (intro w hSw; (try dsimp only at hSw); go_split_ands; go_simp; try with_reducible rfl)
      try simp only [Act.put, List.setIfInBounds_toArray, List.set_cons_zero, List.set_cons_succ]
      refine wpAnyH_take_dst (i := 5) (v := .bool false) (d := some 20) rfl rfl (by kernel_rfl) (by kernel_rfl) (by kernel_rfl) (fun _ _ _ h => h) (Or.inl ⟨by rfl, ?_⟩) hH ?_
      · (intro w hSw; (try dsimp only at hSw); go_split_ands; go_simp; try with_reducible rfl)
      try simp only [Act.put, List.setIfInBounds_toArray, List.set_cons_zero, List.set_cons_succ]
      refine wpAnyH_take_dst (i := 6) (v := .bool false) (d := some 21) rfl rfl (by kernel_rfl) (by kernel_rfl) (by kernel_rfl) (fun _ _ _ h => h) (Or.inl ⟨by rfl, ?_⟩) hH ?_
      · (intro w hSw; (try dsimp only at hSw); go_split_ands; go_simp; try with_reducible rfl)
      try simp only [Act.put, List.setIfInBounds_toArray, List.set_cons_zero, List.set_cons_succ]
      refine wpAnyH_take_dst (i := 7) (v := .agg #[.slice A n c, .slice (some ⟨b, o, none⟩) m d]) (d := some 22) rfl rfl (by kernel_rfl) (by kernel_rfl) (by kernel_rfl) (fun _ _ _ h => h) (Or.inl ⟨by rfl, ?_⟩) hH ?_
      · (intro w hSw; (try dsimp only at hSw); go_split_ands; go_simp; try with_reducible rfl)
      try simp only [Act.put, List.setIfInBounds_toArray, List.set_cons_zero, List.set_cons_succ]
      refine wpAnyH_take_dst (i := 8) (v := .pointer (some ⟨w.heap.size + 1 + 1, 1, none⟩)) (d := some 23) rfl rfl (by kernel_rfl) (by kernel_rfl) (by kernel_rfl) (fun _ _ _ h => h) (Or.inl ⟨by rfl, ?_⟩) hH ?_
      · (intro w hSw; (try dsimp only at hSw); go_split_ands; go_simp; try with_reducible rfl)
      try simp only [Act.put, List.setIfInBounds_toArray, List.set_cons_zero, List.set_cons_succ]
      refine wpAnyH_take_dst (i := 9) (v := .slice (some ⟨b2, o2, none⟩) m2 c2) (d := some 24) rfl rfl (by kernel_rfl) (by kernel_rfl) (by kernel_rfl) (fun _ _ _ h => h) (Or.inl ⟨by rfl, ?_⟩) hH ?_
      · (intro w hSw; (try dsimp only at hSw); go_split_ands; go_simp; try with_reducible rfl)
      try simp only [Act.put, List.setIfInBounds_toArray, List.set_cons_zero, List.set_cons_succ]
      refine wpAnyH_take_dst (i := 10) (v := .int .i64 (a : Int)) (d := some 25) rfl rfl (by kernel_rfl) (by kernel_rfl) (by kernel_rfl) (fun _ _ _ h => h) (Or.inl ⟨by rfl, ?_⟩) hH ?_
      · (intro w hSw; (try dsimp only at hSw); go_split_ands; go_simp; try with_reducible rfl)
      try simp only [Act.put, List.setIfInBounds_toArray, List.set_cons_zero, List.set_cons_succ]
      refine wpAnyH_take_dst (i := 11) (v := .pointer (some ⟨b2, o2 + a, none⟩)) (d := some 26) rfl rfl (by kernel_rfl) (by kernel_rfl) (by kernel_rfl) (fun _ _ _ h => h) (Or.inl ⟨by rfl, ?_⟩) hH ?_
      · (intro w hSw; (try dsimp only at hSw); go_split_ands; go_simp; try with_reducible rfl)
      try simp only [Act.put, List.setIfInBounds_toArray, List.set_cons_zero, List.set_cons_succ]
      refine wpAnyH_take_dst (i := 12) (v := .int .i64 x) (d := some 27) rfl rfl (by kernel_rfl) (by kernel_rfl) (by kernel_rfl) (fun _ _ _ h => h) (Or.inl ⟨by rfl, ?_⟩) hH ?_
      · (intro w hSw; (try dsimp only at hSw); go_split_ands; go_simp; try with_reducible rfl)
      try simp only [Act.put, List.setIfInBounds_toArray, List.set_cons_zero, List.set_cons_succ]
      refine wpAnyH_ready (rs := [13]) (by kernel_rfl) (by simp) ?_
      refine AllReadyH.cons rfl (fun K hK => ?_) AllReadyH.nil
      rw [if_pos (by rfl)]
      go_wp2_with (go_at_call 83; (with_reducible refine ((c_isDefined' HD.out (RdSyK.mk (RI.ext HA.out (Ext.trans hE1 hH.2.2.2.2)) (RR.ext HB.out (Ext.trans hE1 hH.2.2.2.2))) HS.out)).mono ?_); rintro e w9 ⟨rfl, hE9⟩)
      refine hK.out _ _ ⟨Ext.keep hE9 hH.1, Ext.keep hE9 hH.2.1, Ext.keep hE9 hH.2.2.1, Ext.keep hE9 hH.2.2.2.1, Ext.trans hH.2.2.2.2 hE9⟩ (fun hH9 => ?_)
      clear hK hH; have hH := hH9; clear hH9
      try simp only [Act.put, List.setIfInBounds_toArray, List.set_cons_zero, List.set_cons_succ]
      refine wpAnyH_take_dst (i := 14) (v := .bool false) (d := some 29) rfl rfl (by kernel_rfl) (by kernel_rfl) (by kernel_rfl) (fun _ _ _ h => h) (Or.inl ⟨by rfl, ?_⟩) hH ?_
      · (intro w hSw; (try dsimp only at hSw); go_split_ands; go_simp; try with_reducible rfl)
      try simp only [Act.put, List.setIfInBounds_toArray, List.set_cons_zero, List.set_cons_succ]
      refine wpAnyH_take_dst (i := 15) (v := .bool false) (d := some 30) rfl rfl (by kernel_rfl) (by kernel_rfl) (by kernel_rfl) (fun _ _ _ h => h) (Or.inl ⟨by rfl, ?_⟩) hH ?_
      · (intro w hSw; (try dsimp only at hSw); go_split_ands; go_simp; try with_reducible rfl)
      try simp only [Act.put, List.setIfInBounds_toArray, List.set_cons_zero, List.set_cons_succ]
      refine wpAnyH_done (by kernel_rfl) ?_ _
      have hE9 := hH.2.2.2.2
      obtain ⟨k0, k1, k2, k3, kf⟩ : w9.cell? ⟨w.heap.size + 1, 0, none⟩ = some (.slice none 0 0) ∧ w9.cell? ⟨w.heap.size + 1, 1, none⟩ = some (.slice none 0 0) ∧ w9.cell? ⟨w.heap.size + 1, 2, none⟩ = some (.int .i64 0) ∧ w9.cell? ⟨w.heap.size + 1, 3, none⟩ = some (.int .i64 0) ∧ ∀ j, w9.frozen? ⟨w.heap.size + 1, j, none⟩ = false :=
        ⟨Ext.keep hE9 hp0, Ext.keep hE9 hp1, Ext.keep hE9 hp2, Ext.keep hE9 hp3, fun j => (Below.frozen (p := ⟨w.heap.size + 1, j, none⟩) hE9 (by have := World.block_lt_of_cell? w1 _ hp0; exact this)).trans (hpf j)⟩
      have m0 := hH.1
      have m1' := hH.2.2.1
      have m2' := Ext.keep hE9 hq0
      have hEw9 : Ext w w9 := Ext.trans hE1 hE9
      clear hH
      go_wp2_with fail
      (with_reducible refine (c_subAt (u := subT s.ar r.r a) (p := a) (RdSig.mk (RI.ext HA.out hEw9)) (RdIc.mk HC2.out (RI.ext HR2.out hEw9)) HSG.out HOK.out HDR.out).mono ?_)
      rintro e3 w3 ⟨A5, n5, c5, rfl, hcap5, hr5, hE3⟩
      have HR5 := Lib.hid hr5
      have j0 := Ext.keep hE3 m0
      have j1 := Ext.keep hE3 m2'
      have hEw3 := Ext.trans hEw9 hE3
      clear hr5 hcap5
      go_wp2_with fail
      (with_reducible refine (c_hasSub (u := (subT s.ar r.r a).flat) (RdSig.mk (RI.ext HA.out hEw3)) (RdIc.mk HC1.out (RI.ext HR1.out hEw3)) (RdI.mk HR5.out) HTL.out).mono ?_)
      cases hha : has s.ar r.l (subT s.ar r.r a).flat with
      | true =>
        have HR := Lib.hid (show depOf s r k a x = none by unfold depOf; rw [if_neg (by omega), if_neg (by rw [hdf]; simp), if_pos hha])
        rintro e4 w4 ⟨rfl, hE4⟩
        have hE94 := Ext.trans hE3 hE4
        obtain ⟨k0, k1, k2, k3, kf⟩ : w4.cell? ⟨w.heap.size + 1, 0, none⟩ = some (.slice none 0 0) ∧ w4.cell? ⟨w.heap.size + 1, 1, none⟩ = some (.slice none 0 0) ∧ w4.cell? ⟨w.heap.size + 1, 2, none⟩ = some (.int .i64 0) ∧ w4.cell? ⟨w.heap.size + 1, 3, none⟩ = some (.int .i64 0) ∧ ∀ j, w4.frozen? ⟨w.heap.size + 1, j, none⟩ = false :=
          ⟨Ext.keep hE94 k0, Ext.keep hE94 k1, Ext.keep hE94 k2, Ext.keep hE94 k3, fun j => (Below.frozen (p := ⟨w.heap.size + 1, j, none⟩) hE94 (by have := World.block_lt_of_cell? w9 _ k0; exact this)).trans (kf j)⟩
        have hEw4 := Ext.trans hEw3 hE4
        go_wp2
        refine bodyPost_ret (v := .tuple #[.agg #[.slice none 0 0, .slice none 0 0, .int .i64 0, .int .i64 0], .bool false]) (by simp [results, Try.results66, go_sem, k0, k1, k2, k3, kf]) rfl ?_
        rw [HR.out]
        exact ⟨none, 0, 0, none, 0, 0, 0, 0, rfl, (fun q e => by cases e), by exact extX⟩
      | false =>
        have HR := Lib.hid (show depOf s r k a x = some ⟨r.l, (subT s.ar r.r a).flat, k, a⟩ by unfold depOf; rw [if_neg (by omega), if_neg (by rw [hdf]; simp), if_neg (by rw [hha]; simp)])
        rintro e4 w4 ⟨rfl, hE4⟩
        have i1 := Ext.keep hE4 j1
        have hEw4 := Ext.trans hEw3 hE4
        go_wp2_with fail
        (with_reducible refine (c_clone (RI.ext HR1.out hEw4)).mono ?_)
        rintro e5 w5 ⟨A6, n6, c6, rfl, hO6, hE5⟩
        have HR6 := Lib.hid hO6.ri
        have hbd6 := hO6.bd
        have hEw5 := Ext.trans hEw4 hE5
        have HO6 := Lib.hid hO6
        clear hO6
        go_wp2_with fail
        (with_reducible refine (c_clone (RI.ext HR5.out (Ext.trans hE4 hE5))).mono ?_)
        rintro e6 w6 ⟨A7, n7, c7, rfl, hO7, hE6⟩
        have HR7 := Lib.hid hO7.ri
        have hbd7 := hO7.bd
        have hEw6 := Ext.trans hEw5 hE6
        have hE96 := Ext.trans hE3 (Ext.trans hE4 (Ext.trans hE5 hE6))
        obtain ⟨k0, k1, k2, k3, kf⟩ : w6.cell? ⟨w.heap.size + 1, 0, none⟩ = some (.slice none 0 0) ∧ w6.cell? ⟨w.heap.size + 1, 1, none⟩ = some (.slice none 0 0) ∧ w6.cell? ⟨w.heap.size + 1, 2, none⟩ = some (.int .i64 0) ∧ w6.cell? ⟨w.heap.size + 1, 3, none⟩ = some (.int .i64 0) ∧ ∀ j, w6.frozen? ⟨w.heap.size + 1, j, none⟩ = false :=
          ⟨Ext.keep hE96 k0, Ext.keep hE96 k1, Ext.keep hE96 k2, Ext.keep hE96 k3, fun j => (Below.frozen (p := ⟨w.heap.size + 1, j, none⟩) hE96 (by have := World.block_lt_of_cell? w9 _ k0; exact this)).trans (kf j)⟩
        have hlt9 : w.heap.size + 1 < w9.heap.size := by
          have h1 := World.block_lt_of_cell? w1 _ hp0
          have h2 := hE9.size
          have h3 : w.heap.size + 1 < w1.heap.size := h1
          omega
        have hs49 : w9.heap.size ≤ w4.heap.size := (Ext.trans hE3 hE4).size
        have hs59 : w4.heap.size ≤ w5.heap.size := hE5.size
        have HO7 := Lib.hid hO7
        clear hO7
        go_wp2_with fail
        refine bodyPost_ret (v := .tuple #[.agg #[.slice A6 n6 c6, .slice A7 n7 c7, .int .i64 (k : Int), .int .i64 (a : Int)], .bool true]) (by simp [results, Try.results66, go_sem, k0, k1, k2, k3, kf]) rfl ?_
        rw [HR.out]
        refine ⟨A6, n6, c6, A7, n7, c7, _, _, rfl, fun q e => ?_, by exact extX⟩
        cases e
        refine ⟨rfl, rfl, ?_, ?_, fun b o s b' o' s' e1 e2 => by have := (hbd6 b o s e1).2; have := (hbd7 b' o' s' e2).1; omega⟩
        · exact OwI.set4 ((HO6.out.ext hE6).lower (sz_of hEw4)) (fun b o s e => by have := (hbd6 b o s e).1; omega)
        · exact OwI.set4 (HO7.out.lower (sz_of hEw5)) (fun b o s e => by have := (hbd7 b o s e).1; omega)
set_option maxRecDepth 100000 in
set_option maxHeartbeats 4000000 in
theorem c_l17AtO {v0 : Value} {s : Sy} {k a : Nat} {r : Ru} {x : Int} {w : World} (h0 : RdSyC w v0 s) (hs : SysP s) (hr : s.rs[k]? = some r) (hx : r.r[a]? = some x) :
    Calls Try.prog 40 #[v0, (.int .i64 (k : Int)), (.int .i64 (a : Int))] w (NewDw w (depOf s r k a x)) := by
  obtain ⟨A, n, c, B, m, d, rfl, ha, hb⟩ := h0
  have hkm : k < m := by have := (List.getElem?_eq_some_iff.1 hr).1; rw [hb.len] at this; exact this
  obtain ⟨b, o, r', A1, m1, c1, A2, m2, c2, rfl, hx', hd1, hd2, hr1, hr2, hcap1, hcap2⟩ := RR.at_ hb hkm
  rw [hr] at hx'; cases hx'
  have hrp := hs.2.2 k r hr
  have ham : a < m2 := by have := (List.getElem?_eq_some_iff.1 hx).1; rw [hr2.len] at this; exact this
  obtain ⟨b2, o2, x', rfl, hxx, hcx⟩ := RI.at_ hr2 ham
  rw [hx] at hxx; cases hxx
  obtain ⟨hok, rest, hdr⟩ := subT_ok hrp.2.1 (show a < r.r.length from (List.getElem?_eq_some_iff.1 hx).1)
  have HA := Lib.hid ha
  have HB := Lib.hid hb
  have HS := Lib.hid hs
  have HSG := Lib.hid (show SigP s.ar from hs.1)
  have HR1 := Lib.hid hr1
  have HR2 := Lib.hid hr2
  have HC1 := Lib.hid (hcap1 rfl)
  have HC2 := Lib.hid (hcap2 rfl)
  have HTL := Lib.hid hrp.1
  have HOK := Lib.hid hok
  have HDR := Lib.hid hdr
  have hki : (k : Int) < (m : Int) := by omega
  have hk0 : (0 : Int) ≤ (k : Int) := by omega
  have hai : (a : Int) < (m2 : Int) := by omega
  have ha0 : (0 : Int) ≤ (a : Int) := by omega
  have hbl : b < w.heap.size := World.block_lt_of_cell? w _ hd1
  have hbl2 : b2 < w.heap.size := World.block_lt_of_cell? w _ hcx
  clear ha hb hs hr1 hr2 hcap1 hcap2 hrp hok hdr
  go_enter Try.func40, Try.ntmps40
  go_wp2_with fail
  obtain ⟨w1, hw1⟩ : ∃ w1, w1 = ((w.alloc (.cells #[.slice A n c, .slice (some ⟨b, o, none⟩) m d] 34)).alloc (.cells #[.slice none 0 0, .slice none 0 0, .int .i64 0, .int .i64 0] 51)).alloc (.cells #[.slice A1 m1 c1, .slice (some ⟨b2, o2, none⟩) m2 c2] 75) := ⟨_, rfl⟩
  have hs0 : w1.cell? ⟨w.heap.size, 0, none⟩ = some (.slice A n c) := by rw [hw1]; simp [go_sem]
  have hs1 : w1.cell? ⟨w.heap.size, 1, none⟩ = some (.slice (some ⟨b, o, none⟩) m d) := by rw [hw1]; simp [go_sem]
  have hp0 : w1.cell? ⟨w.heap.size + 1, 0, none⟩ = some (.slice none 0 0) := by rw [hw1]; simp [go_sem]
  have hp1 : w1.cell? ⟨w.heap.size + 1, 1, none⟩ = some (.slice none 0 0) := by rw [hw1]; simp [go_sem]
  have hp2 : w1.cell? ⟨w.heap.size + 1, 2, none⟩ = some (.int .i64 0) := by rw [hw1]; simp [go_sem]
  have hp3 : w1.cell? ⟨w.heap.size + 1, 3, none⟩ = some (.int .i64 0) := by rw [hw1]; simp [go_sem]
  have hpf : ∀ j, w1.frozen? ⟨w.heap.size + 1, j, none⟩ = false := by intro j; rw [hw1]; simp [go_sem]
  have hq0 : w1.cell? ⟨w.heap.size + 1 + 1, 0, none⟩ = some (.slice A1 m1 c1) := by rw [hw1]; simp [go_sem]
  have hq1 : w1.cell? ⟨w.heap.size + 1 + 1, 1, none⟩ = some (.slice (some ⟨b2, o2, none⟩) m2 c2) := by rw [hw1]; simp [go_sem]
  have hE1 : Ext w w1 := by rw [hw1]; exact extX
  rw [← hw1]
  clear hw1
  have hcx1 := Ext.keep hE1 hcx
  by_cases hx0 : x < 0
  · have HR := Lib.hid (show depOf s r k a x = none by unfold depOf; rw [if_pos hx0])
    go_quiet (fail)
    go_wp2
    refine bodyPost_ret (v := .tuple #[.agg #[.slice none 0 0, .slice none 0 0, .int .i64 0, .int .i64 0], .bool false]) (by simp [results, Try.results40, go_sem, hp0, hp1, hp2, hp3, hpf]) rfl ?_
    rw [HR.out]
    exact ⟨none, 0, 0, none, 0, 0, 0, 0, rfl, (fun q e => by cases e), by exact extX⟩
  · have hd0 : decide (x < 0) = false := by simpa using hx0
    cases hdf : dfd s x with
    | false =>
      have HR := Lib.hid (show depOf s r k a x = none by unfold depOf; rw [if_neg hx0, if_pos hdf])
      have HD := Lib.hid hdf
      clear hdf
      refine wp_region_held_drew (S := (fun w' => w'.cell? ⟨w.heap.size, 0, none⟩ = some (.slice A n c) ∧ w'.cell? ⟨w.heap.size, 1, none⟩ = some (.slice (some ⟨b, o, none⟩) m d) ∧ w'.cell? ⟨w.heap.size + 1 + 1, 1, none⟩ = some (.slice (some ⟨b2, o2, none⟩) m2 c2) ∧ w'.cell? ⟨b2, o2 + a, none⟩ = some (.int .i64 x) ∧ Ext w1 w')) (by kernel_rfl) ?_ (fun hH => ?_)
      · exact ⟨hs0, hs1, hq1, hcx1, (Ext.refl w1).drew⟩
      refine wpAnyH_take_dst (i := 0) (v := .pointer (some ⟨w.heap.size + 1 + 1, 1, none⟩)) (d := some 15) rfl rfl (by kernel_rfl) (by kernel_rfl) (by kernel_rfl) (fun _ _ _ h => h) (Or.inl ⟨by rfl, ?_⟩) hH ?_
      · (intro w hSw; (try dsimp only at hSw); go_split_ands; go_simp; try with_reducible rfl)
      try simp only [Act.put, List.setIfInBounds_toArray, List.set_cons_zero, List.set_cons_succ]
      refine wpAnyH_take_dst (i := 1) (v := .slice (some ⟨b2, o2, none⟩) m2 c2) (d := some 16) rfl rfl (by kernel_rfl) (by kernel_rfl) (by kernel_rfl) (fun _ _ _ h => h) (Or.inl ⟨by rfl, ?_⟩) hH ?_
      · (intro w hSw; (try dsimp only at hSw); go_split_ands; go_simp; try with_reducible rfl)
      try simp only [Act.put, List.setIfInBounds_toArray, List.set_cons_zero, List.set_cons_succ]
      refine wpAnyH_take_dst (i := 2) (v := .int .i64 (a : Int)) (d := some 17) rfl rfl (by kernel_rfl) (by kernel_rfl) (by kernel_rfl) (fun _ _ _ h => h) (Or.inl ⟨by rfl, ?_⟩) hH ?_
      · (intro w hSw; (try dsimp only at hSw); go_split_ands; go_simp; try with_reducible rfl)
      try simp only [Act.put, List.setIfInBounds_toArray, List.set_cons_zero, List.set_cons_succ]
      refine wpAnyH_take_dst (i := 3) (v := .pointer (some ⟨b2, o2 + a, none⟩)) (d := some 18) rfl rfl (by kernel_rfl) (by kernel_rfl) (by kernel_rfl) (fun _ _ _ h => h) (Or.inl ⟨by rfl, ?_⟩) hH ?_
      · (intro w hSw; (try dsimp only at hSw); go_split_ands; go_simp; try with_reducible rfl)
      try simp only [Act.put, List.setIfInBounds_toArray, List.set_cons_zero, List.set_cons_succ]
      refine wpAnyH_take_dst (i := 4) (v := .int .i64 x) (d := some 19) rfl rfl (by kernel_rfl) (by kernel_rfl) (by kernel_rfl) (fun _ _ _ h => h) (Or.inl ⟨by rfl, ?_⟩) hH ?_
      · (intro w hSw; (try dsimp only at hSw); go_split_ands; go_simp; try with_reducible rfl)
      try simp only [Act.put, List.setIfInBounds_toArray, List.set_cons_zero, List.set_cons_succ]
      refine wpAnyH_take_dst (i := 5) (v := .bool false) (d := some 20) rfl rfl (by kernel_rfl) (by kernel_rfl) (by kernel_rfl) (fun _ _ _ h => h) (Or.inl ⟨by rfl, ?_⟩) hH ?_
      · (intro w hSw; (try dsimp only at hSw); go_split_ands; go_simp; try with_reducible rfl)
      try simp only [Act.put, List.setIfInBounds_toArray, List.set_cons_zero, List.set_cons_succ]
      refine wpAnyH_take_dst (i := 6) (v := .bool false) (d := some 21) rfl rfl (by kernel_rfl) (by kernel_rfl) (by kernel_rfl) (fun _ _ _ h => h) (Or.inl ⟨by rfl, ?_⟩) hH ?_
      · (intro w hSw; (try dsimp only at hSw); go_split_ands; go_simp; try with_reducible rfl)
      try simp only [Act.put, List.setIfInBounds_toArray, List.set_cons_zero, List.set_cons_succ]
      refine wpAnyH_take_dst (i := 7) (v := .agg #[.slice A n c, .slice (some ⟨b, o, none⟩) m d]) (d := some 22) rfl rfl (by kernel_rfl) (by kernel_rfl) (by kernel_rfl) (fun _ _ _ h => h) (Or.inl ⟨by rfl, ?_⟩) hH ?_
      · (intro w hSw; (try dsimp only at hSw); go_split_ands; go_simp; try with_reducible rfl)
      try simp only [Act.put, List.setIfInBounds_toArray, List.set_cons_zero, List.set_cons_succ]
      refine wpAnyH_take_dst (i := 9) (v := .pointer (some ⟨w.heap.size + 1 + 1, 1, none⟩)) (d := some 24) rfl rfl (by kernel_rfl) (by kernel_rfl) (by kernel_rfl) (fun _ _ _ h => h) (Or.inl ⟨by rfl, ?_⟩) hH ?_
      · (intro w hSw; (try dsimp only at hSw); go_split_ands; go_simp; try with_reducible rfl)
      try simp only [Act.put, List.setIfInBounds_toArray, List.set_cons_zero, List.set_cons_succ]
      refine wpAnyH_take_dst (i := 10) (v := .slice (some ⟨b2, o2, none⟩) m2 c2) (d := some 25) rfl rfl (by kernel_rfl) (by kernel_rfl) (by kernel_rfl) (fun _ _ _ h => h) (Or.inl ⟨by rfl, ?_⟩) hH ?_
      · (intro w hSw; (try dsimp only at hSw); go_split_ands; go_simp; try with_reducible rfl)
      try simp only [Act.put, List.setIfInBounds_toArray, List.set_cons_zero, List.set_cons_succ]
      refine wpAnyH_take_dst (i := 11) (v := .int .i64 (a : Int)) (d := some 26) rfl rfl (by kernel_rfl) (by kernel_rfl) (by kernel_rfl) (fun _ _ _ h => h) (Or.inl ⟨by rfl, ?_⟩) hH ?_
      · (intro w hSw; (try dsimp only at hSw); go_split_ands; go_simp; try with_reducible rfl)
      try simp only [Act.put, List.setIfInBounds_toArray, List.set_cons_zero, List.set_cons_succ]
      refine wpAnyH_take_dst (i := 12) (v := .pointer (some ⟨b2, o2 + a, none⟩)) (d := some 27) rfl rfl (by kernel_rfl) (by kernel_rfl) (by kernel_rfl) (fun _ _ _ h => h) (Or.inl ⟨by rfl, ?_⟩) hH ?_
      · (intro w hSw; (try dsimp only at hSw); go_split_ands; go_simp; try with_reducible rfl)
      try simp only [Act.put, List.setIfInBounds_toArray, List.set_cons_zero, List.set_cons_succ]
      refine wpAnyH_take_dst (i := 13) (v := .int .i64 x) (d := some 28) rfl rfl (by kernel_rfl) (by kernel_rfl) (by kernel_rfl) (fun _ _ _ h => h) (Or.inl ⟨by rfl, ?_⟩) hH ?_
      · (intro w hSw; (try dsimp only at hSw); go_split_ands; go_simp; try with_reducible rfl)
      try simp only [Act.put, List.setIfInBounds_toArray, List.set_cons_zero, List.set_cons_succ]
      refine wpAnyH_ready (rs := [8]) (by kernel_rfl) (by simp) ?_
      refine AllReadyH.cons rfl (fun K hK => ?_) AllReadyH.nil
      rw [if_pos (by rfl)]
      go_wp2_with (go_at_call 61; (with_reducible refine ((c_l6Defined (s := s) (RdSyK.mk (RI.ext HA.out (Ext.trans hE1 hH.2.2.2.2)) (RR.ext HB.out (Ext.trans hE1 hH.2.2.2.2))) HS.out)).mono ?_); rintro e w8 ⟨A7, n7, c7, ys, rfl, hr7, hh7, hE9⟩)
      refine hK.out _ _ ⟨Ext.keep hE9 hH.1, Ext.keep hE9 hH.2.1, Ext.keep hE9 hH.2.2.1, Ext.keep hE9 hH.2.2.2.1, Ext.trans hH.2.2.2.2 hE9⟩ (fun hH9 => ?_)
      clear hK hH; have hH := hH9; clear hH9
      try simp only [Act.put, List.setIfInBounds_toArray, List.set_cons_zero, List.set_cons_succ]
      refine wpAnyH_ready (rs := [14]) (by kernel_rfl) (by simp) ?_
      refine AllReadyH.cons rfl (fun K hK => ?_) AllReadyH.nil
      rw [if_pos (by rfl)]
      go_wp2_with (go_at_call 60; (with_reducible refine ((c_l1Has' (x := x) ((HeadsTo.all hh7 x).trans HD.out) (RdI.mk hr7))).mono ?_); rintro e w9 ⟨rfl, hE9⟩)
      refine hK.out _ _ ⟨Ext.keep hE9 hH.1, Ext.keep hE9 hH.2.1, Ext.keep hE9 hH.2.2.1, Ext.keep hE9 hH.2.2.2.1, Ext.trans hH.2.2.2.2 hE9⟩ (fun hH9 => ?_)
      clear hK hH; have hH := hH9; clear hH9
      try simp only [Act.put, List.setIfInBounds_toArray, List.set_cons_zero, List.set_cons_succ]
      refine wpAnyH_take_dst (i := 15) (v := .bool true) (d := some 30) rfl rfl (by kernel_rfl) (by kernel_rfl) (by kernel_rfl) (fun _ _ _ h => h) (Or.inl ⟨by rfl, ?_⟩) hH ?_
      · (intro w hSw; (try dsimp only at hSw); go_split_ands; go_simp; try with_reducible rfl)
      try simp only [Act.put, List.setIfInBounds_toArray, List.set_cons_zero, List.set_cons_succ]
      refine wpAnyH_take_dst (i := 16) (v := .bool true) (d := some 31) rfl rfl (by kernel_rfl) (by kernel_rfl) (by kernel_rfl) (fun _ _ _ h => h) (Or.inl ⟨by rfl, ?_⟩) hH ?_
      · (intro w hSw; (try dsimp only at hSw); go_split_ands; go_simp; try with_reducible rfl)
      try simp only [Act.put, List.setIfInBounds_toArray, List.set_cons_zero, List.set_cons_succ]
      refine wpAnyH_done (by kernel_rfl) ?_ _
      have hE9 := hH.2.2.2.2
      obtain ⟨k0, k1, k2, k3, kf⟩ : w9.cell? ⟨w.heap.size + 1, 0, none⟩ = some (.slice none 0 0) ∧ w9.cell? ⟨w.heap.size + 1, 1, none⟩ = some (.slice none 0 0) ∧ w9.cell? ⟨w.heap.size + 1, 2, none⟩ = some (.int .i64 0) ∧ w9.cell? ⟨w.heap.size + 1, 3, none⟩ = some (.int .i64 0) ∧ ∀ j, w9.frozen? ⟨w.heap.size + 1, j, none⟩ = false :=
        ⟨Ext.keep hE9 hp0, Ext.keep hE9 hp1, Ext.keep hE9 hp2, Ext.keep hE9 hp3, fun j => (Below.frozen (p := ⟨w.heap.size + 1, j, none⟩) hE9 (by have := World.block_lt_of_cell? w1 _ hp0; exact this)).trans (hpf j)⟩
      have hEw9 : Ext w w9 := Ext.trans hE1 hE9
      clear hH
      go_wp2
      refine bodyPost_ret (v := .tuple #[.agg #[.slice none 0 0, .slice none 0 0, .int .i64 0, .int .i64 0], .bool false]) (by simp [results, Try.results40, go_sem, k0, k1, k2, k3, kf]) rfl ?_
      rw [HR.out]
      exact ⟨none, 0, 0, none, 0, 0, 0, 0, rfl, (fun q e => by cases e), by exact extX⟩
    | true =>
      have HD := Lib.hid hdf
      refine wp_region_held_drew (S := (fun w' => w'.cell? ⟨w.heap.size, 0, none⟩ = some (.slice A n c) ∧ w'.cell? ⟨w.heap.size, 1, none⟩ = some (.slice (some ⟨b, o, none⟩) m d) ∧ w'.cell? ⟨w.heap.size + 1 + 1, 1, none⟩ = some (.slice (some ⟨b2, o2, none⟩) m2 c2) ∧ w'.cell? ⟨b2, o2 + a, none⟩ = some (.int .i64 x) ∧ Ext w1 w')) (by kernel_rfl) ?_ (fun hH => ?_)
      · exact ⟨hs0, hs1, hq1, hcx1, (Ext.refl w1).drew⟩
      refine wpAnyH_take_dst (i := 0) (v := .pointer (some ⟨w.heap.size + 1 + 1, 1, none⟩)) (d := some 15) rfl rfl (by kernel_rfl) (by kernel_rfl) (by kernel_rfl) (fun _ _ _ h => h) (Or.inl ⟨by rfl, ?_⟩) hH ?_
      · (intro w hSw; (try dsimp only at hSw); go_split_ands; go_simp; try with_reducible rfl)
      try simp only [Act.put, List.setIfInBounds_toArray, List.set_cons_zero, List.set_cons_succ]
      refine wpAnyH_take_dst (i := 1) (v := .slice (some ⟨b2, o2, none⟩) m2 c2) (d := some 16) rfl rfl (by kernel_rfl) (by kernel_rfl) (by kernel_rfl) (fun _ _ _ h => h) (Or.inl ⟨by rfl, ?_⟩) hH ?_
      · (intro w hSw; (try dsimp only at hSw); go_split_ands; go_simp; try with_reducible rfl)
      try simp only [Act.put, List.setIfInBounds_toArray, List.set_cons_zero, List.set_cons_succ]
      refine wpAnyH_take_dst (i := 2) (v := .int .i64 (a : Int)) (d := some 17) rfl rfl (by kernel_rfl) (by kernel_rfl) (by kernel_rfl) (fun _ _ _ h => h) (Or.inl ⟨by rfl, ?_⟩) hH ?_
      · (intro w hSw; (try dsimp only at hSw); go_split_ands; go_simp; try with_reducible rfl)
      try simp only [Act.put, List.setIfInBounds_toArray, List.set_cons_zero, List.set_cons_succ]
      refine wpAnyH_take_dst (i := 3) (v := .pointer (some ⟨b2, o2 + a, none⟩)) (d := some 18) rfl rfl (by kernel_rfl) (by kernel_rfl) (by kernel_rfl) (fun _ _ _ h => h) (Or.inl ⟨by rfl, ?_⟩) hH ?_
      · (intro w hSw; (try dsimp only at hSw); go_split_ands; go_simp; try with_reducible rfl)
      try simp only [Act.put, List.setIfInBounds_toArray, List.set_cons_zero, List.set_cons_succ]
      refine wpAnyH_take_dst (i := 4) (v := .int .i64 x) (d := some 19) rfl rfl (by kernel_rfl) (by kernel_rfl) (by kernel_rfl) (fun _ _ _ h => h) (Or.inl ⟨by rfl, ?_⟩) hH ?_
      · (intro w hSw; (try dsimp only at hSw); go_split_ands; go_simp; try with_reducible rfl)
      try simp only [Act.put, List.setIfInBounds_toArray, List.set_cons_zero, List.set_cons_succ]
      refine wpAnyH_take_dst (i := 5) (v := .bool false) (d := some 20) rfl rfl (by kernel_rfl) (by kernel_rfl) (by kernel_rfl) (fun _ _ _ h => h) (Or.inl ⟨by rfl, ?_⟩) hH ?_
      · (intro w hSw; (try dsimp only at hSw); go_split_ands; go_simp; try with_reducible rfl)
      try simp only [Act.put, List.setIfInBounds_toArray, List.set_cons_zero, List.set_cons_succ]
      refine wpAnyH_take_dst (i := 6) (v := .bool false) (d := some 21) rfl rfl (by kernel_rfl) (by kernel_rfl) (by kernel_rfl) (fun _ _ _ h => h) (Or.inl ⟨by rfl, ?_⟩) hH ?_
      · (intro w hSw; (try dsimp only at hSw); go_split_ands; go_simp; try with_reducible rfl)
      try simp only [Act.put, List.setIfInBounds_toArray, List.set_cons_zero, List.set_cons_succ]
      refine wpAnyH_take_dst (i := 7) (v := .agg #[.slice A n c, .slice (some ⟨b, o, none⟩) m d]) (d := some 22) rfl rfl (by kernel_rfl) (by kernel_rfl) (by kernel_rfl) (fun _ _ _ h => h) (Or.inl ⟨by rfl, ?_⟩) hH ?_
      · (intro w hSw; (try dsimp only at hSw); go_split_ands; go_simp; try with_reducible rfl)
      try simp only [Act.put, List.setIfInBounds_toArray, List.set_cons_zero, List.set_cons_succ]
      refine wpAnyH_take_dst (i := 9) (v := .pointer (some ⟨w.heap.size + 1 + 1, 1, none⟩)) (d := some 24) rfl rfl (by kernel_rfl) (by kernel_rfl) (by kernel_rfl) (fun _ _ _ h => h) (Or.inl ⟨by rfl, ?_⟩) hH ?_
      · (intro w hSw; (try dsimp only at hSw); go_split_ands; go_simp; try with_reducible rfl)
      try simp only [Act.put, List.setIfInBounds_toArray, List.set_cons_zero, List.set_cons_succ]
      refine wpAnyH_take_dst (i := 10) (v := .slice (some ⟨b2, o2, none⟩) m2 c2) (d := some 25) rfl rfl (by kernel_rfl) (by kernel_rfl) (by kernel_rfl) (fun _ _ _ h => h) (Or.inl ⟨by rfl, ?_⟩) hH ?_
      · (intro w hSw; (try dsimp only at hSw); go_split_ands; go_simp; try with_reducible rfl)
      try simp only [Act.put, List.setIfInBounds_toArray, List.set_cons_zero, List.set_cons_succ]
      refine wpAnyH_take_dst (i := 11) (v := .int .i64 (a : Int)) (d := some 26) rfl rfl (by kernel_rfl) (by kernel_rfl) (by kernel_rfl) (fun _ _ _ h => h) (Or.inl ⟨by rfl, ?_⟩) hH ?_
      · (intro w hSw; (try dsimp only at hSw); go_split_ands; go_simp; try with_reducible rfl)
      try simp only [Act.put, List.setIfInBounds_toArray, List.set_cons_zero, List.set_cons_succ]
      refine wpAnyH_take_dst (i := 12) (v := .pointer (some ⟨b2, o2 + a, none⟩)) (d := some 27) rfl rfl (by kernel_rfl) (by kernel_rfl) (by kernel_rfl) (fun _ _ _ h => h) (Or.inl ⟨by rfl, ?_⟩) hH ?_
      · (intro w hSw; (try dsimp only at hSw); go_split_ands; go_simp; try with_reducible rfl)
      try simp only [Act.put, List.setIfInBounds_toArray, List.set_cons_zero, List.set_cons_succ]
      refine wpAnyH_take_dst (i := 13) (v := .int .i64 x) (d := some 28) rfl rfl (by kernel_rfl) (by kernel_rfl) (by kernel_rfl) (fun _ _ _ h => h) (Or.inl ⟨by rfl, ?_⟩) hH ?_
      · (intro w hSw; (try dsimp only at hSw); go_split_ands; go_simp; try with_reducible rfl)
      try simp only [Act.put, List.setIfInBounds_toArray, List.set_cons_zero, List.set_cons_succ]
      refine wpAnyH_ready (rs := [8]) (by kernel_rfl) (by simp) ?_
      refine AllReadyH.cons rfl (fun K hK => ?_) AllReadyH.nil
      rw [if_pos (by rfl)]
      go_wp2_with (go_at_call 61; (with_reducible refine ((c_l6Defined (s := s) (RdSyK.mk (RI.ext HA.out (Ext.trans hE1 hH.2.2.2.2)) (RR.ext HB.out (Ext.trans hE1 hH.2.2.2.2))) HS.out)).mono ?_); rintro e w8 ⟨A7, n7, c7, ys, rfl, hr7, hh7, hE9⟩)
      refine hK.out _ _ ⟨Ext.keep hE9 hH.1, Ext.keep hE9 hH.2.1, Ext.keep hE9 hH.2.2.1, Ext.keep hE9 hH.2.2.2.1, Ext.trans hH.2.2.2.2 hE9⟩ (fun hH9 => ?_)
      clear hK hH; have hH := hH9; clear hH9
      try simp only [Act.put, List.setIfInBounds_toArray, List.set_cons_zero, List.set_cons_succ]
      refine wpAnyH_ready (rs := [14]) (by kernel_rfl) (by simp) ?_
      refine AllReadyH.cons rfl (fun K hK => ?_) AllReadyH.nil
      rw [if_pos (by rfl)]
      go_wp2_with (go_at_call 60; (with_reducible refine ((c_l1Has' (x := x) ((HeadsTo.all hh7 x).trans HD.out) (RdI.mk hr7))).mono ?_); rintro e w9 ⟨rfl, hE9⟩)
      refine hK.out _ _ ⟨Ext.keep hE9 hH.1, Ext.keep hE9 hH.2.1, Ext.keep hE9 hH.2.2.1, Ext.keep hE9 hH.2.2.2.1, Ext.trans hH.2.2.2.2 hE9⟩ (fun hH9 => ?_)
      clear hK hH; have hH := hH9; clear hH9
      try simp only [Act.put, List.setIfInBounds_toArray, List.set_cons_zero, List.set_cons_succ]
      refine wpAnyH_take_dst (i := 15) (v := .bool false) (d := some 30) rfl rfl (by kernel_rfl) (by kernel_rfl) (by kernel_rfl) (fun _ _ _ h => h) (Or.inl ⟨by rfl, ?_⟩) hH ?_
      · (intro w hSw; (try dsimp only at hSw); go_split_ands; go_simp; try with_reducible rfl)
      try simp only [Act.put, List.setIfInBounds_toArray, List.set_cons_zero, List.set_cons_succ]
      refine wpAnyH_take_dst (i := 16) (v := .bool false) (d := some 31) rfl rfl (by kernel_rfl) (by kernel_rfl) (by kernel_rfl) (fun _ _ _ h => h) (Or.inl ⟨by rfl, ?_⟩) hH ?_
      · (intro w hSw; (try dsimp only at hSw); go_split_ands; go_simp; try with_reducible rfl)
      try simp only [Act.put, List.setIfInBounds_toArray, List.set_cons_zero, List.set_cons_succ]
      refine wpAnyH_done (by kernel_rfl) ?_ _
      have hE9 := hH.2.2.2.2
      obtain ⟨k0, k1, k2, k3, kf⟩ : w9.cell? ⟨w.heap.size + 1, 0, none⟩ = some (.slice none 0 0) ∧ w9.cell? ⟨w.heap.size + 1, 1, none⟩ = some (.slice none 0 0) ∧ w9.cell? ⟨w.heap.size + 1, 2, none⟩ = some (.int .i64 0) ∧ w9.cell? ⟨w.heap.size + 1, 3, none⟩ = some (.int .i64 0) ∧ ∀ j, w9.frozen? ⟨w.heap.size + 1, j, none⟩ = false :=
        ⟨Ext.keep hE9 hp0, Ext.keep hE9 hp1, Ext.keep hE9 hp2, Ext.keep hE9 hp3, fun j => (Below.frozen (p := ⟨w.heap.size + 1, j, none⟩) hE9 (by have := World.block_lt_of_cell? w1 _ hp0; exact this)).trans (hpf j)⟩
      have m0 := hH.1
      have m1' := hH.2.2.1
      have m2' := Ext.keep hE9 hq0
      have hEw9 : Ext w w9 := Ext.trans hE1 hE9
      clear hH
      obtain ⟨v, hv⟩ : ∃ v, v = (subT s.ar r.r a).flat := ⟨_, rfl⟩
      have HSUB := Lib.hid (RI.sub HR2.out HDR.out)
      have hvl : a + v.length ≤ m2 := by
        have h1 := congrArg List.length HDR.out
        rw [List.length_drop, List.length_append, HR2.out.len, ← hv] at h1
        omega
      obtain ⟨f, hf⟩ : ∃ f : Nat, f = a + v.length := ⟨_, rfl⟩
      have hff : f - a = v.length := by omega
      have hfi : (a : Int) ≤ (f : Int) := by omega
      have hfd : (f : Int) ≤ (c2 : Int) := by have := HC2.out; omega
      have hca : ¬ c2 = a := by have := HC2.out; omega
      have HFN := Lib.hid (show f = a + (subT s.ar r.r a).flat.length by rw [hf, hv])
      have HFF := Lib.hid hff
      have HV := Lib.hid hv
      have HSV := Lib.hid (show RI w (some ⟨b2, o2 + a, none⟩) (f - a) v by rw [HFF.out, HV.out]; exact HSUB.out)
      clear hf hv hff
      obtain ⟨wm, rfl⟩ : ∃ wm : World, w9 = wm := ⟨_, rfl⟩
      have hEm := hE9
      clear hE9
      go_wp2_with fail
      refine wp_region_held_drew (S := (fun w' => w'.cell? ⟨w.heap.size + 1 + 1, 1, none⟩ = some (.slice (some ⟨b2, o2, none⟩) m2 c2) ∧ w'.cell? ⟨w.heap.size, 0, none⟩ = some (.slice A n c) ∧ Ext w9 w')) (by kernel_rfl) ?_ (fun hH => ?_)
      · exact ⟨m1', m0, (Ext.refl w9).drew⟩
      refine wpAnyH_take_dst (i := 0) (v := .pointer (some ⟨w.heap.size + 1 + 1, 1, none⟩)) (d := some 33) rfl rfl (by kernel_rfl) (by kernel_rfl) (by kernel_rfl) (fun _ _ _ h => h) (Or.inl ⟨by rfl, ?_⟩) hH ?_
      · (intro w hSw; (try dsimp only at hSw); go_split_ands; go_simp; try with_reducible rfl)
      try simp only [Act.put, List.setIfInBounds_toArray, List.set_cons_zero, List.set_cons_succ]
      refine wpAnyH_take_dst (i := 1) (v := .slice (some ⟨b2, o2, none⟩) m2 c2) (d := some 34) rfl rfl (by kernel_rfl) (by kernel_rfl) (by kernel_rfl) (fun _ _ _ h => h) (Or.inl ⟨by rfl, ?_⟩) hH ?_
      · (intro w hSw; (try dsimp only at hSw); go_split_ands; go_simp; try with_reducible rfl)
      try simp only [Act.put, List.setIfInBounds_toArray, List.set_cons_zero, List.set_cons_succ]
      refine wpAnyH_take_dst (i := 2) (v := .int .i64 (a : Int)) (d := some 35) rfl rfl (by kernel_rfl) (by kernel_rfl) (by kernel_rfl) (fun _ _ _ h => h) (Or.inl ⟨by rfl, ?_⟩) hH ?_
      · (intro w hSw; (try dsimp only at hSw); go_split_ands; go_simp; try with_reducible rfl)
      try simp only [Act.put, List.setIfInBounds_toArray, List.set_cons_zero, List.set_cons_succ]
      refine wpAnyH_take_dst (i := 3) (v := .pointer (some ⟨w.heap.size, 0, none⟩)) (d := some 36) rfl rfl (by kernel_rfl) (by kernel_rfl) (by kernel_rfl) (fun _ _ _ h => h) (Or.inl ⟨by rfl, ?_⟩) hH ?_
      · (intro w hSw; (try dsimp only at hSw); go_split_ands; go_simp; try with_reducible rfl)
      try simp only [Act.put, List.setIfInBounds_toArray, List.set_cons_zero, List.set_cons_succ]
      refine wpAnyH_take_dst (i := 4) (v := .agg #[.slice A n c]) (d := some 37) rfl rfl (by kernel_rfl) (by kernel_rfl) (by kernel_rfl) (fun _ _ _ h => h) (Or.inl ⟨by rfl, ?_⟩) hH ?_
      · (intro w hSw; (try dsimp only at hSw); go_split_ands; go_simp; try with_reducible rfl)
      try simp only [Act.put, List.setIfInBounds_toArray, List.set_cons_zero, List.set_cons_succ]
      refine wpAnyH_take_dst (i := 5) (v := .pointer (some ⟨w.heap.size + 1 + 1, 1, none⟩)) (d := some 38) rfl rfl (by kernel_rfl) (by kernel_rfl) (by kernel_rfl) (fun _ _ _ h => h) (Or.inl ⟨by rfl, ?_⟩) hH ?_
      · (intro w hSw; (try dsimp only at hSw); go_split_ands; go_simp; try with_reducible rfl)
      try simp only [Act.put, List.setIfInBounds_toArray, List.set_cons_zero, List.set_cons_succ]
      refine wpAnyH_take_dst (i := 6) (v := .slice (some ⟨b2, o2, none⟩) m2 c2) (d := some 39) rfl rfl (by kernel_rfl) (by kernel_rfl) (by kernel_rfl) (fun _ _ _ h => h) (Or.inl ⟨by rfl, ?_⟩) hH ?_
      · (intro w hSw; (try dsimp only at hSw); go_split_ands; go_simp; try with_reducible rfl)
      try simp only [Act.put, List.setIfInBounds_toArray, List.set_cons_zero, List.set_cons_succ]
      refine wpAnyH_take_dst (i := 7) (v := .int .i64 (a : Int)) (d := some 40) rfl rfl (by kernel_rfl) (by kernel_rfl) (by kernel_rfl) (fun _ _ _ h => h) (Or.inl ⟨by rfl, ?_⟩) hH ?_
      · (intro w hSw; (try dsimp only at hSw); go_split_ands; go_simp; try with_reducible rfl)
      try simp only [Act.put, List.setIfInBounds_toArray, List.set_cons_zero, List.set_cons_succ]
      refine wpAnyH_ready (rs := [8]) (by kernel_rfl) (by simp) ?_
      refine AllReadyH.cons rfl (fun K hK => ?_) AllReadyH.nil
      rw [if_pos (by rfl)]
      go_wp2_with (go_at_call 63; (with_reducible refine ((c_l13End' (u := subT s.ar r.r a) (p := a) HFN.out (RdSig.mk (RI.ext HA.out (Ext.trans hEw9 hH.2.2))) (RdI.mk (RI.ext HR2.out (Ext.trans hEw9 hH.2.2))) HSG.out HOK.out HDR.out)).mono ?_); rintro e w2 ⟨rfl, hE9⟩)
      refine hK.out _ _ ⟨Ext.keep hE9 hH.1, Ext.keep hE9 hH.2.1, Ext.trans hH.2.2 hE9⟩ (fun hH9 => ?_)
      clear hK hH; have hH := hH9; clear hH9
      try simp only [Act.put, List.setIfInBounds_toArray, List.set_cons_zero, List.set_cons_succ]
      refine wpAnyH_take_dst (i := 9) (v := .slice (some ⟨b2, o2 + a, none⟩) (f - a) (c2 - a)) (d := some 42) rfl rfl (by kernel_rfl) (by kernel_rfl) (by kernel_rfl) (fun _ _ _ h => h) (Or.inl ⟨by rfl, ?_⟩) hH ?_
      · (intro w hSw; (try dsimp only at hSw); go_split_ands; go_simp; try with_reducible rfl)
      try simp only [Act.put, List.setIfInBounds_toArray, List.set_cons_zero, List.set_cons_succ]
      refine wpAnyH_ready (rs := [10]) (by kernel_rfl) (by simp) ?_
      refine AllReadyH.cons rfl (fun K hK => ?_) AllReadyH.nil
      rw [if_pos (by rfl)]
      go_wp2_with (go_at_call 62; (with_reducible refine ((c_l1Copy (RI.ext HSV.out (Ext.trans hEw9 hH.2.2)))).mono ?_); rintro e w3 ⟨A5, n5, c5, rfl, hO5, hE9⟩)
      refine hK.out _ _ ⟨Ext.keep hE9 hH.1, Ext.keep hE9 hH.2.1, Ext.trans hH.2.2 hE9⟩ (fun hH9 => ?_)
      clear hK hH; have hH := hH9; clear hH9
      try simp only [Act.put, List.setIfInBounds_toArray, List.set_cons_zero, List.set_cons_succ]
      refine wpAnyH_take_dst (i := 11) (v := .slice A5 n5 c5) (d := some 9) rfl rfl (by kernel_rfl) (by kernel_rfl) (by kernel_rfl) (fun _ _ _ h => h) (Or.inl ⟨by rfl, ?_⟩) hH ?_
      · (intro w hSw; (try dsimp only at hSw); go_split_ands; go_simp; try with_reducible rfl)
      try simp only [Act.put, List.setIfInBounds_toArray, List.set_cons_zero, List.set_cons_succ]
      refine wpAnyH_done (by kernel_rfl) ?_ _
      have hE3 := hH.2.2
      have HR5 := Lib.hid hO5.ri
      have hbd5 := hO5.bd
      have hs29 : w9.heap.size ≤ w2.heap.size := (show Ext w9.drew w2 by assumption).size
      have j0 := Ext.keep hE3 m0
      have j1 := Ext.keep hE3 m2'
      have hEw3 := Ext.trans hEw9 hE3
      have HO5 := Lib.hid hO5
      clear hO5
      go_wp2_with fail
      (with_reducible refine (c_l17Part (u := v) (RdSig.mk (RI.ext HA.out hEw3)) (RdIc.mk HC1.out (RI.ext HR1.out hEw3)) (RdI.mk HR5.out) HTL.out).mono ?_)
      rw [HV.out]
      cases hha : has s.ar r.l (subT s.ar r.r a).flat with
      | true =>
        have HR := Lib.hid (show depOf s r k a x = none by unfold depOf; rw [if_neg (by omega), if_neg (by rw [hdf]; simp), if_pos hha])
        rintro e4 w4 ⟨rfl, hE4⟩
        have hE94 := Ext.trans hE3 hE4
        obtain ⟨k0, k1, k2, k3, kf⟩ : w4.cell? ⟨w.heap.size + 1, 0, none⟩ = some (.slice none 0 0) ∧ w4.cell? ⟨w.heap.size + 1, 1, none⟩ = some (.slice none 0 0) ∧ w4.cell? ⟨w.heap.size + 1, 2, none⟩ = some (.int .i64 0) ∧ w4.cell? ⟨w.heap.size + 1, 3, none⟩ = some (.int .i64 0) ∧ ∀ j, w4.frozen? ⟨w.heap.size + 1, j, none⟩ = false :=
          ⟨Ext.keep hE94 k0, Ext.keep hE94 k1, Ext.keep hE94 k2, Ext.keep hE94 k3, fun j => (Below.frozen (p := ⟨w.heap.size + 1, j, none⟩) hE94 (by have := World.block_lt_of_cell? w9 _ k0; exact this)).trans (kf j)⟩
        have hEw4 := Ext.trans hEw3 hE4
        go_wp2
        refine bodyPost_ret (v := .tuple #[.agg #[.slice none 0 0, .slice none 0 0, .int .i64 0, .int .i64 0], .bool false]) (by simp [results, Try.results40, go_sem, k0, k1, k2, k3, kf]) rfl ?_
        rw [HR.out]
        exact ⟨none, 0, 0, none, 0, 0, 0, 0, rfl, (fun q e => by cases e), by exact extX⟩
      | false =>
        have HR := Lib.hid (show depOf s r k a x = some ⟨r.l, (subT s.ar r.r a).flat, k, a⟩ by unfold depOf; rw [if_neg (by omega), if_neg (by rw [hdf]; simp), if_neg (by rw [hha]; simp)])
        rintro e4 w4 ⟨rfl, hE4⟩
        have i1 := Ext.keep hE4 j1
        have hEw4 := Ext.trans hEw3 hE4
        go_wp2_with fail
        (with_reducible refine (c_l1Copy (RI.ext HR1.out hEw4)).mono ?_)
        rintro e5 w5 ⟨A6, n6, c6, rfl, hO6, hE5⟩
        have HR6 := Lib.hid hO6.ri
        have hbd6 := hO6.bd
        have hEw5 := Ext.trans hEw4 hE5
        have HO6 := Lib.hid hO6
        clear hO6
        have HR7 := Lib.hid (RI.ext HR5.out (Ext.trans hE4 hE5))
        have hE96 := Ext.trans hE3 (Ext.trans hE4 hE5)
        obtain ⟨k0, k1, k2, k3, kf⟩ : w5.cell? ⟨w.heap.size + 1, 0, none⟩ = some (.slice none 0 0) ∧ w5.cell? ⟨w.heap.size + 1, 1, none⟩ = some (.slice none 0 0) ∧ w5.cell? ⟨w.heap.size + 1, 2, none⟩ = some (.int .i64 0) ∧ w5.cell? ⟨w.heap.size + 1, 3, none⟩ = some (.int .i64 0) ∧ ∀ j, w5.frozen? ⟨w.heap.size + 1, j, none⟩ = false :=
          ⟨Ext.keep hE96 k0, Ext.keep hE96 k1, Ext.keep hE96 k2, Ext.keep hE96 k3, fun j => (Below.frozen (p := ⟨w.heap.size + 1, j, none⟩) hE96 (by have := World.block_lt_of_cell? w9 _ k0; exact this)).trans (kf j)⟩
        have hlt9 : w.heap.size + 1 < w9.heap.size := by
          have h1 := World.block_lt_of_cell? w1 _ hp0
          have h2 := hEm.size
          have h3 : w.heap.size + 1 < w1.heap.size := h1
          omega
        have hs49 : w9.heap.size ≤ w4.heap.size := (Ext.trans hE3 hE4).size
        have hs59 : w4.heap.size ≤ w5.heap.size := hE5.size
        go_wp2_with fail
        refine bodyPost_ret (v := .tuple #[.agg #[.slice A6 n6 c6, .slice A5 n5 c5, .int .i64 (k : Int), .int .i64 (a : Int)], .bool true]) (by simp [results, Try.results40, go_sem, k0, k1, k2, k3, kf]) rfl ?_
        rw [HR.out]
        refine ⟨A6, n6, c6, A5, n5, c5, _, _, rfl, fun q e => ?_, by exact extX⟩
        cases e
        refine ⟨rfl, rfl, ?_, ?_, fun b o s b' o' s' e1 e2 => by have := (hbd6 b o s e1).1; have := (hbd5 b' o' s' e2).2; have := hE4.size; omega⟩
        · exact OwI.set4 (HO6.out.lower (sz_of hEw4)) (fun b o s e => by have := (hbd6 b o s e).1; omega)
        · rw [← HV.out]; exact OwI.set4 ((HO5.out.ext (Ext.trans hE4 hE5)).lower (by have := sz_of hEw9; omega)) (fun b o s e => by have := (hbd5 b o s e).1; omega)

end Go.Proofs.Ytempekmenkeigaa
