/- The first projection: the reference's. -/
import Derived.Test.YtccahngnnfohcaaFPrB
import Derived.Test.YtccahngnnfohcaaPrjD
-- rd: RdSyK RdDp RdDq
namespace Go.Proofs.Ytccahngnnfohcaa
open Go.RowKit
set_option linter.unusedSimpArgs false
set_option linter.unusedVariables false

theorem HdIn.none_ (ps : List DepP) (set : List Int) : ∀ f, f ∈ ([] : List Int) ↔ HdIn ps (set.take 0) f := fun f => ⟨fun h => absurd h (by simp), fun h => absurd h (by rw [List.take_zero]; exact HdIn.nil)⟩
set_option maxRecDepth 100000 in
set_option maxHeartbeats 8000000 in
theorem c_l18Heads {v1 : Value} {A : Option Addr} {n c : Nat} {ar set : List Int} {ps : List DepP} {w : World} (h1 : RE w A n ps) (h2 : RdI w v1 set) (hpp : ∀ q ∈ ps, PairP ar q) (hset : SetP n set) (hl : set.length ≤ 64) :
    Calls Try.prog 50 #[.slice A n c, v1] w fun e w' => ∃ B m d ys, e = .returned (.slice B m d) ∧ RI w' B m ys ∧ (∀ f, f ∈ ys ↔ HdIn ps set f) ∧ Ext w w' := by
  obtain ⟨D, d, dc, rfl, hd⟩ := h2
  have HA := Lib.hid h1
  have HD := Lib.hid hd
  have HPP := Lib.hid hpp
  have HST := Lib.hid hset
  have hdl := hd.len
  have hd64 : d ≤ 64 := by omega
  clear h1 hd hpp hset
  go_enter Try.func50, Try.ntmps50
  go_wp2_with fail
  go_loopw [5, 6] (fun ov kv wr => ∃ k : Nat, kv = .int .i64 k ∧ k ≤ d ∧ (∃ B m dd, ov = .slice B m dd ∧ m ≤ 2 * k ∧ (m ≤ dd ∧ dd ≤ 9223372036854775807) ∧ Hid (∃ ys, RI wr B m ys ∧ ∀ f, f ∈ ys ↔ HdIn ps (set.take k) f)) ∧ Ext w wr) (fun _ kv _ => d - (intOf kv).toNat)
  case atStart => exact ⟨0, rfl, Nat.zero_le _, ⟨_, _, _, rfl, Nat.le_refl _, by omega, Lib.hid ⟨[], RI.nil _ _, HdIn.none_ ps set⟩⟩, by (repeat' (first | (with_reducible exact Ext.refl _) | (with_reducible assumption) | (with_reducible refine Ext.alloc ?_ _) | (with_reducible refine Ext.set ?_ ?_ _) | (with_reducible refine Ext.drewN ?_ _) | (with_reducible refine Ext.drew ?_) | (with_reducible refine Ext.trans ?_ (by with_reducible assumption)) | go_size))⟩
  case round =>
    obtain ⟨k, rfl, hk, ⟨B, m, dd, rfl, hm, hcap, hY⟩, hE⟩ := hrel
    by_cases hlt : k < d
    · obtain ⟨ys, hY1, hY2⟩ := hY.out
      obtain ⟨b', o', x, rfl, hx, hcx⟩ := RI.at_ HD.out hlt
      have hxs := (HST.out k x hx).1
      obtain ⟨z, rfl⟩ := Int.eq_ofNat_of_zero_le hxs.1
      have hzn : z < n := by have := HA.out.1.1; omega
      obtain ⟨q, b, o2, A1, n1, c1, A2, n2, c2, hq, rfl, hc0, hc1, _, _, hcap1, hcap2, hr1, hr2⟩ := RE.at_ HA.out hzn
      obtain ⟨⟨hq1, hq2⟩, hq3, hq4⟩ := HPP.out q (List.mem_of_getElem? hq)
      obtain ⟨f1, hf1, hf1m⟩ := head_at hq1 hq2
      obtain ⟨f2, hf2, hf2m⟩ := head_at hq3 hq4
      have hn1 : 0 < n1 := by rw [← hr1.len]; exact hq1.2.1.1
      have hn2 : 0 < n2 := by rw [← hr2.len]; exact hq3.2.1.1
      obtain ⟨b1, o1, y1, rfl, hy1, hd1⟩ := RI.at_ hr1 hn1
      rw [hf1] at hy1; cases hy1
      obtain ⟨b2, o3, y2, rfl, hy2, hd2⟩ := RI.at_ hr2 hn2
      rw [hf2] at hy2; cases hy2
      have hcx' := Ext.keep hE hcx
      have hc0' := Ext.keep hE hc0
      have hc1' := Ext.keep hE hc1
      have hd1' : wr.cell? ⟨b1, o1, none⟩ = some (.int .i64 (f1 : Int)) := by have := Ext.keep hE hd1; simpa using this
      have hd2' : wr.cell? ⟨b2, o3, none⟩ = some (.int .i64 (f2 : Int)) := by have := Ext.keep hE hd2; simpa using this
      have HSU := Lib.hid (fun f => HdIn.succ (f := f) hx hq hf1 hf2)
      have HY1 := Lib.hid hY1
      have HY2 := Lib.hid hY2
      have hki : (k : Int) < (d : Int) := by omega
      have hk0 : (0 : Int) ≤ (k : Int) := by omega
      have hzi : (z : Int) < (n : Int) := by omega
      have hz0 : (0 : Int) ≤ (z : Int) := by omega
      have hn1i : (0 : Int) < (n1 : Int) := by omega
      have hn2i : (0 : Int) < (n2 : Int) := by omega
      clear hx hxs hq hq1 hq2 hq3 hq4 hf1 hf2 hc0 hc1 hcx hd1 hd2 hcap1 hcap2 hr1 hr2 hY1 hY2 hY
      go_wp2_with fail
      refine wp_region_held_drew (S := (fun w' => w'.cell? ⟨b', o' + k, none⟩ = some (.int .i64 (z : Int)) ∧ w'.cell? ⟨b, o2 + z * 4, none⟩ = some (.slice (some ⟨b1, o1, none⟩) n1 c1) ∧ w'.cell? ⟨b, o2 + z * 4 + 1, none⟩ = some (.slice (some ⟨b2, o3, none⟩) n2 c2) ∧ w'.cell? ⟨b1, o1, none⟩ = some (.int .i64 (f1 : Int)) ∧ w'.cell? ⟨b2, o3, none⟩ = some (.int .i64 (f2 : Int)) ∧ Ext wr w')) (by kernel_rfl) ?_ (fun hH => ?_)
      · exact ⟨hcx', hc0', hc1', hd1', hd2', (Ext.refl wr).drew⟩
      refine wpAnyH_take_dst (i := 0) (v := .slice B m dd) (d := some 14) rfl rfl (by kernel_rfl) (by kernel_rfl) (by kernel_rfl) (fun _ _ _ h => h) (Or.inl ⟨by rfl, ?_⟩) hH ?_
      · (intro w hSw; (try dsimp only at hSw); go_split_ands; go_simp; try with_reducible rfl)
      try simp only [Act.put, List.setIfInBounds_toArray, List.set_cons_zero, List.set_cons_succ]
      refine wpAnyH_take_dst (i := 1) (v := .slice (some ⟨b, o2, none⟩) n c) (d := some 15) rfl rfl (by kernel_rfl) (by kernel_rfl) (by kernel_rfl) (fun _ _ _ h => h) (Or.inl ⟨by rfl, ?_⟩) hH ?_
      · (intro w hSw; (try dsimp only at hSw); go_split_ands; go_simp; try with_reducible rfl)
      try simp only [Act.put, List.setIfInBounds_toArray, List.set_cons_zero, List.set_cons_succ]
      refine wpAnyH_take_dst (i := 2) (v := .slice (some ⟨b', o', none⟩) d dc) (d := some 16) rfl rfl (by kernel_rfl) (by kernel_rfl) (by kernel_rfl) (fun _ _ _ h => h) (Or.inl ⟨by rfl, ?_⟩) hH ?_
      · (intro w hSw; (try dsimp only at hSw); go_split_ands; go_simp; try with_reducible rfl)
      try simp only [Act.put, List.setIfInBounds_toArray, List.set_cons_zero, List.set_cons_succ]
      refine wpAnyH_take_dst (i := 3) (v := .int .i64 (k : Int)) (d := some 17) rfl rfl (by kernel_rfl) (by kernel_rfl) (by kernel_rfl) (fun _ _ _ h => h) (Or.inl ⟨by rfl, ?_⟩) hH ?_
      · (intro w hSw; (try dsimp only at hSw); go_split_ands; go_simp; try with_reducible rfl)
      try simp only [Act.put, List.setIfInBounds_toArray, List.set_cons_zero, List.set_cons_succ]
      refine wpAnyH_take_dst (i := 4) (v := .pointer (some ⟨b', o' + k, none⟩)) (d := some 18) rfl rfl (by kernel_rfl) (by kernel_rfl) (by kernel_rfl) (fun _ _ _ h => h) (Or.inl ⟨by rfl, ?_⟩) hH ?_
      · (intro w hSw; (try dsimp only at hSw); go_split_ands; go_simp; try with_reducible rfl)
      try simp only [Act.put, List.setIfInBounds_toArray, List.set_cons_zero, List.set_cons_succ]
      refine wpAnyH_take_dst (i := 5) (v := .int .i64 (z : Int)) (d := some 19) rfl rfl (by kernel_rfl) (by kernel_rfl) (by kernel_rfl) (fun _ _ _ h => h) (Or.inl ⟨by rfl, ?_⟩) hH ?_
      · (intro w hSw; (try dsimp only at hSw); go_split_ands; go_simp; try with_reducible rfl)
      try simp only [Act.put, List.setIfInBounds_toArray, List.set_cons_zero, List.set_cons_succ]
      refine wpAnyH_take_dst (i := 6) (v := .pointer (some ⟨b, o2 + z * 4, none⟩)) (d := some 20) rfl rfl (by kernel_rfl) (by kernel_rfl) (by kernel_rfl) (fun _ _ _ h => h) (Or.inl ⟨by rfl, ?_⟩) hH ?_
      · (intro w hSw; (try dsimp only at hSw); go_split_ands; go_simp; try with_reducible rfl)
      try simp only [Act.put, List.setIfInBounds_toArray, List.set_cons_zero, List.set_cons_succ]
      refine wpAnyH_take_dst (i := 7) (v := .pointer (some ⟨b, o2 + z * 4, none⟩)) (d := some 21) rfl rfl (by kernel_rfl) (by kernel_rfl) (by kernel_rfl) (fun _ _ _ h => h) (Or.inl ⟨by rfl, ?_⟩) hH ?_
      · (intro w hSw; (try dsimp only at hSw); go_split_ands; go_simp; try with_reducible rfl)
      try simp only [Act.put, List.setIfInBounds_toArray, List.set_cons_zero, List.set_cons_succ]
      refine wpAnyH_take_dst (i := 8) (v := .slice (some ⟨b1, o1, none⟩) n1 c1) (d := some 22) rfl rfl (by kernel_rfl) (by kernel_rfl) (by kernel_rfl) (fun _ _ _ h => h) (Or.inl ⟨by rfl, ?_⟩) hH ?_
      · (intro w hSw; (try dsimp only at hSw); go_split_ands; go_simp; try with_reducible rfl)
      try simp only [Act.put, List.setIfInBounds_toArray, List.set_cons_zero, List.set_cons_succ]
      refine wpAnyH_take_dst (i := 9) (v := .pointer (some ⟨b1, o1, none⟩)) (d := some 23) rfl rfl (by kernel_rfl) (by kernel_rfl) (by kernel_rfl) (fun _ _ _ h => h) (Or.inl ⟨by rfl, ?_⟩) hH ?_
      · (intro w hSw; (try dsimp only at hSw); go_split_ands; go_simp; try with_reducible rfl)
      try simp only [Act.put, List.setIfInBounds_toArray, List.set_cons_zero, List.set_cons_succ]
      refine wpAnyH_take_dst (i := 10) (v := .int .i64 (f1 : Int)) (d := some 24) rfl rfl (by kernel_rfl) (by kernel_rfl) (by kernel_rfl) (fun _ _ _ h => h) (Or.inl ⟨by rfl, ?_⟩) hH ?_
      · (intro w hSw; (try dsimp only at hSw); go_split_ands; go_simp; try with_reducible rfl)
      try simp only [Act.put, List.setIfInBounds_toArray, List.set_cons_zero, List.set_cons_succ]
      refine wpAnyH_take_dst (i := 12) (v := .slice (some ⟨b, o2, none⟩) n c) (d := some 26) rfl rfl (by kernel_rfl) (by kernel_rfl) (by kernel_rfl) (fun _ _ _ h => h) (Or.inl ⟨by rfl, ?_⟩) hH ?_
      · (intro w hSw; (try dsimp only at hSw); go_split_ands; go_simp; try with_reducible rfl)
      try simp only [Act.put, List.setIfInBounds_toArray, List.set_cons_zero, List.set_cons_succ]
      refine wpAnyH_take_dst (i := 13) (v := .slice (some ⟨b', o', none⟩) d dc) (d := some 27) rfl rfl (by kernel_rfl) (by kernel_rfl) (by kernel_rfl) (fun _ _ _ h => h) (Or.inl ⟨by rfl, ?_⟩) hH ?_
      · (intro w hSw; (try dsimp only at hSw); go_split_ands; go_simp; try with_reducible rfl)
      try simp only [Act.put, List.setIfInBounds_toArray, List.set_cons_zero, List.set_cons_succ]
      refine wpAnyH_take_dst (i := 14) (v := .int .i64 (k : Int)) (d := some 28) rfl rfl (by kernel_rfl) (by kernel_rfl) (by kernel_rfl) (fun _ _ _ h => h) (Or.inl ⟨by rfl, ?_⟩) hH ?_
      · (intro w hSw; (try dsimp only at hSw); go_split_ands; go_simp; try with_reducible rfl)
      try simp only [Act.put, List.setIfInBounds_toArray, List.set_cons_zero, List.set_cons_succ]
      refine wpAnyH_take_dst (i := 15) (v := .pointer (some ⟨b', o' + k, none⟩)) (d := some 29) rfl rfl (by kernel_rfl) (by kernel_rfl) (by kernel_rfl) (fun _ _ _ h => h) (Or.inl ⟨by rfl, ?_⟩) hH ?_
      · (intro w hSw; (try dsimp only at hSw); go_split_ands; go_simp; try with_reducible rfl)
      try simp only [Act.put, List.setIfInBounds_toArray, List.set_cons_zero, List.set_cons_succ]
      refine wpAnyH_take_dst (i := 16) (v := .int .i64 (z : Int)) (d := some 30) rfl rfl (by kernel_rfl) (by kernel_rfl) (by kernel_rfl) (fun _ _ _ h => h) (Or.inl ⟨by rfl, ?_⟩) hH ?_
      · (intro w hSw; (try dsimp only at hSw); go_split_ands; go_simp; try with_reducible rfl)
      try simp only [Act.put, List.setIfInBounds_toArray, List.set_cons_zero, List.set_cons_succ]
      refine wpAnyH_take_dst (i := 17) (v := .pointer (some ⟨b, o2 + z * 4, none⟩)) (d := some 31) rfl rfl (by kernel_rfl) (by kernel_rfl) (by kernel_rfl) (fun _ _ _ h => h) (Or.inl ⟨by rfl, ?_⟩) hH ?_
      · (intro w hSw; (try dsimp only at hSw); go_split_ands; go_simp; try with_reducible rfl)
      try simp only [Act.put, List.setIfInBounds_toArray, List.set_cons_zero, List.set_cons_succ]
      refine wpAnyH_take_dst (i := 18) (v := .pointer (some ⟨b, o2 + z * 4 + 1, none⟩)) (d := some 32) rfl rfl (by kernel_rfl) (by kernel_rfl) (by kernel_rfl) (fun _ _ _ h => h) (Or.inl ⟨by rfl, ?_⟩) hH ?_
      · (intro w hSw; (try dsimp only at hSw); go_split_ands; go_simp; try with_reducible rfl)
      try simp only [Act.put, List.setIfInBounds_toArray, List.set_cons_zero, List.set_cons_succ]
      refine wpAnyH_take_dst (i := 19) (v := .slice (some ⟨b2, o3, none⟩) n2 c2) (d := some 33) rfl rfl (by kernel_rfl) (by kernel_rfl) (by kernel_rfl) (fun _ _ _ h => h) (Or.inl ⟨by rfl, ?_⟩) hH ?_
      · (intro w hSw; (try dsimp only at hSw); go_split_ands; go_simp; try with_reducible rfl)
      try simp only [Act.put, List.setIfInBounds_toArray, List.set_cons_zero, List.set_cons_succ]
      refine wpAnyH_take_dst (i := 20) (v := .pointer (some ⟨b2, o3, none⟩)) (d := some 34) rfl rfl (by kernel_rfl) (by kernel_rfl) (by kernel_rfl) (fun _ _ _ h => h) (Or.inl ⟨by rfl, ?_⟩) hH ?_
      · (intro w hSw; (try dsimp only at hSw); go_split_ands; go_simp; try with_reducible rfl)
      try simp only [Act.put, List.setIfInBounds_toArray, List.set_cons_zero, List.set_cons_succ]
      refine wpAnyH_take_dst (i := 21) (v := .int .i64 (f2 : Int)) (d := some 35) rfl rfl (by kernel_rfl) (by kernel_rfl) (by kernel_rfl) (fun _ _ _ h => h) (Or.inl ⟨by rfl, ?_⟩) hH ?_
      · (intro w hSw; (try dsimp only at hSw); go_split_ands; go_simp; try with_reducible rfl)
      try simp only [Act.put, List.setIfInBounds_toArray, List.set_cons_zero, List.set_cons_succ]
      refine wpAnyH_ready (rs := [11]) (by kernel_rfl) (by simp) ?_
      refine AllReadyH.cons rfl (fun K hK => ?_) AllReadyH.nil
      rw [if_pos (by rfl)]
      go_wp2_with (go_at_call 94; (with_reducible refine ((c_l1Into (RI.ext HY1.out hH.2.2.2.2.2) hcap (by omega))).mono ?_); rintro e w5 ⟨A5, n5, c5, ys5, rfl, hn5, hcap5, hr5, hi5, hE9⟩)
      refine hK.out _ _ ⟨Ext.keep hE9 hH.1, Ext.keep hE9 hH.2.1, Ext.keep hE9 hH.2.2.1, Ext.keep hE9 hH.2.2.2.1, Ext.keep hE9 hH.2.2.2.2.1, Ext.trans hH.2.2.2.2.2 hE9⟩ (fun hH9 => ?_)
      clear hK hH; have hH := hH9; clear hH9
      try simp only [Act.put, List.setIfInBounds_toArray, List.set_cons_zero, List.set_cons_succ]
      refine wpAnyH_ready (rs := [22]) (by kernel_rfl) (by simp) ?_
      refine AllReadyH.cons rfl (fun K hK => ?_) AllReadyH.nil
      rw [if_pos (by rfl)]
      go_wp2_with (go_at_call 94; (with_reducible refine ((c_l1Into hr5 hcap5 (by have := HY1.out.len; omega))).mono ?_); rintro e w6 ⟨A6, n6, c6, ys6, rfl, hn6, hcap6, hr6, hi6, hE9⟩)
      refine hK.out _ _ ⟨Ext.keep hE9 hH.1, Ext.keep hE9 hH.2.1, Ext.keep hE9 hH.2.2.1, Ext.keep hE9 hH.2.2.2.1, Ext.keep hE9 hH.2.2.2.2.1, Ext.trans hH.2.2.2.2.2 hE9⟩ (fun hH9 => ?_)
      clear hK hH; have hH := hH9; clear hH9
      try simp only [Act.put, List.setIfInBounds_toArray, List.set_cons_zero, List.set_cons_succ]
      refine wpAnyH_take_dst (i := 23) (v := .slice A6 n6 c6) (d := some 5) rfl rfl (by kernel_rfl) (by kernel_rfl) (by kernel_rfl) (fun _ _ _ h => h) (Or.inl ⟨by rfl, ?_⟩) hH ?_
      · (intro w hSw; (try dsimp only at hSw); go_split_ands; go_simp; try with_reducible rfl)
      try simp only [Act.put, List.setIfInBounds_toArray, List.set_cons_zero, List.set_cons_succ]
      refine wpAnyH_done (by kernel_rfl) ?_ _
      have hl := HY1.out.len
      have hl5 := hr5.len
      have hE6 := Ext.trans hE hH.2.2.2.2.2
      have HN := Lib.hid (show ∀ f, f ∈ ys6 ↔ HdIn ps (set.take (k + 1)) f from fun f => by
        rw [hi6 f, hi5 f, HY2.out f, HSU.out f, or_assoc])
      have HR6 := Lib.hid hr6
      clear hr5 hr6 hH
      go_wp2
      go_roundw
      case rel => exact ⟨k + 1, by go_num, by omega, ⟨_, _, _, rfl, by omega, hcap6, Lib.hid ⟨ys6, HR6.out, HN.out⟩⟩, hE6⟩
      case measure => simp only [intOf]; omega
    · obtain rfl : k = d := by omega
      obtain ⟨ys, hY1, hY2⟩ := hY.out
      have HT := Lib.hid (show set.take k = set from List.take_of_length_le (by omega))
      have HY1 := Lib.hid hY1
      have HY2 := Lib.hid hY2
      clear hY1 hY2 hY
      go_wp2_with fail
      go_ret
      exact ⟨B, m, dd, ys, rfl, HY1.out, by rw [← HT.out]; exact HY2.out, hE⟩
/-- A set of few numbers is short. -/
theorem set_low {n : Nat} {xs : List Int} (h : SetP n xs) : ∀ (i : Nat) (x : Int), xs[i]? = some x → (i : Int) ≤ x
  | 0, x, hx => (h 0 x hx).1.1
  | i + 1, x, hx => by
    have hi : i < xs.length := by have := (List.getElem?_eq_some_iff.1 hx).1; omega
    have h1 := set_low h i xs[i] (List.getElem?_eq_getElem hi)
    have h2 := (h (i + 1) x hx).2 xs[i] (by omega) (by rw [Nat.add_sub_cancel]; exact List.getElem?_eq_getElem hi)
    omega
theorem set_le {n : Nat} {xs : List Int} (h : SetP n xs) (hn : n ≤ 64) : xs.length ≤ 64 := by
  rcases Nat.eq_zero_or_pos xs.length with h0 | h0
  · omega
  · have hi : xs.length - 1 < xs.length := by omega
    have hx := List.getElem?_eq_getElem hi
    have h1 := set_low h _ _ hx
    have h2 := (h _ _ hx).1.2
    omega
/-- What the choices at a place are. -/
theorem choice {ar xs : List Int} {ps : List DepP} {set : List Int} {j : Nat} {x a : Int} (hs : SigP ar) (hb : Btw xs (lowP ar ps set) (highP ar ps set)) (hx : xs[j]? = some x) (ha : ar[j]? = some a) :
    ∃ l h, (lowP ar ps set)[j]? = some l ∧ (highP ar ps set)[j]? = some h ∧ l ≤ x ∧ x ≤ h ∧ ((l = 0 ∧ h = a - 1) ∨ (l = -1 ∧ h = -1)) := by
  obtain ⟨l, h, h1, h2, h3, h4⟩ := hb.at_ hx
  refine ⟨l, h, h1, h2, h3, h4, ?_⟩
  have hj : j < ar.length := (List.getElem?_eq_some_iff.1 ha).1
  rw [lowP, lowK_at hj] at h1
  rw [highP, highK_at hj, List.getD_eq_getElem?_getD, ha] at h2
  by_cases h5 : j < ar.length ∧ hdB ps set (j : Int) = true
  · rw [if_pos h5] at h1 h2
    simp at h1 h2; omega
  · rw [if_neg h5] at h1 h2
    simp at h1 h2; omega
theorem low_snoc {ar : List Int} {ps : List DepP} {set : List Int} {k : Nat} (hk : k < ar.length) : (lowP ar ps set).take (k + 1) = (lowP ar ps set).take k ++ [if hdB ps set (k : Int) = true then 0 else -1] := by
  have h : (lowP ar ps set)[k]? = some (if hdB ps set (k : Int) = true then 0 else -1) := by rw [lowP, lowK_at hk]; simp [hk]
  rw [List.take_add_one, h]; rfl
theorem projOk_iff {ar pr : List Int} : projOk ar pr = true ↔ ProjP ar pr := by simp only [projOk, decide_eq_true_eq]
theorem up_keep {xs ls : List Int} {j : Nat} {l : Int} (h1 : xs[j]? = some l) (h2 : ls[j]? = some l) : xs.take (j + 1) ++ ls.drop (j + 1) = xs.take j ++ ls.drop j := by
  obtain ⟨a, b⟩ := List.getElem?_eq_some_iff.1 h2
  rw [List.take_add_one, h1, List.append_assoc, List.drop_eq_getElem_cons a, b]; rfl
theorem c_l1HasJ {v : Value} {t : List Int} {x : Int} {w : World} {b : Bool} (hb : (x ∈ t) ↔ b = true) (h0 : RdI w v t) : Calls Try.prog 51 #[v, .int .i64 x] w fun e w' => e = .returned (.bool b) ∧ Ext w w' :=
  c_l1Has' (by by_cases h : x ∈ t <;> simp [h] <;> (first | exact hb.1 h | (cases b with | false => rfl | true => exact absurd (hb.2 rfl) h))) h0
set_option maxRecDepth 100000 in
set_option maxHeartbeats 8000000 in
theorem c_sFirstProj {v0 v1 : Value} {s : Sy} {set : List Int} {o : Option (List Int)} {w : World} (ho : fpV s set = o) (h0 : RdSyC w v0 s) (h1 : RdI w v1 set) :
    Calls Try.prog 10 #[v0, v1] w (NewOr w o) := by
  obtain ⟨A0, n0, c0, B0, m0, d0, rfl, ha, hb⟩ := h0
  obtain ⟨D, m, d, rfl, hd⟩ := h1
  have HA := Lib.hid ha
  have HB := Lib.hid hb
  have HD := Lib.hid hd
  have hdle := hd.len
  have hn0 := ha.len
  clear ha hb hd
  obtain ⟨i0, hii, hiz, his, hib⟩ := info_parts int64_info
  cases hpb : prB s with
  | false =>
    have HO := Lib.hid (show o = none by rw [← ho]; exact fpV_no1 hpb)
    clear ho
    go_enter Try.func10, Try.ntmps10
    go_wp2_with fail
    (with_reducible refine (c_sPairsOf rfl hpb (RdSyK.mk (RI.ext HA.out (by (repeat' (first | (with_reducible exact Ext.refl _) | (with_reducible assumption) | (with_reducible refine Ext.alloc ?_ _) | (with_reducible refine Ext.set ?_ ?_ _) | (with_reducible refine Ext.drewN ?_ _) | (with_reducible refine Ext.drew ?_) | (with_reducible refine Ext.trans ?_ (by with_reducible assumption)) | go_size)))) (RR.ext HB.out (by (repeat' (first | (with_reducible exact Ext.refl _) | (with_reducible assumption) | (with_reducible refine Ext.alloc ?_ _) | (with_reducible refine Ext.set ?_ ?_ _) | (with_reducible refine Ext.drewN ?_ _) | (with_reducible refine Ext.drew ?_) | (with_reducible refine Ext.trans ?_ (by with_reducible assumption)) | go_size)))))).mono ?_)
    rintro e w2 ⟨A2, n2, c2, rfl, hO2, hE2⟩
    clear hO2
    go_wp2_with fail
    refine bodyPost_ret (v := .tuple #[.slice (some ⟨w2.heap.size, 0, none⟩) 0 0, .bool false]) (by simp [results, Try.results10, go_sem]) rfl ?_
    rw [HO.out]
    exact ⟨_, 0, 0, rfl, RI.nil _ _, by (repeat' (first | (with_reducible exact Ext.refl _) | (with_reducible assumption) | (with_reducible refine Ext.alloc ?_ _) | (with_reducible refine Ext.set ?_ ?_ _) | (with_reducible refine Ext.drewN ?_ _) | (with_reducible refine Ext.drew ?_) | (with_reducible refine Ext.trans ?_ (by with_reducible assumption)) | go_size))⟩
  | true =>
    have HPB := Lib.hid hpb
    go_enter Try.func10, Try.ntmps10
    go_wp2_with fail
    (with_reducible refine (c_sPairsOf rfl hpb (RdSyK.mk (RI.ext HA.out (by (repeat' (first | (with_reducible exact Ext.refl _) | (with_reducible assumption) | (with_reducible refine Ext.alloc ?_ _) | (with_reducible refine Ext.set ?_ ?_ _) | (with_reducible refine Ext.drewN ?_ _) | (with_reducible refine Ext.drew ?_) | (with_reducible refine Ext.trans ?_ (by with_reducible assumption)) | go_size)))) (RR.ext HB.out (by (repeat' (first | (with_reducible exact Ext.refl _) | (with_reducible assumption) | (with_reducible refine Ext.alloc ?_ _) | (with_reducible refine Ext.set ?_ ?_ _) | (with_reducible refine Ext.drewN ?_ _) | (with_reducible refine Ext.drew ?_) | (with_reducible refine Ext.trans ?_ (by with_reducible assumption)) | go_size)))))).mono ?_)
    rintro e w2 ⟨A2, n2, c2, rfl, hO2, hE2⟩
    have hlen := hO2.1.2.1
    have h64 := prV_le hpb
    rw [hlen] at h64
    have HR2 := Lib.hid hO2.re
    have hEw2 : Ext w w2 := by (repeat' (first | (with_reducible exact Ext.refl _) | (with_reducible assumption) | (with_reducible refine Ext.alloc ?_ _) | (with_reducible refine Ext.set ?_ ?_ _) | (with_reducible refine Ext.drewN ?_ _) | (with_reducible refine Ext.drew ?_) | (with_reducible refine Ext.trans ?_ (by with_reducible assumption)) | go_size))
    have hb0 : w2.cell? ⟨w.heap.size, 0, none⟩ = some (.slice A0 n0 c0) := Ext.keep hE2 (by simp [go_sem])
    have hb1 : w2.cell? ⟨w.heap.size, 1, none⟩ = some (.slice B0 m0 d0) := Ext.keep hE2 (by simp [go_sem])
    clear hO2
    cases hst : setB (prV s).length set with
    | false =>
      have HO := Lib.hid (show o = none by rw [← ho]; exact fpV_no2 hst)
      rw [hlen] at hst
      clear ho
      go_wp2_with fail
      (with_reducible refine (c_l18Set hst (RdI.mk (RI.ext HD.out hEw2)) (by omega)).mono ?_)
      rintro e w3 ⟨rfl, hE3⟩
      go_wp2_with fail
      refine bodyPost_ret (v := .tuple #[.slice (some ⟨w3.heap.size, 0, none⟩) 0 0, .bool false]) (by simp [results, Try.results10, go_sem]) rfl ?_
      rw [HO.out]
      exact ⟨_, 0, 0, rfl, RI.nil _ _, by (repeat' (first | (with_reducible exact Ext.refl _) | (with_reducible assumption) | (with_reducible refine Ext.alloc ?_ _) | (with_reducible refine Ext.set ?_ ?_ _) | (with_reducible refine Ext.drewN ?_ _) | (with_reducible refine Ext.drew ?_) | (with_reducible refine Ext.trans ?_ (by with_reducible assumption)) | go_size))⟩
    | true =>
      have HST := Lib.hid (setB_iff.1 hst)
      have hst' := hst
      rw [hlen] at hst'
      have HSB := Lib.hid hst
      have HO := Lib.hid (show fpGo s.ar (prV s) set = o by rw [← ho]; exact (fpV_yes hpb hst).symm)
      have HSL := Lib.hid (set_le HST.out (by omega))
      rw [hlen] at HST
      have HSP := Lib.hid (sysP_sig (prB_sys HPB.out))
      clear ho
      go_wp2_with fail
      (with_reducible refine (c_l18Set hst' (RdI.mk (RI.ext HD.out hEw2)) (by omega)).mono ?_)
      rintro e w3 ⟨rfl, hE3⟩
      have hEw3 := Ext.trans hEw2 hE3
      go_wp2_with fail
      (with_reducible refine (c_l18Heads (RE.ext HR2.out hE3) (RdI.mk (RI.ext HD.out hEw3)) (prV_ok HPB.out) HST.out HSL.out).mono ?_)
      rintro e w4 ⟨A4, n4, c4, ys, rfl, hR4, hY4, hE4⟩
      have HR4 := Lib.hid hR4
      have HY4 := Lib.hid hY4
      have hEw4 := Ext.trans hEw3 hE4
      have hb40 := Ext.keep hE4 (Ext.keep hE3 hb0)
      have hb41 := Ext.keep hE4 (Ext.keep hE3 hb1)
      have HO4 := Lib.hid (OwI.noneJ (w := w4) (D := w4.heap.size) (Nat.le_refl _))
      have HLL := Lib.hid (show (lowP s.ar (prV s) set).length = n0 by rw [lowP, lowK_len]; exact hn0)
      clear hR4 hY4
      go_wp2_with fail
      go_loopw [9, 10] (fun ov kv wr => ∃ k : Nat, kv = .int .i64 k ∧ k ≤ n0 ∧ (∃ A9 c9, ov = .slice A9 k c9 ∧ Hid (OwI wr w4.heap.size A9 k c9 ((lowP s.ar (prV s) set).take k))) ∧ Hid (∀ f, f < k → hdB (prV s) set (f : Int) = true → ¬ s.ar[f]? = some 0) ∧ Ext w4 wr) (fun _ kv _ => n0 - (intOf kv).toNat)
      case atStart => exact ⟨0, rfl, Nat.zero_le _, ⟨_, 0, rfl, Lib.hid (by rw [List.take_zero]; exact HO4.out)⟩, Lib.hid (fun f h => by omega), (Ext.refl _).alloc _⟩
      case round =>
        obtain ⟨k, rfl, hk, ⟨A9, c9, rfl, hO9⟩, hNF, hE⟩ := hrel
        have hEw : Ext w wr := Ext.trans hEw4 hE
        have hr0 := Ext.keep hE hb40
        have hr1 := Ext.keep hE hb41
        have hk8 : n0 ≤ 8 := by have := HSP.out.2.1; omega
        by_cases hlt : k < n0
        · obtain ⟨bs, os, x, rfl, hx, hcx⟩ := RI.at_ (RI.ext HA.out hEw) hlt
          have HX := Lib.hid hx
          have hki : (k : Int) < (n0 : Int) := by omega
          have hk0 : (0 : Int) ≤ (k : Int) := by omega
          have HSN := Lib.hid (low_snoc (ps := prV s) (set := set) (show k < s.ar.length by omega))
          clear hx
          obtain ⟨bk, hbk⟩ : ∃ bk, hdB (prV s) set (k : Int) = bk := ⟨_, rfl⟩
          have HBK := Lib.hid hbk
          go_wp2_with fail
          (with_reducible refine (c_l1HasJ (b := bk) (by rw [← HBK.out, hdB_iff]; exact HY4.out k) (RdI.mk (RI.ext HR4.out hE))).mono ?_)
          rintro e w5 ⟨rfl, hE5⟩
          have hE5w := Ext.trans hE hE5
          have hs0 := Ext.keep hE5 hr0
          have hs1 := Ext.keep hE5 hr1
          have hsx := Ext.keep hE5 hcx
          have HO5 := Lib.hid (hO9.out.ext hE5)
          have hsz5 := hE5w.size
          clear hbk hO9
          cases bk with
          | false =>
            go_wp2_with (at_builtin; go_loud (refine wpList_append_lies _ rfl (.tmp 56) (.tmp 57) 22 rfl w4.heap.size 2 i0 (.int .i64 0) 1 8 Try.underlying22 hii hiz his hib rfl (by decide) _ _ _ rfl (OwI.alloc HO5.out _).2 ⟨w5.heap.size, 0, none⟩ 1 1 [.int .i64 (-1)] rfl rfl (one_cells _ _ _) (one_one _) (by decide) (by unfold maxLen; omega) (by omega) (by go_size) _ rfl ?_))
            intro g4 cap wx hown hg hat hltg
            have HON := Lib.hid (show OwI wx w4.heap.size (some ⟨g4, 0, none⟩) (k + 1) cap ((lowP s.ar (prV s) set).take (k + 1)) from ⟨by omega, by rw [HSN.out, HBK.out]; simpa using hown⟩)
            have hob := OwI.ob2 HO5.out
            have hEx : Ext w4 wx := Ext.grown (hE5w.alloc _) hg (fun b hb => (hob b hb).1)
            have HNF := Lib.hid (show ∀ f, f < k + 1 → hdB (prV s) set (f : Int) = true → ¬ s.ar[f]? = some 0 from fun f h1 h2 => by
              rcases Nat.lt_or_ge f k with h3 | h3
              · exact hNF.out f h3 h2
              · obtain rfl : f = k := by omega
                rw [HBK.out] at h2; cases h2)
            clear hown hg hat hob
            go_wp2
            go_roundw
            case rel => exact ⟨k + 1, by go_num, by omega, ⟨_, _, rfl, HON⟩, HNF, hEx⟩
            case measure => simp only [intOf]; omega
          | true =>
            by_cases hx0 : x = 0
            · subst hx0
              have HP := Lib.hid (show o = none by rw [← HO.out]; exact fpGo_bad (by omega) HBK.out HX.out rfl)
              go_wp2_with fail
              refine bodyPost_ret (v := .tuple #[.slice (some ⟨w5.heap.size, 0, none⟩) 0 0, .bool false]) (by simp [results, Try.results10, go_sem]) rfl ?_
              rw [HP.out]
              exact ⟨_, 0, 0, rfl, RI.nil _ _, (Ext.trans hEw4 hE5w).alloc _⟩
            · have hxe : ((x : Int) == 0) = false := by simpa using hx0
              go_wp2_with (at_builtin; go_loud (refine wpList_append_lies _ rfl (.tmp 53) (.tmp 54) 22 rfl w4.heap.size 2 i0 (.int .i64 0) 1 8 Try.underlying22 hii hiz his hib rfl (by decide) _ _ _ rfl (OwI.alloc HO5.out _).2 ⟨w5.heap.size, 0, none⟩ 1 1 [.int .i64 0] rfl rfl (one_cells _ _ _) (one_one _) (by decide) (by unfold maxLen; omega) (by omega) (by go_size) _ rfl ?_))
              intro g4 cap wx hown hg hat hltg
              have HON := Lib.hid (show OwI wx w4.heap.size (some ⟨g4, 0, none⟩) (k + 1) cap ((lowP s.ar (prV s) set).take (k + 1)) from ⟨by omega, by rw [HSN.out, HBK.out]; simpa using hown⟩)
              have hob := OwI.ob2 HO5.out
              have hEx : Ext w4 wx := Ext.grown (hE5w.alloc _) hg (fun b hb => (hob b hb).1)
              have HNF := Lib.hid (show ∀ f, f < k + 1 → hdB (prV s) set (f : Int) = true → ¬ s.ar[f]? = some 0 from fun f h1 h2 => by
                rcases Nat.lt_or_ge f k with h3 | h3
                · exact hNF.out f h3 h2
                · obtain rfl : f = k := by omega
                  rw [HX.out]; intro e; cases e; exact hx0 rfl)
              clear hown hg hat hob
              go_wp2
              go_roundw
              case rel => exact ⟨k + 1, by go_num, by omega, ⟨_, _, rfl, HON⟩, HNF, hEx⟩
              case measure => simp only [intOf]; omega
        · obtain rfl : k = n0 := by omega
          obtain ⟨wq, rfl⟩ : ∃ wq : World, wq = wr := ⟨_, rfl⟩
          have HL := Lib.hid (show OwI wq w4.heap.size A9 k c9 (lowP s.ar (prV s) set) by have h := hO9.out; rwa [List.take_of_length_le (by rw [HLL.out]; exact Nat.le_refl _)] at h)
          have HNB := Lib.hid (show ¬ BadH s.ar (prV s) set from fun ⟨f, h1, h2, h3⟩ => hNF.out f (by omega) h2 h3)
          have HWAY := Lib.hid (fp_start HSP.out HNB.out HO.out)
          have hk1 : 1 ≤ k := by have := HSP.out.1; omega
          obtain ⟨g5, rfl, hg5, hg5l⟩ : ∃ g, A9 = some ⟨g, 0, none⟩ ∧ w4.heap.size ≤ g ∧ g < wq.heap.size := by
            rcases HL.out.form with ⟨_, h, _⟩ | h
            · omega
            · exact h
          have hwl4 : w.heap.size < w4.heap.size := World.block_lt_of_cell? w4 _ hb40
          clear hO9 hNF
          go_wp2_with fail
          go_loopw [11] (fun mv wr => ∃ more : Bool, mv = .bool more ∧ Hid ((more = true → ∃ j xs, OwI wr w4.heap.size (some ⟨g5, 0, none⟩) k c9 xs ∧ OnWay (GoesBy s.ar (prV s) set) (lowP s.ar (prV s) set) (highP s.ar (prV s) set) o j xs) ∧ (more = false → o = none)) ∧ Ext w4 wr) (fun mv wr => fpMeas (GoesBy s.ar (prV s) set) (lowP s.ar (prV s) set) (highP s.ar (prV s) set) o w4.heap.size g5 k c9 mv wr)
          case atStart => exact ⟨true, rfl, Lib.hid ⟨fun _ => by
            obtain ⟨j, hj⟩ := HWAY.out
            exact ⟨j, _, HL.out, hj⟩, fun h => by cases h⟩, hE⟩
          case round =>
            obtain ⟨more, rfl, hI, hEr⟩ := hrel
            have hErw := Ext.trans hEw4 hEr
            have hcr0 := Ext.keep hEr hb40
            have hcr1 := Ext.keep hEr hb41
            cases more with
            | false =>
              have HP := Lib.hid (hI.out.2 rfl)
              go_wp2_with fail
              refine bodyPost_ret (v := .tuple #[.slice (some ⟨wr.heap.size, 0, none⟩) 0 0, .bool false]) (by simp [results, Try.results10, go_sem]) rfl ?_
              rw [HP.out]
              exact ⟨_, 0, 0, rfl, RI.nil _ _, hErw.alloc _⟩
            | true =>
              have hex : ∃ j xs, OwI wr w4.heap.size (some ⟨g5, 0, none⟩) k c9 xs ∧ OnWay (GoesBy s.ar (prV s) set) (lowP s.ar (prV s) set) (highP s.ar (prV s) set) o j xs := hI.out.1 rfl
              obtain ⟨⟨xs, hX, hW⟩, _⟩ := leastOf_spec hex
              have HX := Lib.hid hX
              have HW := Lib.hid hW
              have HPJ := Lib.hid (projOk_iff.2 (btw_proj HSP.out hW.btw))
              obtain ⟨o', ho'⟩ : ∃ o', prjGo s.ar xs (prV s) set [] = o' := ⟨_, rfl⟩
              have HO' := Lib.hid ho'
              have HPV := Lib.hid (show prjV s set xs = o' by rw [← HO'.out]; exact prjV_yes HPB.out HSB.out HPJ.out)
              clear hX hW ho' hex
              obtain ⟨wo, rfl⟩ : ∃ wo : World, wo = wr := ⟨_, rfl⟩
              go_wp2_with fail
              (with_reducible refine (c_sProjectedBy HPV.out (RdSyK.mk (RI.ext HA.out hErw) (RR.ext HB.out hErw)) (RdI.mk (RI.ext HD.out hErw)) (RdI.mk HX.out.ri)).mono ?_)
              rintro e w9 ⟨A7, n7, c7, rfl, hO7, hE9⟩
              have hn7 := hO7.len
              have hE9w := Ext.trans hErw hE9
              have hE94 := Ext.trans hEr hE9
              have HX9 := Lib.hid (HX.out.ext hE9)
              have hc90 := Ext.keep hE9 hcr0
              have hc91 := Ext.keep hE9 hcr1
              clear hO7
              by_cases hgo : GoesBy s.ar (prV s) set xs
              · have HP := Lib.hid (HW.out.yes hgo)
                obtain ⟨y, ys', hy⟩ := hgo
                rw [HO'.out] at hy
                subst hy
                simp at hn7
                have h7 : (n7 : Int) > 0 := by omega
                have h7p : 0 < n7 := by omega
                simp only [Option.isSome_some]
                go_wp2_with fail
                refine bodyPost_ret (v := .tuple #[.slice (some ⟨g5, 0, none⟩) k c9, .bool true]) (by simp [results, Try.results10, go_sem]) rfl ?_
                rw [HP.out]
                exact ⟨_, _, _, rfl, HX9.out.ri, hE9w⟩
              · have h0 : o' = none ∨ o' = some [] := by
                  cases o' with
                  | none => exact .inl rfl
                  | some l => cases l with
                    | nil => exact .inr rfl
                    | cons y ys' => exact absurd ⟨y, ys', HO'.out⟩ hgo
                rcases hup : up xs (lowP s.ar (prV s) set) (highP s.ar (prV s) set) with ⟨ys', bb⟩
                have HUP := Lib.hid hup
                have HNX := Lib.hid (show (bb = true → ∃ m, m < leastOf (fun j => ∃ xs, OwI wo w4.heap.size (some ⟨g5, 0, none⟩) k c9 xs ∧ OnWay (GoesBy s.ar (prV s) set) (lowP s.ar (prV s) set) (highP s.ar (prV s) set) o j xs) ∧ OnWay (GoesBy s.ar (prV s) set) (lowP s.ar (prV s) set) (highP s.ar (prV s) set) o m ys') ∧ (bb = false → o = none) from ⟨fun e => by subst e; exact HW.out.next hgo hup, fun e => by subst e; exact HW.out.stop hgo hup⟩)
                have HBT := Lib.hid HW.out.btw
                have HLN := Lib.hid HBT.out.len
                have hn70 : o' = some [] → n7 = 0 := fun e => by subst e; simpa using hn7.symm
                clear hup hgo hn7
                rcases h0 with rfl | rfl
                · simp only [Option.isSome_none]
                  go_wp2_with fail
                  go_loopw [14, 11] (fun jv mv wr => ∃ (j : Nat) (more : Bool), jv = .int .i64 ((j : Int) - 1) ∧ mv = .bool more ∧ j ≤ k ∧ Hid ((more = false → OwI wr w4.heap.size (some ⟨g5, 0, none⟩) k c9 (xs.take j ++ (lowP s.ar (prV s) set).drop j) ∧ up (xs.drop j) ((lowP s.ar (prV s) set).drop j) ((highP s.ar (prV s) set).drop j) = ((lowP s.ar (prV s) set).drop j, false)) ∧ (more = true → OwI wr w4.heap.size (some ⟨g5, 0, none⟩) k c9 ys' ∧ bb = true)) ∧ Ext w4 wr) (fun jv _ _ => (intOf jv + 1).toNat)
                  case atStart => exact ⟨k, false, by go_num, rfl, Nat.le_refl _, Lib.hid ⟨fun _ => ⟨by
                    have h1 := HLN.out; have h2 := HLL.out
                    rw [List.take_of_length_le (by omega), List.drop_of_length_le (by omega), List.append_nil]; exact HX9.out, by
                    have h1 := HLN.out; have h2 := HLL.out
                    rw [List.drop_of_length_le (by omega), List.drop_of_length_le (by omega), List.drop_of_length_le (by omega)]; rfl⟩, fun h => by cases h⟩, hE94⟩
                  case round =>
                    obtain ⟨j1, more, rfl, rfl, hj1, hIN, hEr2⟩ := hrel
                    have hErw2 := Ext.trans hEw4 hEr2
                    have hcr20 := Ext.keep hEr2 hb40
                    have hcr21 := Ext.keep hEr2 hb41
                    cases more with
                    | true =>
                      have HI2 := Lib.hid (hIN.out.2 rfl)
                      have hbb := HI2.out.2
                      go_wp2_with fail
                      all_goals
                        go_roundw
                        case rel => exact ⟨true, rfl, Lib.hid ⟨fun _ => by
                          obtain ⟨m, _, hm⟩ := HNX.out.1 hbb
                          exact ⟨m, ys', HI2.out.1, hm⟩, fun h => by cases h⟩, hEr2⟩
                        case measure =>
                          rw [fpMeas_t, fpMeas_t]
                          obtain ⟨m, hm1', hm2⟩ := HNX.out.1 hbb
                          have := leastOf_le (R := fun j => ∃ xs, OwI wr w4.heap.size (some ⟨g5, 0, none⟩) k c9 xs ∧ OnWay (GoesBy s.ar (prV s) set) (lowP s.ar (prV s) set) (highP s.ar (prV s) set) o j xs) ⟨ys', HI2.out.1, hm2⟩
                          omega
                    | false =>
                      have HI2 := Lib.hid (hIN.out.1 rfl)
                      rcases Nat.eq_zero_or_pos j1 with hz | hz
                      · subst hz
                        have hz0 : ¬ ((0 : Nat) : Int) - 1 ≥ 0 := by omega
                        have HNO := Lib.hid (show o = none by
                          have h3 := HI2.out.2
                          rw [List.drop_zero, List.drop_zero, List.drop_zero, HUP.out] at h3
                          cases h3; exact HNX.out.2 rfl)
                        go_wp2_with fail
                        go_roundw
                        case rel => exact ⟨false, rfl, Lib.hid ⟨(fun h => by cases h), fun _ => HNO.out⟩, hEr2⟩
                        case measure => rw [fpMeas_t, fpMeas_f]; omega
                      · obtain ⟨j, rfl⟩ : ∃ j, j1 = j + 1 := ⟨j1 - 1, by omega⟩
                        have hji : (((j + 1 : Nat) : Int)) - 1 = (j : Int) := by omega
                        rw [hji]
                        have hjn : j < k := by omega
                        obtain ⟨x, hx⟩ : ∃ x, xs[j]? = some x := ⟨_, List.getElem?_eq_getElem (by have h1 := HLN.out; have h2 := HLL.out; omega)⟩
                        obtain ⟨x', hx', hcx, hfx⟩ := OwI.at_ HI2.out.1 hjn
                        rw [up_get hx] at hx'; cases hx'
                        obtain ⟨ba, oa, a, rfl, ha, hca⟩ := RI.at_ (RI.ext HA.out hErw2) hjn
                        obtain ⟨l, h, hl, hh, hlx, hxh, hch⟩ := choice HSP.out HBT.out hx ha
                        have ha3 := HSP.out.2.2 a (List.mem_of_getElem? ha)
                        have HXJ := Lib.hid hx
                        have HLJ := Lib.hid hl
                        have HHJ := Lib.hid hh
                        have hj0 : (0 : Int) ≤ (j : Int) := by omega
                        have hjd : decide ((0 : Int) ≤ (j : Int)) = true := by simp
                        have hjni : (j : Int) < (k : Int) := by omega
                        have hgl : g5 < wr.heap.size := World.block_lt_of_cell? wr _ hcx
                        have hw1 : IntKind.i64.wrap (a - 1) = a - 1 := IntWalk.i64_in _ (by omega)
                        have hw2 : IntKind.i64.wrap (x + 1) = x + 1 := IntWalk.i64_in _ (by omega)
                        clear hx hl hh ha
                        rcases hch with ⟨hl0, hha⟩ | ⟨hl0, hha⟩
                        · subst hl0
                          subst hha
                          have hd1 : decide ((0 : Int) ≤ x) = true := by simpa using hlx
                          by_cases hxh2 : x < a - 1
                          · have hd2 : decide (x < a - 1) = true := by simpa using hxh2
                            have HE := Lib.hid (show ys' = xs.take j ++ (x + 1) :: (lowP s.ar (prV s) set).drop (j + 1) ∧ bb = true by
                              have h3 := up_at (by have := HLN.out; omega) (by have := HLN.out; omega) HXJ.out HHJ.out hxh2 HI2.out.2
                              rw [HUP.out] at h3
                              cases h3; exact ⟨rfl, rfl⟩)
                            go_wp2_with fail
                            go_quiet (fail)
                            have HN := Lib.hid (show OwI ((wr.drewN nq).setCell ⟨g5, j, none⟩ (.int .i64 (x + 1))) w4.heap.size (some ⟨g5, 0, none⟩) k c9 ys' by rw [HE.out.1, ← up_mid2 (x + 1) HXJ.out]; exact OwI.set (OwI.drewN HI2.out.1 nq) j (x + 1))
                            have hE10 : Ext w4 ((wr.drewN nq).setCell ⟨g5, j, none⟩ (.int .i64 (x + 1))) := Ext.set (hEr2.drewN nq) hg5 _
                            go_wp2
                            go_roundw
                            case rel => exact ⟨j, true, by go_num, rfl, by omega, Lib.hid ⟨(fun h => by cases h), fun _ => ⟨HN.out, HE.out.2⟩⟩, hE10⟩
                            case measure => simp only [intOf]; omega
                          · have hd2 : decide (x < a - 1) = false := by simpa using hxh2
                            have HB2 := Lib.hid (up_back HXJ.out HLJ.out HHJ.out hxh2 HI2.out.2)
                            go_wp2_with fail
                            go_quiet (fail)
                            have HN := Lib.hid (show OwI ((wr.drewN nq).setCell ⟨g5, j, none⟩ (.int .i64 0)) w4.heap.size (some ⟨g5, 0, none⟩) k c9 (xs.take j ++ (lowP s.ar (prV s) set).drop j) by rw [← up_mid (by have := HLN.out; omega) HLJ.out]; exact OwI.set (OwI.drewN HI2.out.1 nq) j 0)
                            have hE10 : Ext w4 ((wr.drewN nq).setCell ⟨g5, j, none⟩ (.int .i64 0)) := Ext.set (hEr2.drewN nq) hg5 _
                            go_wp2
                            go_roundw
                            case rel => exact ⟨j, false, by go_num, rfl, by omega, Lib.hid ⟨fun _ => ⟨HN.out, HB2.out⟩, fun h => by cases h⟩, hE10⟩
                            case measure => simp only [intOf]; omega
                        · subst hl0
                          subst hha
                          obtain rfl : x = -1 := by omega
                          have HB2 := Lib.hid (up_back HXJ.out HLJ.out HHJ.out (by omega) HI2.out.2)
                          have HKP := Lib.hid (up_keep HXJ.out HLJ.out)
                          have hd1 : decide ((0 : Int) ≤ -1) = false := by decide
                          go_wp2_with fail
                          go_quiet (fail)
                          have HN := Lib.hid (show OwI (wr.drewN nq) w4.heap.size (some ⟨g5, 0, none⟩) k c9 (xs.take j ++ (lowP s.ar (prV s) set).drop j) by rw [← HKP.out]; exact OwI.drewN HI2.out.1 nq)
                          have hE10 : Ext w4 (wr.drewN nq) := hEr2.drewN nq
                          go_wp2
                          go_roundw
                          case rel => exact ⟨j, false, by go_num, rfl, by omega, Lib.hid ⟨fun _ => ⟨HN.out, HB2.out⟩, fun h => by cases h⟩, hE10⟩
                          case measure => simp only [intOf]; omega
                · obtain rfl : n7 = 0 := hn70 rfl
                  simp only [Option.isSome_some]
                  go_wp2_with fail
                  go_loopw [14, 11] (fun jv mv wr => ∃ (j : Nat) (more : Bool), jv = .int .i64 ((j : Int) - 1) ∧ mv = .bool more ∧ j ≤ k ∧ Hid ((more = false → OwI wr w4.heap.size (some ⟨g5, 0, none⟩) k c9 (xs.take j ++ (lowP s.ar (prV s) set).drop j) ∧ up (xs.drop j) ((lowP s.ar (prV s) set).drop j) ((highP s.ar (prV s) set).drop j) = ((lowP s.ar (prV s) set).drop j, false)) ∧ (more = true → OwI wr w4.heap.size (some ⟨g5, 0, none⟩) k c9 ys' ∧ bb = true)) ∧ Ext w4 wr) (fun jv _ _ => (intOf jv + 1).toNat)
                  case atStart => exact ⟨k, false, by go_num, rfl, Nat.le_refl _, Lib.hid ⟨fun _ => ⟨by
                    have h1 := HLN.out; have h2 := HLL.out
                    rw [List.take_of_length_le (by omega), List.drop_of_length_le (by omega), List.append_nil]; exact HX9.out, by
                    have h1 := HLN.out; have h2 := HLL.out
                    rw [List.drop_of_length_le (by omega), List.drop_of_length_le (by omega), List.drop_of_length_le (by omega)]; rfl⟩, fun h => by cases h⟩, hE94⟩
                  case round =>
                    obtain ⟨j1, more, rfl, rfl, hj1, hIN, hEr2⟩ := hrel
                    have hErw2 := Ext.trans hEw4 hEr2
                    have hcr20 := Ext.keep hEr2 hb40
                    have hcr21 := Ext.keep hEr2 hb41
                    cases more with
                    | true =>
                      have HI2 := Lib.hid (hIN.out.2 rfl)
                      have hbb := HI2.out.2
                      go_wp2_with fail
                      all_goals
                        go_roundw
                        case rel => exact ⟨true, rfl, Lib.hid ⟨fun _ => by
                          obtain ⟨m, _, hm⟩ := HNX.out.1 hbb
                          exact ⟨m, ys', HI2.out.1, hm⟩, fun h => by cases h⟩, hEr2⟩
                        case measure =>
                          rw [fpMeas_t, fpMeas_t]
                          obtain ⟨m, hm1', hm2⟩ := HNX.out.1 hbb
                          have := leastOf_le (R := fun j => ∃ xs, OwI wr w4.heap.size (some ⟨g5, 0, none⟩) k c9 xs ∧ OnWay (GoesBy s.ar (prV s) set) (lowP s.ar (prV s) set) (highP s.ar (prV s) set) o j xs) ⟨ys', HI2.out.1, hm2⟩
                          omega
                    | false =>
                      have HI2 := Lib.hid (hIN.out.1 rfl)
                      rcases Nat.eq_zero_or_pos j1 with hz | hz
                      · subst hz
                        have hz0 : ¬ ((0 : Nat) : Int) - 1 ≥ 0 := by omega
                        have HNO := Lib.hid (show o = none by
                          have h3 := HI2.out.2
                          rw [List.drop_zero, List.drop_zero, List.drop_zero, HUP.out] at h3
                          cases h3; exact HNX.out.2 rfl)
                        go_wp2_with fail
                        go_roundw
                        case rel => exact ⟨false, rfl, Lib.hid ⟨(fun h => by cases h), fun _ => HNO.out⟩, hEr2⟩
                        case measure => rw [fpMeas_t, fpMeas_f]; omega
                      · obtain ⟨j, rfl⟩ : ∃ j, j1 = j + 1 := ⟨j1 - 1, by omega⟩
                        have hji : (((j + 1 : Nat) : Int)) - 1 = (j : Int) := by omega
                        rw [hji]
                        have hjn : j < k := by omega
                        obtain ⟨x, hx⟩ : ∃ x, xs[j]? = some x := ⟨_, List.getElem?_eq_getElem (by have h1 := HLN.out; have h2 := HLL.out; omega)⟩
                        obtain ⟨x', hx', hcx, hfx⟩ := OwI.at_ HI2.out.1 hjn
                        rw [up_get hx] at hx'; cases hx'
                        obtain ⟨ba, oa, a, rfl, ha, hca⟩ := RI.at_ (RI.ext HA.out hErw2) hjn
                        obtain ⟨l, h, hl, hh, hlx, hxh, hch⟩ := choice HSP.out HBT.out hx ha
                        have ha3 := HSP.out.2.2 a (List.mem_of_getElem? ha)
                        have HXJ := Lib.hid hx
                        have HLJ := Lib.hid hl
                        have HHJ := Lib.hid hh
                        have hj0 : (0 : Int) ≤ (j : Int) := by omega
                        have hjd : decide ((0 : Int) ≤ (j : Int)) = true := by simp
                        have hjni : (j : Int) < (k : Int) := by omega
                        have hgl : g5 < wr.heap.size := World.block_lt_of_cell? wr _ hcx
                        have hw1 : IntKind.i64.wrap (a - 1) = a - 1 := IntWalk.i64_in _ (by omega)
                        have hw2 : IntKind.i64.wrap (x + 1) = x + 1 := IntWalk.i64_in _ (by omega)
                        clear hx hl hh ha
                        rcases hch with ⟨hl0, hha⟩ | ⟨hl0, hha⟩
                        · subst hl0
                          subst hha
                          have hd1 : decide ((0 : Int) ≤ x) = true := by simpa using hlx
                          by_cases hxh2 : x < a - 1
                          · have hd2 : decide (x < a - 1) = true := by simpa using hxh2
                            have HE := Lib.hid (show ys' = xs.take j ++ (x + 1) :: (lowP s.ar (prV s) set).drop (j + 1) ∧ bb = true by
                              have h3 := up_at (by have := HLN.out; omega) (by have := HLN.out; omega) HXJ.out HHJ.out hxh2 HI2.out.2
                              rw [HUP.out] at h3
                              cases h3; exact ⟨rfl, rfl⟩)
                            go_wp2_with fail
                            go_quiet (fail)
                            have HN := Lib.hid (show OwI ((wr.drewN nq).setCell ⟨g5, j, none⟩ (.int .i64 (x + 1))) w4.heap.size (some ⟨g5, 0, none⟩) k c9 ys' by rw [HE.out.1, ← up_mid2 (x + 1) HXJ.out]; exact OwI.set (OwI.drewN HI2.out.1 nq) j (x + 1))
                            have hE10 : Ext w4 ((wr.drewN nq).setCell ⟨g5, j, none⟩ (.int .i64 (x + 1))) := Ext.set (hEr2.drewN nq) hg5 _
                            go_wp2
                            go_roundw
                            case rel => exact ⟨j, true, by go_num, rfl, by omega, Lib.hid ⟨(fun h => by cases h), fun _ => ⟨HN.out, HE.out.2⟩⟩, hE10⟩
                            case measure => simp only [intOf]; omega
                          · have hd2 : decide (x < a - 1) = false := by simpa using hxh2
                            have HB2 := Lib.hid (up_back HXJ.out HLJ.out HHJ.out hxh2 HI2.out.2)
                            go_wp2_with fail
                            go_quiet (fail)
                            have HN := Lib.hid (show OwI ((wr.drewN nq).setCell ⟨g5, j, none⟩ (.int .i64 0)) w4.heap.size (some ⟨g5, 0, none⟩) k c9 (xs.take j ++ (lowP s.ar (prV s) set).drop j) by rw [← up_mid (by have := HLN.out; omega) HLJ.out]; exact OwI.set (OwI.drewN HI2.out.1 nq) j 0)
                            have hE10 : Ext w4 ((wr.drewN nq).setCell ⟨g5, j, none⟩ (.int .i64 0)) := Ext.set (hEr2.drewN nq) hg5 _
                            go_wp2
                            go_roundw
                            case rel => exact ⟨j, false, by go_num, rfl, by omega, Lib.hid ⟨fun _ => ⟨HN.out, HB2.out⟩, fun h => by cases h⟩, hE10⟩
                            case measure => simp only [intOf]; omega
                        · subst hl0
                          subst hha
                          obtain rfl : x = -1 := by omega
                          have HB2 := Lib.hid (up_back HXJ.out HLJ.out HHJ.out (by omega) HI2.out.2)
                          have HKP := Lib.hid (up_keep HXJ.out HLJ.out)
                          have hd1 : decide ((0 : Int) ≤ -1) = false := by decide
                          go_wp2_with fail
                          go_quiet (fail)
                          have HN := Lib.hid (show OwI (wr.drewN nq) w4.heap.size (some ⟨g5, 0, none⟩) k c9 (xs.take j ++ (lowP s.ar (prV s) set).drop j) by rw [← HKP.out]; exact OwI.drewN HI2.out.1 nq)
                          have hE10 : Ext w4 (wr.drewN nq) := hEr2.drewN nq
                          go_wp2
                          go_roundw
                          case rel => exact ⟨j, false, by go_num, rfl, by omega, Lib.hid ⟨fun _ => ⟨HN.out, HB2.out⟩, fun h => by cases h⟩, hE10⟩
                          case measure => simp only [intOf]; omega

end Go.Proofs.Ytccahngnnfohcaa
