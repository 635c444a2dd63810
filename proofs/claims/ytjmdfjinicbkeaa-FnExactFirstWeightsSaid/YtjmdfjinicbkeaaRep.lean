/- slices.Repeat of one number, a few times. -/
import Derived.Test.YtjmdfjinicbkeaaInts
import Derived.Test.YtjmdfjinicbkeaaHeld
import Derived.Laws.CopyOwn
import Derived.StillTailTactics
-- rd: RdI
namespace Go.Proofs.Ytjmdfjinicbkeaa
open Go.RowKit
set_option linter.unusedSimpArgs false
set_option linter.unusedVariables false

set_option maxHeartbeats 4000000 in
theorem c_Mul64 {n : Nat} {w : World} (hn : n ≤ 40) : Calls Try.prog 151 #[.int .u64 1, .int .u64 (n : Int)] w fun e w' => e = .returned (.tuple #[.int .u64 0, .int .u64 (n : Int)]) ∧ w = w' := by
  go_enter Try.func151, Try.ntmps151
  go_wp2
  refine bodyPost_ret (v := .tuple #[.int .u64 0, .int .u64 (n : Int)]) ?_ rfl ⟨rfl, rfl⟩
  rcases (show n = 0 ∨ n = 1 ∨ n = 2 ∨ n = 3 ∨ n = 4 ∨ n = 5 ∨ n = 6 ∨ n = 7 ∨ n = 8 ∨ n = 9 ∨ n = 10 ∨ n = 11 ∨ n = 12 ∨ n = 13 ∨ n = 14 ∨ n = 15 ∨ n = 16 ∨ n = 17 ∨ n = 18 ∨ n = 19 ∨ n = 20 ∨ n = 21 ∨ n = 22 ∨ n = 23 ∨ n = 24 ∨ n = 25 ∨ n = 26 ∨ n = 27 ∨ n = 28 ∨ n = 29 ∨ n = 30 ∨ n = 31 ∨ n = 32 ∨ n = 33 ∨ n = 34 ∨ n = 35 ∨ n = 36 ∨ n = 37 ∨ n = 38 ∨ n = 39 ∨ n = 40 from by omega) with rfl | rfl | rfl | rfl | rfl | rfl | rfl | rfl | rfl | rfl | rfl | rfl | rfl | rfl | rfl | rfl | rfl | rfl | rfl | rfl | rfl | rfl | rfl | rfl | rfl | rfl | rfl | rfl | rfl | rfl | rfl | rfl | rfl | rfl | rfl | rfl | rfl | rfl | rfl | rfl | rfl
  all_goals (simp [results, Try.results151, go_sem]; try decide)
set_option maxHeartbeats 4000000 in
theorem c_Mul {n : Nat} {w : World} (hn : n ≤ 40) : Calls Try.prog 119 #[.int .u64 1, .int .u64 (n : Int)] w fun e w' => e = .returned (.tuple #[.int .u64 0, .int .u64 (n : Int)]) ∧ w = w' := by
  go_enter Try.func119, Try.ntmps119
  go_wp2_with fail
  (with_reducible refine (c_Mul64 hn).mono ?_)
  rintro e w2 ⟨rfl, rfl⟩
  go_wp2_with fail
  exact bodyPost_ret (v := .tuple #[.int .u64 0, .int .u64 (n : Int)]) (by simp [results, Try.results119, go_sem]) rfl ⟨rfl, rfl⟩
/-- p places are filled. -/
def fill (x : Int) (p n : Nat) : List Value := (List.replicate p x ++ List.replicate (n - p) 0).map (Value.int .i64)
theorem fill_len (x : Int) {p n : Nat} (h : p ≤ n) : (fill x p n).length = n := by simp [fill]; omega
theorem fill_get {x : Int} {p n j : Nat} (h : j < p) : (fill x p n)[j]? = some (.int .i64 x) := by
  unfold fill
  rw [List.getElem?_map, List.getElem?_append_left (by simpa using h), List.getElem?_replicate, if_pos h]; rfl
theorem fill_splice {x : Int} {p k n : Nat} (h : p + k ≤ n) : splice (fill x p n) p ((List.replicate k x).map (Value.int .i64)) = fill x (p + k) n := by
  unfold splice fill
  rw [← List.map_take, ← List.map_drop, ← List.map_append, ← List.map_append]
  congr 1
  rw [List.take_append_of_le_length (by simp), List.take_of_length_le (by simp), List.length_map, List.length_replicate, List.drop_append, List.drop_of_length_le (by simp), List.nil_append, List.drop_replicate, List.length_replicate, ← List.append_assoc, List.replicate_append_replicate]
  congr 2
  omega
theorem fill_ints {w : World} {g n B : Nat} {x : Int} (hg : w.heap[g]? = some (.cells (fill x n n).toArray 2 (0, 0))) (hB : B ≤ g) (hn : n ≤ 40) : OwI w B (some ⟨g, 0, none⟩) n n (List.replicate n x) := by
  refine ⟨by omega, by simp, .inr ⟨g, n, (fill x n n).toArray, rfl, hB, hg, Nat.le_refl _, by unfold maxLen; omega, by simp [fill], ?_⟩⟩
  rw [List.toList_toArray, List.take_of_length_le (by simp [fill])]
  simp [fill]
theorem fill_pos {w : World} {x : Int} {p n k g : Nat} {ds : List Value} (hds : ds = (List.replicate k x).map (Value.int .i64)) (hk : k ≤ p) (hg : w.heap[g]? = some (.cells (fill x p n).toArray 2 (0, 0))) :
    0 < ds.length → (some ⟨g, 0 + p, none⟩ : Option Addr) = some ⟨g, 0 + p, none⟩ ∧ ∃ ad, (some ⟨g, 0, none⟩ : Option Addr) = some ad ∧ ∀ j v, ds[j]? = some v → w.cell? (ad.add j) = some v := fun _ => ⟨rfl, _, rfl, fun j v hj => by
  rw [hds, List.getElem?_map, List.getElem?_replicate] at hj
  split at hj
  · rename_i hjl
    simp at hj; subst hj
    have h1 : w.cell? ⟨g, j, none⟩ = some (.int .i64 x) := by
      rw [cell_of_row w _ _ _ _ (0, 0) hg, List.getElem?_toArray]
      exact fill_get (by omega)
    by_cases hj0 : j = 0
    · subst hj0; simpa [Addr.add] using h1
    · simpa [Addr.add, hj0] using h1
  · cases hj⟩
theorem fill_made {w : World} {g B n : Nat} {x : Int} (h : w.ownsRow B 2 1 (.slice (some ⟨g, 0, none⟩) n n) n (madeCells #[Value.int .i64 0] n).toList) : w.heap[g]? = some (.cells (fill x 0 n).toArray 2 (0, 0)) := by
  rcases h.2 with ⟨h2, _⟩ | ⟨g', cap, cur, hv, hg, hh, h1, h2, h3, h4⟩
  · cases h2
  · cases hv
    rw [hh]
    have e : cur.toList = fill x 0 n := by
      rw [List.take_of_length_le (by simp [h3])] at h4
      rw [h4, madeInts]
      simp [fill]
    rw [← e]
set_option maxRecDepth 100000 in
set_option maxHeartbeats 4000000 in
theorem c_Repeat {b o c n : Nat} {x : Int} {w : World} (h0 : w.cell? ⟨b, o, none⟩ = some (.int .i64 x)) (hc : 1 ≤ c ∧ c ≤ 9223372036854775807) (hn : n ≤ 40) :
    Calls Try.prog 96 #[.slice (some ⟨b, o, none⟩) 1 c, .int .i64 (n : Int)] w (NewI w (List.replicate n x)) := by
  have hn0 : ¬ (n : Int) < 0 := by omega
  have hw1 : IntKind.u64.wrap (n : Int) = (n : Int) := by unfold IntKind.wrap; simp [IntKind.bits]; omega
  have hw2 : IntKind.i64.wrap (n : Int) = (n : Int) := IntWalk.i64_in _ (by omega)
  have hmx : ¬ ((n : Int) > 9223372036854775807) := by omega
  obtain ⟨i0, hii, hiz, his, hib⟩ := info_parts int64_info
  go_enter Try.func96, Try.ntmps96
  go_wp2_with fail
  (with_reducible refine (c_Mul hn).mono ?_)
  rintro e w2 ⟨rfl, rfl⟩
  have hsz : (Try.prog.info? 2).map (·.size) = some 1 := by rw [hii]; simp [his]
  go_wp2_with (at_make; refine wpList_make_full _ rfl _ _ 22 rfl w.heap.size 2 i0 _ 1 Try.underlying22 hii hiz his _ _ _ _ n rfl rfl rfl rfl (by rw [hib]; omega) (by simp only [maxLen]; omega) (Nat.le_refl _) ?_)
  intro w3 hown0 hg3
  have hE3 : Ext w w3 := Ext.grown (Ext.refl _) hg3 (fun k hk => by cases hk)
  have HH := Lib.hid (fill_made (x := x) hown0)
  have h30 := Ext.keep hE3 h0
  obtain ⟨cs, hcs⟩ : ∃ cs, cs = (List.replicate (min 1 n) x).map (Value.int .i64) := ⟨_, rfl⟩
  have hcl : cs.length = min 1 n := by rw [hcs]; simp
  have HCS := Lib.hid hcs
  clear hown0 hg3 hcs
  have hpos : 0 < cs.length → (some ⟨w.heap.size, 0, none⟩ : Option Addr) = some ⟨w.heap.size, 0, none⟩ ∧ ∃ ad, (some ⟨b, o, none⟩ : Option Addr) = some ad ∧ ∀ j v, cs[j]? = some v → w3.cell? (ad.add j) = some v := fun _ => ⟨rfl, _, rfl, fun j v hj => by
    rw [HCS.out, List.getElem?_map, List.getElem?_replicate] at hj
    split at hj
    · obtain rfl : j = 0 := by omega
      simp at hj; subst hj; simpa [Addr.add] using h30
    · cases hj⟩
  have hone : ∀ v ∈ cs, v.oneCell' = true := fun v hv => by
    rw [HCS.out] at hv
    obtain ⟨y, _, rfl⟩ := List.mem_map.1 hv; rfl
  have hfit : 0 + cs.length ≤ (fill x 0 n).length := by rw [fill_len x (Nat.zero_le n), hcl]; omega
  have HS3 := Lib.hid (show splice (fill x 0 n) 0 cs = fill x (min 1 n) n by rw [HCS.out, fill_splice (by omega), Nat.zero_add])
  go_wp2_with (refine wpList_copy_splice rfl (.tmp 31) (.tmp 32) 22 22 rfl 2 Try.underlying22 hsz _ _ _ _ _ _ rfl rfl w.heap.size 0 (fill x 0 n) 2 HH.out cs hcl hpos hfit hone w.heap.size w hE3 (Nat.le_refl _) ?_)
  intro w4 HG4 hE4
  rw [HS3.out] at HG4
  clear hpos hone hfit
  go_wp2
  go_loopw [8] (fun i wr => ∃ p : Nat, i = .int .i64 p ∧ p ≤ n ∧ (p = 0 → n = 0) ∧ Hid (wr.heap[w.heap.size]? = some (.cells (fill x p n).toArray 2 (0, 0))) ∧ Ext w wr) (fun i _ => n - (intOf i).toNat)
  case atStart => exact ⟨min 1 n, rfl, by omega, by omega, HG4, hE4⟩
  case round =>
    obtain ⟨p, rfl, hp, hp0, hRow, hE⟩ := hrel
    by_cases hlt : p < n
    · have hpi : (p : Int) < (n : Int) := by omega
      have hp0i : (0 : Int) ≤ (p : Int) := by omega
      obtain ⟨ds, hds⟩ : ∃ ds, ds = (List.replicate (min p (n - p)) x).map (Value.int .i64) := ⟨_, rfl⟩
      have hdl : ds.length = min p (n - p) := by rw [hds]; simp
      have HDS := Lib.hid hds
      clear hds
      have hone : ∀ v ∈ ds, v.oneCell' = true := fun v hv => by
        rw [HDS.out] at hv
        obtain ⟨y, _, rfl⟩ := List.mem_map.1 hv; rfl
      have hfit : p + ds.length ≤ (fill x p n).length := by rw [fill_len x hp, hdl]; omega
      have HS3 := Lib.hid (show splice (fill x p n) p ds = fill x (p + min p (n - p)) n by rw [HDS.out, fill_splice (by omega)])
      have hpn : ¬ n = p := by omega
      have hwp : IntKind.i64.wrap ((p : Int) + ((min p (n - p) : Nat) : Int)) = (p : Int) + ((min p (n - p) : Nat) : Int) := IntWalk.i64_in _ (by omega)
      have hgi : goInt ds.length = .int .i64 ((min p (n - p) : Nat) : Int) := by rw [hdl]; rfl
      have hnp : ((n : Int) - (p : Int)).toNat = n - p := by omega
      go_wp2_with fail
      refine wp_region_held_drew (S := (fun w' => Ext w w')) (by kernel_rfl) ?_ (fun hH => ?_)
      · exact hE.drew
      refine wpAnyH_take_dst (i := 0) (v := .int .i64 (p : Int)) (d := some 38) rfl rfl (by kernel_rfl) (by kernel_rfl) (by kernel_rfl) (fun _ _ _ h => h) (Or.inl ⟨by rfl, ?_⟩) hH ?_
      · (intro w hSw; (try dsimp only at hSw); go_split_ands; go_simp; try with_reducible rfl)
      try simp only [Act.put, List.setIfInBounds_toArray, List.set_cons_zero, List.set_cons_succ]
      refine wpAnyH_take_dst (i := 1) (v := .slice (some ⟨w.heap.size, 0, none⟩) n n) (d := some 39) rfl rfl (by kernel_rfl) (by kernel_rfl) (by kernel_rfl) (fun _ _ _ h => h) (Or.inl ⟨by rfl, ?_⟩) hH ?_
      · (intro w hSw; (try dsimp only at hSw); go_split_ands; go_simp; try with_reducible rfl)
      try simp only [Act.put, List.setIfInBounds_toArray, List.set_cons_zero, List.set_cons_succ]
      refine wpAnyH_take_dst (i := 2) (v := .int .i64 (p : Int)) (d := some 40) rfl rfl (by kernel_rfl) (by kernel_rfl) (by kernel_rfl) (fun _ _ _ h => h) (Or.inl ⟨by rfl, ?_⟩) hH ?_
      · (intro w hSw; (try dsimp only at hSw); go_split_ands; go_simp; try with_reducible rfl)
      try simp only [Act.put, List.setIfInBounds_toArray, List.set_cons_zero, List.set_cons_succ]
      refine wpAnyH_take_dst (i := 3) (v := .slice (some ⟨w.heap.size, 0 + p, none⟩) (n - p) (n - p)) (d := some 41) rfl rfl (by kernel_rfl) (by kernel_rfl) (by kernel_rfl) (fun _ _ _ h => h) (Or.inl ⟨by rfl, ?_⟩) hH ?_
      · (intro w hSw; (try dsimp only at hSw); go_split_ands; go_simp; try with_reducible rfl)
      try simp only [Act.put, List.setIfInBounds_toArray, List.set_cons_zero, List.set_cons_succ]
      refine wpAnyH_take_dst (i := 4) (v := .slice (some ⟨w.heap.size, 0, none⟩) n n) (d := some 42) rfl rfl (by kernel_rfl) (by kernel_rfl) (by kernel_rfl) (fun _ _ _ h => h) (Or.inl ⟨by rfl, ?_⟩) hH ?_
      · (intro w hSw; (try dsimp only at hSw); go_split_ands; go_simp; try with_reducible rfl)
      try simp only [Act.put, List.setIfInBounds_toArray, List.set_cons_zero, List.set_cons_succ]
      refine wpAnyH_take_dst (i := 5) (v := .int .i64 (p : Int)) (d := some 43) rfl rfl (by kernel_rfl) (by kernel_rfl) (by kernel_rfl) (fun _ _ _ h => h) (Or.inl ⟨by rfl, ?_⟩) hH ?_
      · (intro w hSw; (try dsimp only at hSw); go_split_ands; go_simp; try with_reducible rfl)
      try simp only [Act.put, List.setIfInBounds_toArray, List.set_cons_zero, List.set_cons_succ]
      refine wpAnyH_take_dst (i := 6) (v := .slice (some ⟨w.heap.size, 0, none⟩) p n) (d := some 44) rfl rfl (by kernel_rfl) (by kernel_rfl) (by kernel_rfl) (fun _ _ _ h => h) (Or.inl ⟨by rfl, ?_⟩) hH ?_
      · (intro w hSw; (try dsimp only at hSw); go_split_ands; go_simp; try with_reducible rfl)
      try simp only [Act.put, List.setIfInBounds_toArray, List.set_cons_zero, List.set_cons_succ]
      refine wpAnyH_ready (rs := [7]) (by kernel_rfl) (by simp) ?_
      refine AllReadyH.cons rfl (fun K hK => ?_) AllReadyH.nil
      refine step_copy_splice (o := ⟨some 45, _, _, _, _, _⟩) rfl (.tmp 41) (.tmp 44) 22 22 rfl 2 Try.underlying22 hsz _ _ _ _ _ _ rfl rfl w.heap.size (0 + p) (fill x p n) 2 hRow.out ds hdl (fill_pos HDS.out (by omega) (w := wr.drew) hRow.out) (by rw [Nat.zero_add]; exact hfit) hone w.heap.size w hE.drew (Nat.le_refl _) ?_
      intro w5 HG5 hE9
      refine hK.out _ _ hE9 (fun hH9 => ?_)
      clear hK hH; have hH := hH9; clear hH9
      try simp only [Act.put, List.setIfInBounds_toArray, List.set_cons_zero, List.set_cons_succ]
      refine wpAnyH_take_dst (i := 8) (v := .int .i64 ((p + min p (n - p) : Nat) : Int)) (d := some 46) rfl rfl (by kernel_rfl) (by kernel_rfl) (by kernel_rfl) (fun _ _ _ h => h) (Or.inl ⟨by rfl, ?_⟩) hH ?_
      · (intro w hSw; (try dsimp only at hSw); go_split_ands; go_simp; try with_reducible rfl)
      try simp only [Act.put, List.setIfInBounds_toArray, List.set_cons_zero, List.set_cons_succ]
      refine wpAnyH_take_dst (i := 9) (v := .int .i64 ((p + min p (n - p) : Nat) : Int)) (d := some 8) rfl rfl (by kernel_rfl) (by kernel_rfl) (by kernel_rfl) (fun _ _ _ h => h) (Or.inl ⟨by rfl, ?_⟩) hH ?_
      · (intro w hSw; (try dsimp only at hSw); go_split_ands; go_simp; try with_reducible rfl)
      try simp only [Act.put, List.setIfInBounds_toArray, List.set_cons_zero, List.set_cons_succ]
      refine wpAnyH_done (by kernel_rfl) ?_ _
      rw [Nat.zero_add, HS3.out] at HG5
      go_wp2
      go_roundw
      case rel => exact ⟨p + min p (n - p), rfl, by omega, by omega, HG5, hH⟩
      case measure => simp only [intOf]; omega
    · obtain rfl : p = n := by omega
      go_wp2
      go_ret
      exact ⟨_, _, _, rfl, fill_ints hRow.out (Nat.le_refl _) hn, hE⟩
set_option maxHeartbeats 1000000 in
theorem c_repeated {n : Nat} {x : Int} {w : World} (hn : n ≤ 40) : Calls Try.prog 58 #[.int .i64 x, .int .i64 (n : Int)] w (NewI w (List.replicate n x)) := by
  go_enter Try.func58, Try.ntmps58
  go_wp2_with fail
  (with_reducible refine (c_Repeat (b := w.heap.size) (o := 0) (c := 1) (x := x) (by simp [go_sem]) (by omega) hn).mono ?_)
  rintro e w2 ⟨A, n2, c2, rfl, hO, hE⟩
  have HO := Lib.hid hO
  clear hO
  go_wp2_with fail
  go_ret
  exact ⟨A, n2, c2, rfl, HO.out.lower (by simp [go_sem]), by exact extX⟩

end Go.Proofs.Ytjmdfjinicbkeaa
