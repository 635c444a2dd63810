/- Several texts in one: Rep, Up, FPrA, FPrB, FPrS. -/
import Derived.Test.YtccahngnnfohcaaInts
import Derived.Test.YtccahngnnfohcaaHeld
import Derived.Laws.CopyOwn
import Derived.StillTailTactics
import Derived.Test.YtccahngnnfohcaaMUp
import Derived.Test.YtccahngnnfohcaaMark
import Derived.Test.YtccahngnnfohcaaPrj
import Derived.Test.YtccahngnnfohcaaWin
-- rd: RdI RdSyK RdDp RdDq
namespace Go.Proofs.Ytccahngnnfohcaa
open Go.RowKit
set_option linter.unusedSimpArgs false
set_option linter.unusedVariables false

/-! slices.Repeat of one number, a few times. -/
set_option maxHeartbeats 4000000 in
theorem c_Mul64 {n : Nat} {w : World} (hn : n ≤ 40) : Calls Try.prog 150 #[.int .u64 1, .int .u64 (n : Int)] w fun e w' => e = .returned (.tuple #[.int .u64 0, .int .u64 (n : Int)]) ∧ w = w' := by
  go_enter Try.func150, Try.ntmps150
  go_wp2
  refine bodyPost_ret (v := .tuple #[.int .u64 0, .int .u64 (n : Int)]) ?_ rfl ⟨rfl, rfl⟩
  rcases (show n = 0 ∨ n = 1 ∨ n = 2 ∨ n = 3 ∨ n = 4 ∨ n = 5 ∨ n = 6 ∨ n = 7 ∨ n = 8 ∨ n = 9 ∨ n = 10 ∨ n = 11 ∨ n = 12 ∨ n = 13 ∨ n = 14 ∨ n = 15 ∨ n = 16 ∨ n = 17 ∨ n = 18 ∨ n = 19 ∨ n = 20 ∨ n = 21 ∨ n = 22 ∨ n = 23 ∨ n = 24 ∨ n = 25 ∨ n = 26 ∨ n = 27 ∨ n = 28 ∨ n = 29 ∨ n = 30 ∨ n = 31 ∨ n = 32 ∨ n = 33 ∨ n = 34 ∨ n = 35 ∨ n = 36 ∨ n = 37 ∨ n = 38 ∨ n = 39 ∨ n = 40 from by omega) with rfl | rfl | rfl | rfl | rfl | rfl | rfl | rfl | rfl | rfl | rfl | rfl | rfl | rfl | rfl | rfl | rfl | rfl | rfl | rfl | rfl | rfl | rfl | rfl | rfl | rfl | rfl | rfl | rfl | rfl | rfl | rfl | rfl | rfl | rfl | rfl | rfl | rfl | rfl | rfl | rfl
  all_goals (simp [results, Try.results150, go_sem]; try decide)
set_option maxHeartbeats 4000000 in
theorem c_Mul {n : Nat} {w : World} (hn : n ≤ 40) : Calls Try.prog 142 #[.int .u64 1, .int .u64 (n : Int)] w fun e w' => e = .returned (.tuple #[.int .u64 0, .int .u64 (n : Int)]) ∧ w = w' := by
  go_enter Try.func142, Try.ntmps142
  go_wp2_with fail
  (with_reducible refine (c_Mul64 hn).mono ?_)
  rintro e w2 ⟨rfl, rfl⟩
  go_wp2_with fail
  exact bodyPost_ret (v := .tuple #[.int .u64 0, .int .u64 (n : Int)]) (by simp [results, Try.results142, go_sem]) rfl ⟨rfl, rfl⟩
/-- p places are filled. -/
def fillR (x : Int) (p n : Nat) : List Value := (List.replicate p x ++ List.replicate (n - p) 0).map (Value.int .i64)
theorem fill_len (x : Int) {p n : Nat} (h : p ≤ n) : (fillR x p n).length = n := by simp [fillR]; omega
theorem fill_get {x : Int} {p n j : Nat} (h : j < p) : (fillR x p n)[j]? = some (.int .i64 x) := by
  unfold fillR
  rw [List.getElem?_map, List.getElem?_append_left (by simpa using h), List.getElem?_replicate, if_pos h]; rfl
theorem fill_splice {x : Int} {p k n : Nat} (h : p + k ≤ n) : splice (fillR x p n) p ((List.replicate k x).map (Value.int .i64)) = fillR x (p + k) n := by
  unfold splice fillR
  rw [← List.map_take, ← List.map_drop, ← List.map_append, ← List.map_append]
  congr 1
  rw [List.take_append_of_le_length (by simp), List.take_of_length_le (by simp), List.length_map, List.length_replicate, List.drop_append, List.drop_of_length_le (by simp), List.nil_append, List.drop_replicate, List.length_replicate, ← List.append_assoc, List.replicate_append_replicate]
  congr 2
  omega
theorem fill_ints {w : World} {g n B : Nat} {x : Int} (hg : w.heap[g]? = some (.cells (fillR x n n).toArray 2 (0, 0))) (hB : B ≤ g) (hn : n ≤ 40) : OwI w B (some ⟨g, 0, none⟩) n n (List.replicate n x) := by
  refine ⟨by omega, by simp, .inr ⟨g, n, (fillR x n n).toArray, rfl, hB, hg, Nat.le_refl _, by unfold maxLen; omega, by simp [fillR], ?_⟩⟩
  rw [List.toList_toArray, List.take_of_length_le (by simp [fillR])]
  simp [fillR]
theorem fill_pos {w : World} {x : Int} {p n k g : Nat} {ds : List Value} (hds : ds = (List.replicate k x).map (Value.int .i64)) (hk : k ≤ p) (hg : w.heap[g]? = some (.cells (fillR x p n).toArray 2 (0, 0))) :
    0 < ds.length → (some ⟨g, 0 + p, none⟩ : Option Addr) = some ⟨g, 0 + p, none⟩ ∧ ∃ ad, (some ⟨g, 0, none⟩ : Option Addr) = some ad ∧ ∀ j v, ds[j]? = some v → w.cell? (ad.add j) = some v := fun _ => ⟨rfl, _, rfl, fun j v hj => by
  rw [hds, List.getElem?_map, List.getElem?_replicate] at hj
  split at hj
  · rename_i hjl
    simp at hj; subst hj
    have h1 : w.cell? ⟨g, j, none⟩ = some (.int .i64 x) := by
      rw [cell_of_row w _ _ _ _ (0, 0) hg, List.getElem?_toArray]
      exact fill_get (by omega)
    by_cases hj0 : j = 0
    · subst hj0; simpa [Addr.add] using h1
    · simpa [Addr.add, hj0] using h1
  · cases hj⟩
theorem fill_made {w : World} {g B n : Nat} {x : Int} (h : w.ownsRow B 2 1 (.slice (some ⟨g, 0, none⟩) n n) n (madeCells #[Value.int .i64 0] n).toList) : w.heap[g]? = some (.cells (fillR x 0 n).toArray 2 (0, 0)) := by
  rcases h.2 with ⟨h2, _⟩ | ⟨g', cap, cur, hv, hg, hh, h1, h2, h3, h4⟩
  · cases h2
  · cases hv
    rw [hh]
    have e : cur.toList = fillR x 0 n := by
      rw [List.take_of_length_le (by simp [h3])] at h4
      rw [h4, madeInts]
      simp [fillR]
    rw [← e]
set_option maxRecDepth 100000 in
set_option maxHeartbeats 4000000 in
theorem c_Repeat {b o c n : Nat} {x : Int} {w : World} (h0 : w.cell? ⟨b, o, none⟩ = some (.int .i64 x)) (hc : 1 ≤ c ∧ c ≤ 9223372036854775807) (hn : n ≤ 40) :
    Calls Try.prog 126 #[.slice (some ⟨b, o, none⟩) 1 c, .int .i64 (n : Int)] w (NewI w (List.replicate n x)) := by
  have hn0 : ¬ (n : Int) < 0 := by omega
  have hw1 : IntKind.u64.wrap (n : Int) = (n : Int) := by unfold IntKind.wrap; simp [IntKind.bits]; omega
  have hw2 : IntKind.i64.wrap (n : Int) = (n : Int) := IntWalk.i64_in _ (by omega)
  have hmx : ¬ ((n : Int) > 9223372036854775807) := by omega
  obtain ⟨i0, hii, hiz, his, hib⟩ := info_parts int64_info
  go_enter Try.func126, Try.ntmps126
  go_wp2_with fail
  (with_reducible refine (c_Mul hn).mono ?_)
  rintro e w2 ⟨rfl, rfl⟩
  have hsz : (Try.prog.info? 2).map (·.size) = some 1 := by rw [hii]; simp [his]
  go_wp2_with (at_make; refine wpList_make_full _ rfl _ _ 22 rfl w.heap.size 2 i0 _ 1 Try.underlying22 hii hiz his _ _ _ _ n rfl rfl rfl rfl (by rw [hib]; omega) (by simp only [maxLen]; omega) (Nat.le_refl _) ?_)
  intro w3 hown0 hg3
  have hE3 : Ext w w3 := Ext.grown (Ext.refl _) hg3 (fun k hk => by cases hk)
  have HH := Lib.hid (fill_made (x := x) hown0)
  have h30 := Ext.keep hE3 h0
  obtain ⟨cs, hcs⟩ : ∃ cs, cs = (List.replicate (min 1 n) x).map (Value.int .i64) := ⟨_, rfl⟩
  have hcl : cs.length = min 1 n := by rw [hcs]; simp
  have HCS := Lib.hid hcs
  clear hown0 hg3 hcs
  have hpos : 0 < cs.length → (some ⟨w.heap.size, 0, none⟩ : Option Addr) = some ⟨w.heap.size, 0, none⟩ ∧ ∃ ad, (some ⟨b, o, none⟩ : Option Addr) = some ad ∧ ∀ j v, cs[j]? = some v → w3.cell? (ad.add j) = some v := fun _ => ⟨rfl, _, rfl, fun j v hj => by
    rw [HCS.out, List.getElem?_map, List.getElem?_replicate] at hj
    split at hj
    · obtain rfl : j = 0 := by omega
      simp at hj; subst hj; simpa [Addr.add] using h30
    · cases hj⟩
  have hone : ∀ v ∈ cs, v.oneCell' = true := fun v hv => by
    rw [HCS.out] at hv
    obtain ⟨y, _, rfl⟩ := List.mem_map.1 hv; rfl
  have hfit : 0 + cs.length ≤ (fillR x 0 n).length := by rw [fill_len x (Nat.zero_le n), hcl]; omega
  have HS3 := Lib.hid (show splice (fillR x 0 n) 0 cs = fillR x (min 1 n) n by rw [HCS.out, fill_splice (by omega), Nat.zero_add])
  go_wp2_with (refine wpList_copy_splice rfl (.tmp 31) (.tmp 32) 22 22 rfl 2 Try.underlying22 hsz _ _ _ _ _ _ rfl rfl w.heap.size 0 (fillR x 0 n) 2 HH.out cs hcl hpos hfit hone w.heap.size w hE3 (Nat.le_refl _) ?_)
  intro w4 HG4 hE4
  rw [HS3.out] at HG4
  clear hpos hone hfit
  go_wp2
  go_loopw [8] (fun i wr => ∃ p : Nat, i = .int .i64 p ∧ p ≤ n ∧ (p = 0 → n = 0) ∧ Hid (wr.heap[w.heap.size]? = some (.cells (fillR x p n).toArray 2 (0, 0))) ∧ Ext w wr) (fun i _ => n - (intOf i).toNat)
  case atStart => exact ⟨min 1 n, rfl, by omega, by omega, HG4, hE4⟩
  case round =>
    obtain ⟨p, rfl, hp, hp0, hRow, hE⟩ := hrel
    by_cases hlt : p < n
    · have hpi : (p : Int) < (n : Int) := by omega
      have hp0i : (0 : Int) ≤ (p : Int) := by omega
      obtain ⟨ds, hds⟩ : ∃ ds, ds = (List.replicate (min p (n - p)) x).map (Value.int .i64) := ⟨_, rfl⟩
      have hdl : ds.length = min p (n - p) := by rw [hds]; simp
      have HDS := Lib.hid hds
      clear hds
      have hone : ∀ v ∈ ds, v.oneCell' = true := fun v hv => by
        rw [HDS.out] at hv
        obtain ⟨y, _, rfl⟩ := List.mem_map.1 hv; rfl
      have hfit : p + ds.length ≤ (fillR x p n).length := by rw [fill_len x hp, hdl]; omega
      have HS3 := Lib.hid (show splice (fillR x p n) p ds = fillR x (p + min p (n - p)) n by rw [HDS.out, fill_splice (by omega)])
      have hpn : ¬ n = p := by omega
      have hwp : IntKind.i64.wrap ((p : Int) + ((min p (n - p) : Nat) : Int)) = (p : Int) + ((min p (n - p) : Nat) : Int) := IntWalk.i64_in _ (by omega)
      have hgi : goInt ds.length = .int .i64 ((min p (n - p) : Nat) : Int) := by rw [hdl]; rfl
      have hnp : ((n : Int) - (p : Int)).toNat = n - p := by omega
      go_wp2_with fail
      refine wp_region_held_drew (S := (fun w' => Ext w w')) (by kernel_rfl) ?_ (fun hH => ?_)
      · exact hE.drew
      refine wpAnyH_take_dst (i := 0) (v := .int .i64 (p : Int)) (d := some 38) rfl rfl (by kernel_rfl) (by kernel_rfl) (by kernel_rfl) (fun _ _ _ h => h) (Or.inl ⟨by rfl, ?_⟩) hH ?_
      · (intro w hSw; (try dsimp only at hSw); go_split_ands; go_simp; try with_reducible rfl)
      try simp only [Act.put, List.setIfInBounds_toArray, List.set_cons_zero, List.set_cons_succ]
      refine wpAnyH_take_dst (i := 1) (v := .slice (some ⟨w.heap.size, 0, none⟩) n n) (d := some 39) rfl rfl (by kernel_rfl) (by kernel_rfl) (by kernel_rfl) (fun _ _ _ h => h) (Or.inl ⟨by rfl, ?_⟩) hH ?_
      · (intro w hSw; (try dsimp only at hSw); go_split_ands; go_simp; try with_reducible rfl)
      try simp only [Act.put, List.setIfInBounds_toArray, List.set_cons_zero, List.set_cons_succ]
      refine wpAnyH_take_dst (i := 2) (v := .int .i64 (p : Int)) (d := some 40) rfl rfl (by kernel_rfl) (by kernel_rfl) (by kernel_rfl) (fun _ _ _ h => h) (Or.inl ⟨by rfl, ?_⟩) hH ?_
      · (intro w hSw; (try dsimp only at hSw); go_split_ands; go_simp; try with_reducible rfl)
      try simp only [Act.put, List.setIfInBounds_toArray, List.set_cons_zero, List.set_cons_succ]
      refine wpAnyH_take_dst (i := 3) (v := .slice (some ⟨w.heap.size, 0 + p, none⟩) (n - p) (n - p)) (d := some 41) rfl rfl (by kernel_rfl) (by kernel_rfl) (by kernel_rfl) (fun _ _ _ h => h) (Or.inl ⟨by rfl, ?_⟩) hH ?_
      · (intro w hSw; (try dsimp only at hSw); go_split_ands; go_simp; try with_reducible rfl)
      try simp only [Act.put, List.setIfInBounds_toArray, List.set_cons_zero, List.set_cons_succ]
      refine wpAnyH_take_dst (i := 4) (v := .slice (some ⟨w.heap.size, 0, none⟩) n n) (d := some 42) rfl rfl (by kernel_rfl) (by kernel_rfl) (by kernel_rfl) (fun _ _ _ h => h) (Or.inl ⟨by rfl, ?_⟩) hH ?_
      · (intro w hSw; (try dsimp only at hSw); go_split_ands; go_simp; try with_reducible rfl)
      try simp only [Act.put, List.setIfInBounds_toArray, List.set_cons_zero, List.set_cons_succ]
      refine wpAnyH_take_dst (i := 5) (v := .int .i64 (p : Int)) (d := some 43) rfl rfl (by kernel_rfl) (by kernel_rfl) (by kernel_rfl) (fun _ _ _ h => h) (Or.inl ⟨by rfl, ?_⟩) hH ?_
      · (intro w hSw; (try dsimp only at hSw); go_split_ands; go_simp; try with_reducible rfl)
      try simp only [Act.put, List.setIfInBounds_toArray, List.set_cons_zero, List.set_cons_succ]
      refine wpAnyH_take_dst (i := 6) (v := .slice (some ⟨w.heap.size, 0, none⟩) p n) (d := some 44) rfl rfl (by kernel_rfl) (by kernel_rfl) (by kernel_rfl) (fun _ _ _ h => h) (Or.inl ⟨by rfl, ?_⟩) hH ?_
      · (intro w hSw; (try dsimp only at hSw); go_split_ands; go_simp; try with_reducible rfl)
      try simp only [Act.put, List.setIfInBounds_toArray, List.set_cons_zero, List.set_cons_succ]
      refine wpAnyH_ready (rs := [7]) (by kernel_rfl) (by simp) ?_
      refine AllReadyH.cons rfl (fun K hK => ?_) AllReadyH.nil
      refine step_copy_splice (o := ⟨some 45, _, _, _, _, _⟩) rfl (.tmp 41) (.tmp 44) 22 22 rfl 2 Try.underlying22 hsz _ _ _ _ _ _ rfl rfl w.heap.size (0 + p) (fillR x p n) 2 hRow.out ds hdl (fill_pos HDS.out (by omega) (w := wr.drew) hRow.out) (by rw [Nat.zero_add]; exact hfit) hone w.heap.size w hE.drew (Nat.le_refl _) ?_
      intro w5 HG5 hE9
      refine hK.out _ _ hE9 (fun hH9 => ?_)
      clear hK hH; have hH := hH9; clear hH9
      try simp only [Act.put, List.setIfInBounds_toArray, List.set_cons_zero, List.set_cons_succ]
      refine wpAnyH_take_dst (i := 8) (v := .int .i64 ((p + min p (n - p) : Nat) : Int)) (d := some 46) rfl rfl (by kernel_rfl) (by kernel_rfl) (by kernel_rfl) (fun _ _ _ h => h) (Or.inl ⟨by rfl, ?_⟩) hH ?_
      · (intro w hSw; (try dsimp only at hSw); go_split_ands; go_simp; try with_reducible rfl)
      try simp only [Act.put, List.setIfInBounds_toArray, List.set_cons_zero, List.set_cons_succ]
      refine wpAnyH_take_dst (i := 9) (v := .int .i64 ((p + min p (n - p) : Nat) : Int)) (d := some 8) rfl rfl (by kernel_rfl) (by kernel_rfl) (by kernel_rfl) (fun _ _ _ h => h) (Or.inl ⟨by rfl, ?_⟩) hH ?_
      · (intro w hSw; (try dsimp only at hSw); go_split_ands; go_simp; try with_reducible rfl)
      try simp only [Act.put, List.setIfInBounds_toArray, List.set_cons_zero, List.set_cons_succ]
      refine wpAnyH_done (by kernel_rfl) ?_ _
      rw [Nat.zero_add, HS3.out] at HG5
      go_wp2
      go_roundw
      case rel => exact ⟨p + min p (n - p), rfl, by omega, by omega, HG5, hH⟩
      case measure => simp only [intOf]; omega
    · obtain rfl : p = n := by omega
      go_wp2
      go_ret
      exact ⟨_, _, _, rfl, fill_ints hRow.out (Nat.le_refl _) hn, hE⟩
set_option maxHeartbeats 1000000 in
theorem c_repeated {n : Nat} {x : Int} {w : World} (hn : n ≤ 40) : Calls Try.prog 96 #[.int .i64 x, .int .i64 (n : Int)] w (NewI w (List.replicate n x)) := by
  go_enter Try.func96, Try.ntmps96
  go_wp2_with fail
  (with_reducible refine (c_Repeat (b := w.heap.size) (o := 0) (c := 1) (x := x) (by simp [go_sem]) (by omega) hn).mono ?_)
  rintro e w2 ⟨A, n2, c2, rfl, hO, hE⟩
  have HO := Lib.hid hO
  clear hO
  go_wp2_with fail
  go_ret
  exact ⟨A, n2, c2, rfl, HO.out.lower (by simp [go_sem]), by (repeat' (first | (with_reducible exact Ext.refl _) | (with_reducible assumption) | (with_reducible refine Ext.alloc ?_ _) | (with_reducible refine Ext.set ?_ ?_ _) | (with_reducible refine Ext.drewN ?_ _) | (with_reducible refine Ext.drew ?_) | (with_reducible refine Ext.trans ?_ (by with_reducible assumption)) | go_size))⟩

/-! Numbers counted up in place: the program's. -/
/-- Numbers, so many of which are still to be looked at. -/
theorem up_mid {xs ls : List Int} {j : Nat} {l : Int} (hl : xs.length = ls.length) (h : ls[j]? = some l) : (xs.take (j + 1) ++ ls.drop (j + 1)).set j l = xs.take j ++ ls.drop j := by
  obtain ⟨h1, h2⟩ := List.getElem?_eq_some_iff.1 h
  have hj : j < xs.length := by omega
  rw [List.take_add_one, List.getElem?_eq_getElem hj, List.append_assoc]
  rw [List.set_append_right _ _ (by simp; omega), List.length_take, Nat.min_eq_left (by omega), Nat.sub_self]
  simp [List.drop_eq_getElem_cons h1, h2]
theorem up_mid2 {xs ls : List Int} {j : Nat} {x : Int} (y : Int) (h : xs[j]? = some x) : (xs.take (j + 1) ++ ls.drop (j + 1)).set j y = xs.take j ++ y :: ls.drop (j + 1) := by
  obtain ⟨h1, h2⟩ := List.getElem?_eq_some_iff.1 h
  rw [List.take_add_one, h, List.append_assoc]
  rw [List.set_append_right _ _ (by simp; omega), List.length_take, Nat.min_eq_left (by omega), Nat.sub_self]
  simp
theorem up_get {xs ls : List Int} {j : Nat} {x : Int} (h : xs[j]? = some x) : (xs.take (j + 1) ++ ls.drop (j + 1))[j]? = some x := by
  obtain ⟨h1, h2⟩ := List.getElem?_eq_some_iff.1 h
  rw [List.getElem?_append_left (by simp; omega), List.getElem?_take, if_pos (by omega), h]
set_option maxRecDepth 100000 in
set_option maxHeartbeats 4000000 in
theorem c_countUp {A L H : Option Addr} {n c lc hc B : Nat} {xs ls hs ys : List Int} {b : Bool} {w : World} (hu : up xs ls hs = (ys, b)) (h0 : OwI w B A n c xs) (h1 : RI w L n ls) (h2 : RI w H n hs) (hbt : Btw xs ls hs)
    (hL : ∀ g o s g' o' s', A = some ⟨g, o, s⟩ → L = some ⟨g', o', s'⟩ → g' ≠ g) (hH : ∀ g o s g' o' s', A = some ⟨g, o, s⟩ → H = some ⟨g', o', s'⟩ → g' ≠ g) (hbig : (∀ (k : Nat) (h : Int), hs[k]? = some h → h ≤ 1000000) ∧ ∀ (k : Nat) (l : Int), ls[k]? = some l → -1000000 ≤ l) :
    Calls Try.prog 98 #[.slice A n c, .slice L n lc, .slice H n hc] w fun e w' => e = .returned (.bool b) ∧ OwI w' B A n c ys ∧ OnlyA w w' A := by
  have hn := h0.le
  have hxl := h0.len
  have hll := h1.len
  have hhl := h2.len
  have H0 := Lib.hid h0
  have HL := Lib.hid h1
  have HH := Lib.hid h2
  have HU := Lib.hid hu
  have HBT := Lib.hid hbt
  have HBIG := Lib.hid hbig
  clear h0 h1 h2 hu hbt hbig
  go_enter Try.func98, Try.ntmps98
  go_wp2_with fail
  go_loopw [7] (fun i wr => ∃ j : Nat, i = .int .i64 ((j : Int) - 1) ∧ j ≤ n ∧ Hid (OwI wr B A n c (xs.take j ++ ls.drop j) ∧ up (xs.drop j) (ls.drop j) (hs.drop j) = (ls.drop j, false)) ∧ Hid (OnlyA w wr A)) (fun i _ => (intOf i + 1).toNat)
  case atStart => exact ⟨n, by go_num, Nat.le_refl _, Lib.hid ⟨by rw [List.take_of_length_le (by omega), List.drop_of_length_le (by omega), List.append_nil]; exact H0.out, by rw [List.drop_of_length_le (by omega), List.drop_of_length_le (by omega), List.drop_of_length_le (by omega)]; rfl⟩, Lib.hid (OnlyA.refl _ _)⟩
  case round =>
    obtain ⟨j1, rfl, hj1, hO, hG⟩ := hrel
    rcases Nat.eq_zero_or_pos j1 with hz | hz
    · subst hz
      have hz0 : ¬ ((0 : Nat) : Int) - 1 ≥ 0 := by omega
      have HE := Lib.hid (show ys = ls ∧ b = false by
        have h3 := hO.out.2
        rw [List.drop_zero, List.drop_zero, List.drop_zero, HU.out] at h3
        cases h3; exact ⟨rfl, rfl⟩)
      have HO := Lib.hid (show OwI wr B A n c ls by have := hO.out.1; simpa using this)
      go_wp2
      go_ret
      exact ⟨ret_bool HE.out.2.symm, by rw [HE.out.1]; exact HO.out, hG.out⟩
    · obtain ⟨j, rfl⟩ : ∃ j, j1 = j + 1 := ⟨j1 - 1, by omega⟩
      have hji : (((j + 1 : Nat) : Int)) - 1 = (j : Int) := by omega
      rw [hji]
      have hjn : j < n := by omega
      obtain ⟨g, rfl, hgB, _⟩ : ∃ g, A = some ⟨g, 0, none⟩ ∧ B ≤ g ∧ g < wr.heap.size := by
        rcases hO.out.1.form with ⟨_, h0, _⟩ | h
        · omega
        · exact h
      obtain ⟨x, hx⟩ : ∃ x, xs[j]? = some x := ⟨_, List.getElem?_eq_getElem (by omega)⟩
      obtain ⟨l, h, hl, hh, hlx, hxh⟩ := HBT.out.at_ hx
      obtain ⟨x', hx', hcx, hfx⟩ := OwI.at_ hO.out.1 hjn
      rw [up_get hx] at hx'; cases hx'
      obtain ⟨bl, ol, l', rfl, hl', hcl⟩ := RI.at_ (RI.onlyA HL.out hG.out hL) hjn
      rw [hl] at hl'; cases hl'
      obtain ⟨bh, oh, h', rfl, hh', hch⟩ := RI.at_ (RI.onlyA HH.out hG.out hH) hjn
      rw [hh] at hh'; cases hh'
      have hhb := HBIG.out.1 j h hh
      have hlb := HBIG.out.2 j l hl
      have HXJ := Lib.hid hx
      have HLJ := Lib.hid hl
      have HHJ := Lib.hid hh
      have hj0 : (0 : Int) ≤ (j : Int) := by omega
      have hjd : decide ((0 : Int) ≤ (j : Int)) = true := by simp
      have hjni : (j : Int) < (n : Int) := by omega
      have hgl : g < wr.heap.size := World.block_lt_of_cell? wr _ hcx
      clear hx hl hh
      by_cases hxh2 : x < h
      · have hd2 : decide (x < h) = true := by simpa using hxh2
        have HE := Lib.hid (show ys = xs.take j ++ (x + 1) :: ls.drop (j + 1) ∧ b = true by
          have h3 := up_at (by omega) (by omega) HXJ.out HHJ.out hxh2 hO.out.2
          rw [HU.out] at h3
          cases h3; exact ⟨rfl, rfl⟩)
        have hw1 : IntKind.i64.wrap (x + 1) = x + 1 := IntWalk.i64_in _ (by omega)
        go_wp2_with fail
        go_quiet (fail)
        have HN := Lib.hid (show OwI ((wr.drewN nq).setCell ⟨g, j, none⟩ (.int .i64 (x + 1))) B (some ⟨g, 0, none⟩) n c (xs.take j ++ (x + 1) :: ls.drop (j + 1)) by rw [← up_mid2 (x + 1) HXJ.out]; exact OwI.set (OwI.drewN hO.out.1 nq) j (x + 1))
        have HG := Lib.hid (OnlyA.trans (OnlyA.trans hG.out (OnlyA.of_ext (by (repeat' (first | (with_reducible exact Ext.refl _) | (with_reducible assumption) | (with_reducible refine Ext.alloc ?_ _) | (with_reducible refine Ext.set ?_ ?_ _) | (with_reducible refine Ext.drewN ?_ _) | (with_reducible refine Ext.drew ?_) | (with_reducible refine Ext.trans ?_ (by with_reducible assumption)) | go_size)) : Ext wr (wr.drewN nq)) _)) (Only.setCell (wr.drewN nq) g j (.int .i64 (x + 1))))
        go_wp2
        go_ret
        exact ⟨ret_bool HE.out.2.symm, by rw [HE.out.1]; exact HN.out, HG.out⟩
      · have hd2 : decide (x < h) = false := by simpa using hxh2
        have HB := Lib.hid (up_back HXJ.out HLJ.out HHJ.out hxh2 hO.out.2)
        go_wp2_with fail
        go_quiet (fail)
        have HN := Lib.hid (show OwI ((wr.drewN nq).setCell ⟨g, j, none⟩ (.int .i64 l)) B (some ⟨g, 0, none⟩) n c (xs.take j ++ ls.drop j) by rw [← up_mid (by omega) HLJ.out]; exact OwI.set (OwI.drewN hO.out.1 nq) j l)
        have HG := Lib.hid (OnlyA.trans (OnlyA.trans hG.out (OnlyA.of_ext (by (repeat' (first | (with_reducible exact Ext.refl _) | (with_reducible assumption) | (with_reducible refine Ext.alloc ?_ _) | (with_reducible refine Ext.set ?_ ?_ _) | (with_reducible refine Ext.drewN ?_ _) | (with_reducible refine Ext.drew ?_) | (with_reducible refine Ext.trans ?_ (by with_reducible assumption)) | go_size)) : Ext wr (wr.drewN nq)) _)) (Only.setCell (wr.drewN nq) g j (.int .i64 l)))
        go_wp2
        go_roundw
        case rel => exact ⟨j, by go_num, by omega, Lib.hid ⟨HN.out, HB.out⟩, HG⟩
        case measure => simp only [intOf]; omega

/-! The first projection: plain, and the heads of pairs: the program's. -/
/-- A head of a pair of a set. -/
def HdIn (ps : List DepP) (set : List Int) (f : Int) : Prop := ∃ n ∈ set, ∃ q, ps[n.toNat]? = some q ∧ (q.l[0]? = some f ∨ q.r[0]? = some f)
noncomputable def hdB (ps : List DepP) (set : List Int) (f : Int) : Bool := @decide (HdIn ps set f) (Classical.propDecidable _)
theorem hdB_iff {ps : List DepP} {set : List Int} {f : Int} : hdB ps set f = true ↔ HdIn ps set f := by simp only [hdB, decide_eq_true_eq]
theorem hdB_f {ps : List DepP} {set : List Int} {f : Int} : hdB ps set f = false ↔ ¬ HdIn ps set f := by simp only [hdB, decide_eq_false_iff_not]
theorem HdIn.nil {ps : List DepP} {f : Int} : ¬ HdIn ps [] f := by rintro ⟨n, h, _⟩; cases h
theorem HdIn.succ {ps : List DepP} {set : List Int} {k z : Nat} {q : DepP} {a b f : Int} (hs : set[k]? = some (z : Int)) (hq : ps[z]? = some q) (hl : q.l[0]? = some a) (hr : q.r[0]? = some b) :
    HdIn ps (set.take (k + 1)) f ↔ HdIn ps (set.take k) f ∨ f = a ∨ f = b := by
  rw [List.take_add_one, hs]
  constructor
  · rintro ⟨n, h, p, hp, h2⟩
    rcases List.mem_append.1 h with h | h
    · exact .inl ⟨n, h, p, hp, h2⟩
    · simp at h; subst h
      rw [Int.toNat_natCast, hq] at hp; cases hp
      rw [hl, hr] at h2
      rcases h2 with h2 | h2
      · cases h2; exact .inr (.inl rfl)
      · cases h2; exact .inr (.inr rfl)
  · rintro (⟨n, h, p, hp, h2⟩ | h | h)
    · exact ⟨n, List.mem_append_left _ h, p, hp, h2⟩
    · exact ⟨z, List.mem_append_right _ (by simp), q, by rw [Int.toNat_natCast]; exact hq, .inl (by rw [h]; exact hl)⟩
    · exact ⟨z, List.mem_append_right _ (by simp), q, by rw [Int.toNat_natCast]; exact hq, .inr (by rw [h]; exact hr)⟩
/-- Head or not, for each symbol. -/
noncomputable def hdL (ps : List DepP) (set : List Int) (m : Nat) : List Bool := (List.range m).map fun (f : Nat) => hdB ps set (f : Int)
theorem hdL_get {ps : List DepP} {set : List Int} {m k : Nat} (h : k < m) : (hdL ps set m)[k]? = some (hdB ps set (k : Int)) := by
  unfold hdL; rw [List.getElem?_map, List.getElem?_range h]; rfl
theorem hdL_nil (ps : List DepP) (m : Nat) : hdL ps [] m = List.replicate m false := by
  refine List.ext_getElem? fun k => ?_
  rcases Nat.lt_or_ge k m with h | h
  · rw [hdL_get h, List.getElem?_replicate, if_pos h, hdB_f.2 HdIn.nil]
  · rw [List.getElem?_eq_none (by simp [hdL]; exact h), List.getElem?_eq_none (by simpa using h)]
theorem hdL_succ {ps : List DepP} {set : List Int} {m k z a b : Nat} {q : DepP} (hs : set[k]? = some (z : Int)) (hq : ps[z]? = some q) (hl : q.l[0]? = some (a : Int)) (hr : q.r[0]? = some (b : Int)) :
    ((hdL ps (set.take k) m).set a true).set b true = hdL ps (set.take (k + 1)) m := by
  refine List.ext_getElem? fun f => ?_
  rw [List.getElem?_set, List.getElem?_set]
  have hlen : (hdL ps (set.take k) m).length = m := by simp [hdL]
  rcases Nat.lt_or_ge f m with h | h
  · have e := HdIn.succ (f := (f : Int)) hs hq hl hr
    rw [hdL_get h, hdL_get h]
    simp only [List.length_set, hlen]
    by_cases h1 : b = f
    · subst h1
      rw [if_pos rfl, if_pos h, hdB_iff.2 (e.2 (.inr (.inr rfl)))]
    · rw [if_neg h1]
      by_cases h2 : a = f
      · subst h2
        rw [if_pos rfl, if_pos h, hdB_iff.2 (e.2 (.inr (.inl rfl)))]
      · rw [if_neg h2]
        cases hb : hdB ps (set.take k) (f : Int) with
        | true => rw [hdB_iff.2 (e.2 (.inl (hdB_iff.1 hb)))]
        | false =>
          rw [hdB_f.2 fun h3 => ?_]
          rcases e.1 h3 with h3 | h3 | h3
          · exact hdB_f.1 hb h3
          · omega
          · omega
  · rw [List.getElem?_eq_none (by rw [hlen]; exact h), List.getElem?_eq_none (l := hdL ps (set.take (k + 1)) m) (by simp [hdL]; exact h)]
    simp only [List.length_set, hlen]
    split
    · rw [if_neg (by omega)]
    · split
      · rw [if_neg (by omega)]
      · rfl
/-- The least and the greatest choice, for the first symbols; the others are not looked at yet. -/
noncomputable def lowK (ps : List DepP) (set : List Int) (m k : Nat) : List Int := (List.range m).map fun (f : Nat) => if f < k ∧ hdB ps set (f : Int) = true then 0 else -1
noncomputable def highK (ar : List Int) (ps : List DepP) (set : List Int) (m k : Nat) : List Int := (List.range m).map fun (f : Nat) => if f < k ∧ hdB ps set (f : Int) = true then ar.getD f 0 - 1 else -1
theorem mapR_get {α : Type} {g : Nat → α} {m f : Nat} (h : f < m) : ((List.range m).map g)[f]? = some (g f) := by rw [List.getElem?_map, List.getElem?_range h]; rfl
theorem mapR_set {α : Type} {g g' : Nat → α} {m k : Nat} {y : α} (hk : k < m) (hy : g' k = y) (h : ∀ f, f < m → f ≠ k → g f = g' f) : ((List.range m).map g).set k y = (List.range m).map g' := by
  refine List.ext_getElem? fun f => ?_
  rw [List.getElem?_set]
  simp only [List.length_map, List.length_range]
  rcases Nat.lt_or_ge f m with h1 | h1
  · rw [mapR_get h1, mapR_get h1]
    by_cases h2 : k = f
    · subst h2; rw [if_pos rfl, if_pos h1, hy]
    · rw [if_neg h2, h f h1 (fun e => h2 e.symm)]
  · rw [List.getElem?_eq_none (by simpa using h1), List.getElem?_eq_none (by simpa using h1)]
    split
    · omega
    · rfl
theorem mapR_same {α : Type} {g g' : Nat → α} {m : Nat} (h : ∀ f, f < m → g f = g' f) : (List.range m).map g = (List.range m).map g' := by
  refine List.ext_getElem? fun f => ?_
  rcases Nat.lt_or_ge f m with h1 | h1
  · rw [mapR_get h1, mapR_get h1, h f h1]
  · rw [List.getElem?_eq_none (by simpa using h1), List.getElem?_eq_none (by simpa using h1)]
theorem mapR_rep {α : Type} {g : Nat → α} {m : Nat} {y : α} (h : ∀ f, f < m → g f = y) : List.replicate m y = (List.range m).map g := by
  refine List.ext_getElem? fun f => ?_
  rcases Nat.lt_or_ge f m with h1 | h1
  · rw [mapR_get h1, h f h1, List.getElem?_replicate, if_pos h1]
  · rw [List.getElem?_eq_none (by simpa using h1), List.getElem?_eq_none (by simpa using h1)]
section
variable {ar : List Int} {ps : List DepP} {set : List Int} {m k : Nat}
theorem lowK_len : (lowK ps set m k).length = m := by simp [lowK]
theorem highK_len : (highK ar ps set m k).length = m := by simp [highK]
theorem lowK_zero : List.replicate m (-1) = lowK ps set m 0 := mapR_rep fun f _ => by rw [if_neg (by omega)]
theorem highK_zero : List.replicate m (-1) = highK ar ps set m 0 := mapR_rep fun f _ => by rw [if_neg (by omega)]
theorem lowK_yes (hk : k < m) (h : hdB ps set (k : Int) = true) : (lowK ps set m k).set k 0 = lowK ps set m (k + 1) :=
  mapR_set hk (by rw [if_pos ⟨by omega, h⟩]) fun f _ hne => by
    by_cases h1 : f < k ∧ hdB ps set (f : Int) = true
    · rw [if_pos h1, if_pos ⟨by omega, h1.2⟩]
    · rw [if_neg h1, if_neg (fun h2 => h1 ⟨by omega, h2.2⟩)]
theorem lowK_no (h : hdB ps set (k : Int) = false) : lowK ps set m k = lowK ps set m (k + 1) :=
  mapR_same fun f _ => by
    by_cases h1 : f < k ∧ hdB ps set (f : Int) = true
    · rw [if_pos h1, if_pos ⟨by omega, h1.2⟩]
    · have h4 : ¬ (f < k + 1 ∧ hdB ps set (f : Int) = true) := fun h2 => by
        rcases Nat.lt_or_ge f k with h3 | h3
        · exact h1 ⟨h3, h2.2⟩
        · obtain rfl : f = k := by omega
          have h5 := h2.2
          rw [h] at h5; cases h5
      rw [if_neg h1, if_neg h4]
theorem highK_yes {x : Int} (hk : k < m) (hx : ar[k]? = some x) (h : hdB ps set (k : Int) = true) : (highK ar ps set m k).set k (x - 1) = highK ar ps set m (k + 1) :=
  mapR_set hk (by rw [if_pos ⟨by omega, h⟩, List.getD_eq_getElem?_getD, hx]; rfl) fun f _ hne => by
    by_cases h1 : f < k ∧ hdB ps set (f : Int) = true
    · rw [if_pos h1, if_pos ⟨by omega, h1.2⟩]
    · rw [if_neg h1, if_neg (fun h2 => h1 ⟨by omega, h2.2⟩)]
theorem highK_no (h : hdB ps set (k : Int) = false) : highK ar ps set m k = highK ar ps set m (k + 1) :=
  mapR_same fun f _ => by
    by_cases h1 : f < k ∧ hdB ps set (f : Int) = true
    · rw [if_pos h1, if_pos ⟨by omega, h1.2⟩]
    · have h4 : ¬ (f < k + 1 ∧ hdB ps set (f : Int) = true) := fun h2 => by
        rcases Nat.lt_or_ge f k with h3 | h3
        · exact h1 ⟨h3, h2.2⟩
        · obtain rfl : f = k := by omega
          have h5 := h2.2
          rw [h] at h5; cases h5
      rw [if_neg h1, if_neg h4]
theorem lowK_at {f : Nat} (hf : f < m) : (lowK ps set m k)[f]? = some (if f < k ∧ hdB ps set (f : Int) = true then 0 else -1) := mapR_get hf
theorem highK_at {f : Nat} (hf : f < m) : (highK ar ps set m k)[f]? = some (if f < k ∧ hdB ps set (f : Int) = true then ar.getD f 0 - 1 else -1) := mapR_get hf
end
/-- A head without arguments: no projection at all. -/
def BadH (ar : List Int) (ps : List DepP) (set : List Int) : Prop := ∃ f, f < ar.length ∧ hdB ps set (f : Int) = true ∧ ar[f]? = some 0
/-- Something goes by it. -/
def GoesBy (ar : List Int) (ps : List DepP) (set pj : List Int) : Prop := ∃ x xs, prjGo ar pj ps set [] = some (x :: xs)
noncomputable def lowP (ar : List Int) (ps : List DepP) (set : List Int) : List Int := lowK ps set ar.length ar.length
noncomputable def highP (ar : List Int) (ps : List DepP) (set : List Int) : List Int := highK ar ps set ar.length ar.length
noncomputable def fpGo (ar : List Int) (ps : List DepP) (set : List Int) : Option (List Int) :=
  @ite _ (BadH ar ps set) (Classical.propDecidable _) none (srch (GoesBy ar ps set) (lowP ar ps set) (highP ar ps set) (cnt (lowP ar ps set) (highP ar ps set) - rkU (lowP ar ps set) (lowP ar ps set) (highP ar ps set)) (lowP ar ps set))
noncomputable def fpV (s : Sy) (set : List Int) : Option (List Int) := if prB s = true ∧ setB (prV s).length set = true then fpGo s.ar (prV s) set else none
theorem fpV_no1 {s : Sy} {set : List Int} (h : prB s = false) : fpV s set = none := by unfold fpV; rw [if_neg (by rw [h]; simp)]
theorem fpV_no2 {s : Sy} {set : List Int} (h : setB (prV s).length set = false) : fpV s set = none := by unfold fpV; rw [if_neg (by rw [h]; simp)]
theorem fpV_yes {s : Sy} {set : List Int} (h1 : prB s = true) (h2 : setB (prV s).length set = true) : fpV s set = fpGo s.ar (prV s) set := by unfold fpV; rw [if_pos ⟨h1, h2⟩]
theorem fpGo_bad {ar : List Int} {ps : List DepP} {set : List Int} {f : Nat} {x : Int} (hf : f < ar.length) (h : hdB ps set (f : Int) = true) (hx : ar[f]? = some x) (h0 : x = 0) : fpGo ar ps set = none := by
  unfold fpGo; rw [if_pos ⟨f, hf, h, by rw [hx, h0]⟩]
theorem low_btw {ar : List Int} {ps : List DepP} {set : List Int} (hs : SigP ar) (hb : ¬ BadH ar ps set) : Btw (lowP ar ps set) (lowP ar ps set) (highP ar ps set) := by
  refine Btw.of rfl (by simp [highP, lowP, highK_len, lowK_len]) fun k x l h hx hl hh => ?_
  have hk : k < ar.length := by have := (List.getElem?_eq_some_iff.1 hx).1; simpa [lowP, lowK_len] using this
  rw [hx] at hl; cases hl
  rw [lowP, lowK_at hk] at hx
  rw [highP, highK_at hk] at hh
  have hak : ar[k]? = some ar[k] := List.getElem?_eq_getElem hk
  have h0 := hs.2.2 ar[k] (List.getElem_mem hk)
  rw [List.getD_eq_getElem?_getD, hak] at hh
  by_cases h1 : k < ar.length ∧ hdB ps set (k : Int) = true
  · rw [if_pos h1] at hx hh
    simp at hx hh
    have : ar[k] ≠ 0 := fun e => hb ⟨k, hk, h1.2, by rw [hak, e]⟩
    omega
  · rw [if_neg h1] at hx hh
    simp at hx hh
    omega
theorem fp_start {ar : List Int} {ps : List DepP} {set : List Int} {o : Option (List Int)} (hs : SigP ar) (hb : ¬ BadH ar ps set) (h : fpGo ar ps set = o) : ∃ k, OnWay (GoesBy ar ps set) (lowP ar ps set) (highP ar ps set) o k (lowP ar ps set) := by
  unfold fpGo at h; rw [if_neg hb] at h
  exact ⟨_, OnWay.start (low_btw hs hb) h⟩
theorem btw_proj {ar pj : List Int} {ps : List DepP} {set : List Int} (hs : SigP ar) (h : Btw pj (lowP ar ps set) (highP ar ps set)) : ProjP ar pj := by
  refine ⟨hs, by rw [h.len.1]; simp [lowP, lowK_len], fun j x n hx hn => ?_⟩
  obtain ⟨l, hh, h1, h2, h3, h4⟩ := h.at_ hx
  have hj : j < ar.length := (List.getElem?_eq_some_iff.1 hn).1
  rw [lowP, lowK_at hj] at h1
  rw [highP, highK_at hj] at h2
  have h0 := hs.2.2 n (List.mem_of_getElem? hn)
  rw [List.getD_eq_getElem?_getD, hn] at h2
  by_cases h5 : j < ar.length ∧ hdB ps set (j : Int) = true
  · rw [if_pos h5] at h1 h2
    simp at h1 h2; omega
  · rw [if_neg h5] at h1 h2
    simp at h1 h2; omega
/-- The head of a term of a pair. -/
theorem head_at {ar t : List Int} (ht : TermP ar t) (h0 : ∀ x, t[0]? = some x → 0 ≤ x) : ∃ f : Nat, t[0]? = some (f : Int) ∧ f < ar.length := by
  obtain ⟨hok, hfl⟩ := tmOf_ok ht
  cases htm : tmOf ar t with
  | node f us =>
    rw [htm] at hok hfl
    rw [flat_node] at hfl
    have ht0 : t[0]? = some f := by rw [← hfl]; rfl
    obtain ⟨k, rfl⟩ := Int.eq_ofNat_of_zero_le (h0 f ht0)
    have hlt : (k : Int) < ar.length := arI_lt (Ok_node.1 hok).1
    exact ⟨k, ht0, by omega⟩
theorem madeBoolsF (n : Nat) : (madeCells #[Value.bool false] n).toList = (List.replicate n false).map Value.bool := by
  apply List.ext_getElem?
  intro j
  simp only [madeCells, Array.toList_map, Array.toList_range, List.getElem?_map, List.getElem?_replicate]
  rcases Nat.lt_or_ge j n with h | h
  · simp [h, Nat.mod_one]
  · simp [Nat.not_lt.2 h]
theorem bool_infoF : (Try.prog.info? 4).map (fun i => (i.zero, i.size, i.bytes)) = some (some (.bool false), 1, 1) := by kernel_rfl
set_option maxRecDepth 100000 in
set_option maxHeartbeats 4000000 in
theorem c_heads {v0 v2 : Value} {A : Option Addr} {n c m : Nat} {ar set : List Int} {ps : List DepP} {w : World} (hm : ar.length = m) (hs : SigP ar) (h0 : RdSig w v0 ar) (h1 : RE w A n ps) (h2 : RdI w v2 set) (hpp : ∀ q ∈ ps, PairP ar q) (hset : SetP n set) :
    Calls Try.prog 97 #[v0, .slice A n c, v2] w fun e w' => e = .returned (.slice (some ⟨w.heap.size + 1, 0, none⟩) m m) ∧ OwB (w.heap.size + 1) m w' (hdL ps set m) ∧ Ext w w' := by
  obtain ⟨S, sn, sc, rfl, hsr⟩ := h0
  obtain ⟨D, d, dc, rfl, hd⟩ := h2
  obtain rfl : sn = m := by rw [← hsr.len, hm]
  have hm8 : sn ≤ 8 := by rw [← hm]; exact hs.2.1
  have HS := Lib.hid hsr
  have HA := Lib.hid h1
  have HD := Lib.hid hd
  have HPP := Lib.hid hpp
  have HST := Lib.hid hset
  have HM := Lib.hid hm
  have hdl := hd.len
  have hdle := hd.le
  clear hsr h1 hd hpp hset hs
  obtain ⟨ib, hbi, hbz, hbs, hbb⟩ := info_parts bool_infoF
  go_enter Try.func97, Try.ntmps97
  go_wp2_with (at_make; refine wpList_make_full _ rfl _ _ 110 rfl (w.heap.size + 1) 4 ib _ 1 Try.underlying110 hbi hbz hbs _ _ _ _ sn rfl rfl rfl rfl (by rw [hbb]; omega) (by simp only [maxLen]; omega) (by go_size) ?_)
  intro w3 hown0 hg3
  rw [madeBoolsF] at hown0
  have hE3 : Ext w w3 := Ext.grown ((Ext.refl w).alloc (.cells #[.slice S sn sc] 31)) hg3 (fun k hk => by cases hk)
  have HB0 := Lib.hid (show OwB (w.heap.size + 1) sn w3 (hdL ps (set.take 0) sn) by rw [List.take_zero, hdL_nil]; exact hown0)
  have hu := HB0.out.lt
  clear hown0 hg3
  go_wp2_with fail
  go_loopw [16] (fun kv wr => ∃ k : Nat, kv = .int .i64 k ∧ k ≤ d ∧ Hid (OwB (w.heap.size + 1) sn wr (hdL ps (set.take k) sn)) ∧ Ext w wr) (fun kv _ => d - (intOf kv).toNat)
  case atStart => exact ⟨0, rfl, Nat.zero_le _, HB0, hE3⟩
  case round =>
    obtain ⟨k, rfl, hk, hB, hE⟩ := hrel
    by_cases hlt : k < d
    · obtain ⟨b', o', x, rfl, hx, hcx⟩ := RI.at_ HD.out hlt
      have hxs := (HST.out k x hx).1
      obtain ⟨z, rfl⟩ := Int.eq_ofNat_of_zero_le hxs.1
      have hzn : z < n := by have := HA.out.1.1; omega
      obtain ⟨q, b, o2, A1, n1, c1, A2, n2, c2, hq, rfl, hc0, hc1, _, _, hcap1, hcap2, hr1, hr2⟩ := RE.at_ HA.out hzn
      obtain ⟨⟨hq1, hq2⟩, hq3, hq4⟩ := HPP.out q (List.mem_of_getElem? hq)
      obtain ⟨f1, hf1, hf1m⟩ := head_at hq1 hq2
      obtain ⟨f2, hf2, hf2m⟩ := head_at hq3 hq4
      have hn1 : 0 < n1 := by rw [← hr1.len]; exact hq1.2.1.1
      have hn2 : 0 < n2 := by rw [← hr2.len]; exact hq3.2.1.1
      obtain ⟨b1, o1, y1, rfl, hy1, hd1⟩ := RI.at_ hr1 hn1
      rw [hf1] at hy1; cases hy1
      obtain ⟨b2, o3, y2, rfl, hy2, hd2⟩ := RI.at_ hr2 hn2
      rw [hf2] at hy2; cases hy2
      have hbl := World.block_lt_of_cell? w _ hc0
      have hbl' := World.block_lt_of_cell? w _ hcx
      have hbl1 := World.block_lt_of_cell? w _ hd1
      have hbl2 := World.block_lt_of_cell? w _ hd2
      have hcx' := Ext.keep hE hcx
      have hc0' := Ext.keep hE hc0
      have hc1' := Ext.keep hE hc1
      have hd1' : wr.cell? ⟨b1, o1, none⟩ = some (.int .i64 (f1 : Int)) := by have := Ext.keep hE hd1; simpa using this
      have hd2' : wr.cell? ⟨b2, o3, none⟩ = some (.int .i64 (f2 : Int)) := by have := Ext.keep hE hd2; simpa using this
      have HN := Lib.hid (hdL_succ (m := sn) hx hq hf1 hf2)
      rw [HM.out] at hf1m hf2m
      obtain ⟨u1, hu1, hcu1, hfu1⟩ := hB.out.at_ hf1m
      obtain ⟨u2, hu2, hcu2, hfu2⟩ := hB.out.at_ hf2m
      have HS2 := Lib.hid (OwB.set (OwB.set hB.out f1 true) f2 true)
      rw [HN.out] at HS2
      have hE9 : Ext w ((wr.setCell ⟨w.heap.size + 1, f1, none⟩ (.bool true)).setCell ⟨w.heap.size + 1, f2, none⟩ (.bool true)) := Ext.set (Ext.set hE (Nat.le_succ _) _) (Nat.le_succ _) _
      have hki : (k : Int) < (d : Int) := by omega
      have hk0 : (0 : Int) ≤ (k : Int) := by omega
      have hzi : (z : Int) < (n : Int) := by omega
      have hz0 : (0 : Int) ≤ (z : Int) := by omega
      have hf1i : (f1 : Int) < (sn : Int) := by omega
      have hf10 : (0 : Int) ≤ (f1 : Int) := by omega
      have hf2i : (f2 : Int) < (sn : Int) := by omega
      have hf20 : (0 : Int) ≤ (f2 : Int) := by omega
      have hn1i : (0 : Int) < (n1 : Int) := by omega
      have hn2i : (0 : Int) < (n2 : Int) := by omega
      have hul : w.heap.size + 1 < wr.heap.size := hB.out.lt
      clear hx hxs hq hq1 hq2 hq3 hq4 hf1 hf2 hc0 hc1 hcx hd1 hd2 hcap1 hcap2 hr1 hr2 hu1 hu2
      have hbw : b ≠ w.heap.size + 1 := by have : b < w.heap.size := hbl; omega
      have hbw1 : b1 ≠ w.heap.size + 1 := by have : b1 < w.heap.size := hbl1; omega
      have hbw2 : b2 ≠ w.heap.size + 1 := by have : b2 < w.heap.size := hbl2; omega
      by_cases hff : f1 = f2
      · subst hff
        go_wp2_with fail
        go_roundw
        case rel => exact ⟨k + 1, by go_num, by omega, HS2, hE9⟩
        case measure => simp only [intOf]; omega
      · have hff' : ¬ f2 = f1 := fun e => hff e.symm
        go_wp2_with fail
        go_roundw
        case rel => exact ⟨k + 1, by go_num, by omega, HS2, hE9⟩
        case measure => simp only [intOf]; omega
    · obtain rfl : k = d := by omega
      have HT := Lib.hid (show set.take k = set from List.take_of_length_le (by omega))
      go_wp2_with fail
      go_ret
      exact ⟨rfl, by rw [← HT.out]; exact hB.out, hE⟩

/-! The first projection: the program's. -/
theorem OwB.setFar {u m : Nat} {w : World} {us : List Bool} (h : OwB u m w us) {p : Addr} (v : Value) (hp : p.block ≠ u) : OwB u m (w.setCell p v) us := h.block (Below.heap_setCell w p v u (fun e => hp e.symm))
theorem OwB.drewN {u m : Nat} {w : World} {us : List Bool} (h : OwB u m w us) (k : Nat) : OwB u m (w.drewN k) us := h
/-- How many lists are still to be looked at. -/
noncomputable def fpMeas (T : List Int → Prop) (ls hs : List Int) (o : Option (List Int)) (B g n c : Nat) (mv : Value) (w : World) : Nat := match mv with
  | .bool true => leastOf (fun k => ∃ xs, OwI w B (some ⟨g, 0, none⟩) n c xs ∧ OnWay T ls hs o k xs) + 1
  | _ => 0
theorem fpMeas_t {T : List Int → Prop} {ls hs : List Int} {o : Option (List Int)} {B g n c : Nat} {w : World} : fpMeas T ls hs o B g n c (.bool true) w = leastOf (fun k => ∃ xs, OwI w B (some ⟨g, 0, none⟩) n c xs ∧ OnWay T ls hs o k xs) + 1 := rfl
theorem fpMeas_f {T : List Int → Prop} {ls hs : List Int} {o : Option (List Int)} {B g n c : Nat} {w : World} : fpMeas T ls hs o B g n c (.bool false) w = 0 := rfl
theorem fp_big {ar : List Int} {ps : List DepP} {set : List Int} (hs : SigP ar) : (∀ (k : Nat) (h : Int), (highP ar ps set)[k]? = some h → h ≤ 1000000) ∧ ∀ (k : Nat) (l : Int), (lowP ar ps set)[k]? = some l → -1000000 ≤ l := by
  refine ⟨fun k h hh => ?_, fun k l hl => ?_⟩
  · have hk : k < ar.length := by have := (List.getElem?_eq_some_iff.1 hh).1; simpa [highP, highK_len] using this
    rw [highP, highK_at hk] at hh
    have hak : ar[k]? = some ar[k] := List.getElem?_eq_getElem hk
    have h0 := hs.2.2 ar[k] (List.getElem_mem hk)
    rw [List.getD_eq_getElem?_getD, hak] at hh
    split at hh
    · simp at hh; omega
    · simp at hh; omega
  · have hk : k < ar.length := by have := (List.getElem?_eq_some_iff.1 hl).1; simpa [lowP, lowK_len] using this
    rw [lowP, lowK_at hk] at hl
    split at hl <;> (simp at hl; omega)
set_option maxRecDepth 100000 in
set_option maxHeartbeats 8000000 in
theorem c_firstProj {v0 v2 : Value} {A : Option Addr} {n c m : Nat} {ar set : List Int} {ps : List DepP} {o : Option (List Int)} {w : World} (ho : fpGo ar ps set = o) (hm : ar.length = m) (hs : SigP ar) (h0 : RdSig w v0 ar) (h1 : RE w A n ps) (h2 : RdI w v2 set) (hpp : ∀ q ∈ ps, PairP ar q) (hset : SetP n set) :
    Calls Try.prog 55 #[v0, .slice A n c, v2] w (NewOb w o) := by
  obtain ⟨S, sn, sc, rfl, hsr⟩ := h0
  obtain ⟨D, d, dc, rfl, hd⟩ := h2
  obtain rfl : sn = m := by rw [← hsr.len, hm]
  have hm8 : sn ≤ 8 := by rw [← hm]; exact hs.2.1
  have hm1 : 1 ≤ sn := by rw [← hm]; exact hs.1
  have HS := Lib.hid hsr
  have HA := Lib.hid h1
  have HD := Lib.hid hd
  have HPP := Lib.hid hpp
  have HST := Lib.hid hset
  have HM := Lib.hid hm
  have HSP := Lib.hid hs
  have HO := Lib.hid ho
  clear hsr h1 hd hpp hset hs ho
  go_enter Try.func55, Try.ntmps55
  go_wp2_with fail
  obtain ⟨wo, hwo⟩ : ∃ wo, wo = w.alloc (.cells #[.slice S sn sc] 31) := ⟨_, rfl⟩
  have hw0 : wo.cell? ⟨w.heap.size, 0, none⟩ = some (.slice S sn sc) := by rw [hwo]; simp [go_sem]
  have hEo : Ext w wo := by rw [hwo]; (repeat' (first | (with_reducible exact Ext.refl _) | (with_reducible assumption) | (with_reducible refine Ext.alloc ?_ _) | (with_reducible refine Ext.set ?_ ?_ _) | (with_reducible refine Ext.drewN ?_ _) | (with_reducible refine Ext.drew ?_) | (with_reducible refine Ext.trans ?_ (by with_reducible assumption)) | go_size))
  have hos : wo.heap.size = w.heap.size + 1 := by rw [hwo]; simp [go_sem]
  rw [← hwo]
  clear hwo
  refine wp_region_held_drew (S := (fun w' => w'.cell? ⟨w.heap.size, 0, none⟩ = some (.slice S sn sc) ∧ Ext wo w')) (by kernel_rfl) ?_ (fun hH => ?_)
  · exact ⟨hw0, (Ext.refl wo).drew⟩
  refine wpAnyH_take_dst (i := 0) (v := .pointer (some ⟨w.heap.size, 0, none⟩)) (d := some 16) rfl rfl (by kernel_rfl) (by kernel_rfl) (by kernel_rfl) (fun _ _ _ h => h) (Or.inl ⟨by rfl, ?_⟩) hH ?_
  · (intro w hSw; (try dsimp only at hSw); go_split_ands; go_simp; try with_reducible rfl)
  try simp only [Act.put, List.setIfInBounds_toArray, List.set_cons_zero, List.set_cons_succ]
  refine wpAnyH_take_dst (i := 1) (v := .slice S sn sc) (d := some 17) rfl rfl (by kernel_rfl) (by kernel_rfl) (by kernel_rfl) (fun _ _ _ h => h) (Or.inl ⟨by rfl, ?_⟩) hH ?_
  · (intro w hSw; (try dsimp only at hSw); go_split_ands; go_simp; try with_reducible rfl)
  try simp only [Act.put, List.setIfInBounds_toArray, List.set_cons_zero, List.set_cons_succ]
  refine wpAnyH_take_dst (i := 2) (v := .int .i64 (sn : Int)) (d := some 18) rfl rfl (by kernel_rfl) (by kernel_rfl) (by kernel_rfl) (fun _ _ _ h => h) (Or.inl ⟨by rfl, ?_⟩) hH ?_
  · (intro w hSw; (try dsimp only at hSw); go_split_ands; go_simp; try with_reducible rfl)
  try simp only [Act.put, List.setIfInBounds_toArray, List.set_cons_zero, List.set_cons_succ]
  refine wpAnyH_take_dst (i := 4) (v := .pointer (some ⟨w.heap.size, 0, none⟩)) (d := some 20) rfl rfl (by kernel_rfl) (by kernel_rfl) (by kernel_rfl) (fun _ _ _ h => h) (Or.inl ⟨by rfl, ?_⟩) hH ?_
  · (intro w hSw; (try dsimp only at hSw); go_split_ands; go_simp; try with_reducible rfl)
  try simp only [Act.put, List.setIfInBounds_toArray, List.set_cons_zero, List.set_cons_succ]
  refine wpAnyH_take_dst (i := 5) (v := .slice S sn sc) (d := some 21) rfl rfl (by kernel_rfl) (by kernel_rfl) (by kernel_rfl) (fun _ _ _ h => h) (Or.inl ⟨by rfl, ?_⟩) hH ?_
  · (intro w hSw; (try dsimp only at hSw); go_split_ands; go_simp; try with_reducible rfl)
  try simp only [Act.put, List.setIfInBounds_toArray, List.set_cons_zero, List.set_cons_succ]
  refine wpAnyH_take_dst (i := 6) (v := .int .i64 (sn : Int)) (d := some 22) rfl rfl (by kernel_rfl) (by kernel_rfl) (by kernel_rfl) (fun _ _ _ h => h) (Or.inl ⟨by rfl, ?_⟩) hH ?_
  · (intro w hSw; (try dsimp only at hSw); go_split_ands; go_simp; try with_reducible rfl)
  try simp only [Act.put, List.setIfInBounds_toArray, List.set_cons_zero, List.set_cons_succ]
  refine wpAnyH_ready (rs := [3]) (by kernel_rfl) (by simp) ?_
  refine AllReadyH.cons rfl (fun K hK => ?_) AllReadyH.nil
  rw [if_pos (by rfl)]
  go_wp2_with (go_at_call 96; (with_reducible refine ((c_repeated (by omega))).mono ?_); rintro e w5 ⟨A8, n8, c8, rfl, hO8, hE9⟩)
  refine hK.out _ _ ⟨Ext.keep hE9 hH.1, Ext.trans hH.2 hE9⟩ (fun hH9 => ?_)
  clear hK hH; have hH := hH9; clear hH9
  try simp only [Act.put, List.setIfInBounds_toArray, List.set_cons_zero, List.set_cons_succ]
  refine wpAnyH_ready (rs := [7]) (by kernel_rfl) (by simp) ?_
  refine AllReadyH.cons rfl (fun K hK => ?_) AllReadyH.nil
  rw [if_pos (by rfl)]
  go_wp2_with (go_at_call 96; (with_reducible refine ((c_repeated (by omega))).mono ?_); rintro e w6 ⟨A9, n9, c9, rfl, hO9, hE9⟩)
  refine hK.out _ _ ⟨Ext.keep hE9 hH.1, Ext.trans hH.2 hE9⟩ (fun hH9 => ?_)
  clear hK hH; have hH := hH9; clear hH9
  try simp only [Act.put, List.setIfInBounds_toArray, List.set_cons_zero, List.set_cons_succ]
  refine wpAnyH_take_dst (i := 8) (v := .slice A8 n8 c8) (d := some 8) rfl rfl (by kernel_rfl) (by kernel_rfl) (by kernel_rfl) (fun _ _ _ h => h) (Or.inl ⟨by rfl, ?_⟩) hH ?_
  · (intro w hSw; (try dsimp only at hSw); go_split_ands; go_simp; try with_reducible rfl)
  try simp only [Act.put, List.setIfInBounds_toArray, List.set_cons_zero, List.set_cons_succ]
  refine wpAnyH_take_dst (i := 9) (v := .slice A9 n9 c9) (d := some 9) rfl rfl (by kernel_rfl) (by kernel_rfl) (by kernel_rfl) (fun _ _ _ h => h) (Or.inl ⟨by rfl, ?_⟩) hH ?_
  · (intro w hSw; (try dsimp only at hSw); go_split_ands; go_simp; try with_reducible rfl)
  try simp only [Act.put, List.setIfInBounds_toArray, List.set_cons_zero, List.set_cons_succ]
  refine wpAnyH_done (by kernel_rfl) ?_ _
  obtain rfl : n8 = sn := by have := hO8.len; simpa using this.symm
  obtain rfl : n9 = n8 := by have := hO9.len; simpa using this.symm
  have hE6 := hH.2
  have hc6 := hH.1
  have hEw6 := Ext.trans hEo hE6
  have hbd8 := hO8.bd
  have hbd9 := hO9.bd
  have hsz6 := hE6.size
  have hO8 := hO8.ext hE9
  obtain ⟨g8, rfl, hg8, hg8l⟩ : ∃ g, A8 = some ⟨g, 0, none⟩ ∧ w.heap.size + 1 ≤ g ∧ g < w6.heap.size := by
    rcases hO8.form with ⟨_, h, _⟩ | ⟨g, hA, h1, h2⟩
    · omega
    · exact ⟨g, hA, by simp [go_sem] at h1; omega, h2⟩
  obtain ⟨g9, rfl, hg9, hg9l⟩ : ∃ g, A9 = some ⟨g, 0, none⟩ ∧ w.heap.size + 1 ≤ g ∧ g < w6.heap.size := by
    rcases hO9.form with ⟨_, h, _⟩ | ⟨g, hA, h1, h2⟩
    · omega
    · exact ⟨g, hA, by have := (hE9).size; have := (hbd8 g8 0 none rfl).1; simp [go_sem] at *; omega, h2⟩
  have hg89 : g8 ≠ g9 := by
    have h1 := (hbd8 g8 0 none rfl).2
    have h2 := (hbd9 g9 0 none rfl).1
    omega
  have hwod : wo.drew.heap.size = w.heap.size + 1 := by simpa [World.size_drew] using hos
  have HO8 := Lib.hid (show OwI w6 (w.heap.size + 1) (some ⟨g8, 0, none⟩) n9 c8 (lowK ps set n9 0) by rw [← lowK_zero]; exact hO8.lower (by omega))
  have HO9 := Lib.hid (show OwI w6 (w.heap.size + 1) (some ⟨g9, 0, none⟩) n9 c9 (highK ar ps set n9 0) by rw [← highK_zero]; exact hO9.lower (by have := hbd8 g8 0 none rfl; omega))
  clear hO8 hO9 hbd8 hbd9 hH hE9
  go_wp2_with fail
  (with_reducible refine (c_heads HM.out HSP.out (RdSig.mk (RI.ext HS.out hEw6)) (RE.ext HA.out hEw6) (RdI.mk (RI.ext HD.out hEw6)) HPP.out HST.out).mono ?_)
  rintro e w7 ⟨rfl, hB7, hE7⟩
  have HB7 := Lib.hid hB7
  have hc7 := Ext.keep hE7 hc6
  have hEw7 := Ext.trans hEw6 hE7
  have HO8 := Lib.hid (HO8.out.ext hE7)
  have HO9 := Lib.hid (HO9.out.ext hE7)
  have hg8l7 : g8 < w7.heap.size := by have := hE7.size; omega
  have hg9l7 : g9 < w7.heap.size := by have := hE7.size; omega
  clear hB7
  go_wp2_with fail
  go_loopw [29] (fun kv wr => ∃ k : Nat, kv = .int .i64 k ∧ k ≤ n9 ∧ Hid (OwI wr (w.heap.size + 1) (some ⟨g8, 0, none⟩) n9 c8 (lowK ps set n9 k) ∧ OwI wr (w.heap.size + 1) (some ⟨g9, 0, none⟩) n9 c9 (highK ar ps set n9 k) ∧ OwB (w6.heap.size + 1) n9 wr (hdL ps set n9) ∧ ∀ f, f < k → hdB ps set (f : Int) = true → ¬ ar[f]? = some 0) ∧ Ext wo wr ∧ w7.heap.size ≤ wr.heap.size) (fun kv _ => n9 - (intOf kv).toNat)
  case atStart => exact ⟨0, rfl, Nat.zero_le _, Lib.hid ⟨HO8.out, HO9.out, HB7.out, fun f h => by omega⟩, Ext.trans hE6 hE7, Nat.le_refl _⟩
  case round =>
    obtain ⟨k, rfl, hk, hI, hE, hsz⟩ := hrel
    have hEw := Ext.trans hEo hE
    have hcr := Ext.keep hE hw0
    by_cases hlt : k < n9
    · obtain ⟨bk, hbk, hcb, hfb⟩ := hI.out.2.2.1.at_ hlt
      rw [hdL_get hlt] at hbk
      have hbk' := Option.some.inj hbk
      obtain ⟨x8, hx8, hc8, hf8⟩ := OwI.at_ hI.out.1 hlt
      obtain ⟨x9, hx9, hc9, hf9⟩ := OwI.at_ hI.out.2.1 hlt
      obtain ⟨bs, os, x, rfl, hx, hcx⟩ := RI.at_ HS.out hlt
      have hcx' := Ext.keep hEw hcx
      have hbsl : bs < w.heap.size := World.block_lt_of_cell? w _ hcx
      have hx3 : 0 ≤ x ∧ x ≤ 3 := HSP.out.2.2 x (List.mem_of_getElem? hx)
      have HX := Lib.hid hx
      rw [lowK_at hlt] at hx8
      rw [highK_at hlt] at hx9
      rw [if_neg (by omega)] at hx8 hx9
      cases hx8; cases hx9
      have hki : (k : Int) < (n9 : Int) := by omega
      have hk0 : (0 : Int) ≤ (k : Int) := by omega
      have hgw8 : g8 ≠ w6.heap.size + 1 := by omega
      have hgw9 : g9 ≠ w6.heap.size + 1 := by omega
      have hgs8 : bs ≠ g8 := by omega
      have hgs9 : bs ≠ g9 := by omega
      have hgb8 : w.heap.size ≠ g8 := by omega
      have hg98 : g9 ≠ g8 := fun e => hg89 e.symm
      have hg8r : g8 < wr.heap.size := by omega
      have hg9r : g9 < wr.heap.size := by omega
      clear hx hbk
      cases bk with
      | false =>
        have HN8 := Lib.hid (lowK_no (m := n9) hbk')
        have HN9 := Lib.hid (highK_no (ar := ar) (m := n9) hbk')
        have HNF := Lib.hid (show ∀ f, f < k + 1 → hdB ps set (f : Int) = true → ¬ ar[f]? = some 0 from fun f h1 h2 => by
          rcases Nat.lt_or_ge f k with h3 | h3
          · exact hI.out.2.2.2 f h3 h2
          · obtain rfl : f = k := by omega
            rw [hbk'] at h2; cases h2)
        go_wp2_with fail
        go_quiet (fail)
        go_wp2
        go_roundw
        case rel => exact ⟨k + 1, by go_num, by omega, Lib.hid ⟨by rw [← HN8.out]; exact OwI.drewN hI.out.1 nq, by rw [← HN9.out]; exact OwI.drewN hI.out.2.1 nq, hI.out.2.2.1.ext (by (repeat' (first | (with_reducible exact Ext.refl _) | (with_reducible assumption) | (with_reducible refine Ext.alloc ?_ _) | (with_reducible refine Ext.set ?_ ?_ _) | (with_reducible refine Ext.drewN ?_ _) | (with_reducible refine Ext.drew ?_) | (with_reducible refine Ext.trans ?_ (by with_reducible assumption)) | go_size))), HNF.out⟩, by (repeat' (first | (with_reducible exact Ext.refl _) | (with_reducible assumption) | (with_reducible refine Ext.alloc ?_ _) | (with_reducible refine Ext.set ?_ ?_ _) | (with_reducible refine Ext.drewN ?_ _) | (with_reducible refine Ext.drew ?_) | (with_reducible refine Ext.trans ?_ (by with_reducible assumption)) | go_size)), hsz⟩
        case measure => simp only [intOf]; omega
      | true =>
        have HN8 := Lib.hid (lowK_yes (m := n9) hlt hbk')
        have HN9 := Lib.hid (highK_yes (m := n9) hlt HX.out hbk')
        have hw1 : IntKind.i64.wrap (x - 1) = x - 1 := IntWalk.i64_in _ (by omega)
        by_cases hx0 : x = 0
        · have HP := Lib.hid (show o = none by rw [← HO.out]; exact fpGo_bad (by rw [HM.out]; exact hlt) hbk' HX.out hx0)
          subst hx0
          have hd2 : decide ((0 : Int) - 1 < 0) = true := by decide
          go_wp2_with fail
          go_quiet (fail)
          go_wp2
          refine bodyPost_ret (v := .tuple #[.slice none 0 0, .bool false]) (by simp [results, Try.results55, go_sem]) rfl ?_
          rw [HP.out]
          exact ⟨none, 0, 0, rfl, ⟨by omega, World.ownsRow_nil _ _ _ _⟩, (Ext.set (Ext.set hEw (show w.heap.size ≤ g8 by omega) _ (p := ⟨g8, k, none⟩)) (show w.heap.size ≤ g9 by omega) _ (p := ⟨g9, k, none⟩)).drewN nq⟩
        · have HNF := Lib.hid (show ∀ f, f < k + 1 → hdB ps set (f : Int) = true → ¬ ar[f]? = some 0 from fun f h1 h2 => by
            rcases Nat.lt_or_ge f k with h3 | h3
            · exact hI.out.2.2.2 f h3 h2
            · obtain rfl : f = k := by omega
              rw [HX.out]; intro e; cases e; exact hx0 rfl)
          have hd2 : decide (x - 1 < 0) = false := by simp; omega
          go_wp2_with fail
          go_quiet (fail)
          have HS8 := Lib.hid (OwI.drewN (OwI.setFar (OwI.set hI.out.1 k 0) (p := ⟨g9, k, none⟩) (.int .i64 (x - 1)) (fun g o s e => by cases e; exact hg89)) nq)
          have HS9 := Lib.hid (OwI.drewN (OwI.set (OwI.setFar hI.out.2.1 (p := ⟨g8, k, none⟩) (.int .i64 0) (fun g o s e => by cases e; exact hg98)) k (x - 1)) nq)
          have HSB := Lib.hid (OwB.drewN (OwB.setFar (OwB.setFar hI.out.2.2.1 (p := ⟨g8, k, none⟩) (.int .i64 0) hgw8) (p := ⟨g9, k, none⟩) (.int .i64 (x - 1)) hgw9) nq)
          rw [HN8.out] at HS8
          rw [HN9.out] at HS9
          have hE9 := (Ext.set (Ext.set hE (show wo.heap.size ≤ g8 by omega) (.int .i64 0) (p := ⟨g8, k, none⟩)) (show wo.heap.size ≤ g9 by omega) (.int .i64 (x - 1)) (p := ⟨g9, k, none⟩)).drewN nq
          go_wp2
          go_roundw
          case rel => exact ⟨k + 1, by go_num, by omega, Lib.hid ⟨HS8.out, HS9.out, HSB.out, HNF.out⟩, hE9, by go_size⟩
          case measure => simp only [intOf]; omega
    · obtain rfl : k = n9 := by omega
      obtain ⟨wq, rfl⟩ : ∃ wq : World, wq = wr := ⟨_, rfl⟩
      have HNB := Lib.hid (show ¬ BadH ar ps set from fun ⟨f, h1, h2, h3⟩ => hI.out.2.2.2 f (by rw [HM.out] at h1; exact h1) h2 h3)
      have HL := Lib.hid (show OwI wq (w.heap.size + 1) (some ⟨g8, 0, none⟩) k c8 (lowP ar ps set) by unfold lowP; rw [HM.out]; exact hI.out.1)
      have HH := Lib.hid (show OwI wq (w.heap.size + 1) (some ⟨g9, 0, none⟩) k c9 (highP ar ps set) by unfold highP; rw [HM.out]; exact hI.out.2.1)
      have HWAY := Lib.hid (fp_start HSP.out HNB.out HO.out)
      have HBIG := Lib.hid (fp_big (ps := ps) (set := set) HSP.out)
      clear hI
      go_wp2_with fail
      (with_reducible refine (c_clone HL.out.ri).mono ?_)
      rintro e w8 ⟨A5, n5, c5, rfl, hO5, hE8⟩
      obtain rfl : n5 = k := by have h1 := hO5.len; have h2 := HL.out.len; omega
      obtain ⟨g5, rfl, hg5, hg5l⟩ : ∃ g, A5 = some ⟨g, 0, none⟩ ∧ wq.heap.size ≤ g ∧ g < w8.heap.size := by
        rcases hO5.form with ⟨_, h, _⟩ | h
        · omega
        · exact h
      have HO5 := Lib.hid hO5
      have HL8 := Lib.hid HL.out.ri
      have HH8 := Lib.hid HH.out.ri
      have hE8w := Ext.trans hEw hE8
      have hrsz : wq.heap.size ≤ w8.heap.size := hE8.size
      have hg8r : g8 < wq.heap.size := by omega
      have hg9r : g9 < wq.heap.size := by omega
      have hc8w := Ext.keep hE8 hcr
      clear hO5 HL HH
      go_wp2_with fail
      go_loopw [13] (fun mv wr => ∃ more : Bool, mv = .bool more ∧ Hid ((more = true → ∃ k xs, OwI wr wq.heap.size (some ⟨g5, 0, none⟩) n5 c5 xs ∧ OnWay (GoesBy ar ps set) (lowP ar ps set) (highP ar ps set) o k xs) ∧ (more = false → o = none)) ∧ Ext wq wr) (fun mv wr => fpMeas (GoesBy ar ps set) (lowP ar ps set) (highP ar ps set) o wq.heap.size g5 n5 c5 mv wr)
      case atStart => exact ⟨true, rfl, Lib.hid ⟨fun _ => by
        obtain ⟨k, hk⟩ := HWAY.out
        exact ⟨k, _, HO5.out, hk⟩, fun h => by cases h⟩, hE8⟩
      case round =>
        obtain ⟨more, rfl, hI, hEr⟩ := hrel
        have hErw := Ext.trans hEw hEr
        have hcr2 := Ext.keep hEr hcr
        cases more with
        | false =>
          have HP := Lib.hid (hI.out.2 rfl)
          go_wp2_with fail
          refine bodyPost_ret (v := .tuple #[.slice none 0 0, .bool false]) (by simp [results, Try.results55, go_sem]) rfl ?_
          rw [HP.out]
          exact ⟨none, 0, 0, rfl, ⟨by omega, World.ownsRow_nil _ _ _ _⟩, hErw⟩
        | true =>
          have hex : ∃ k xs, OwI wr wq.heap.size (some ⟨g5, 0, none⟩) n5 c5 xs ∧ OnWay (GoesBy ar ps set) (lowP ar ps set) (highP ar ps set) o k xs := hI.out.1 rfl
          obtain ⟨⟨xs, hX, hW⟩, _⟩ := leastOf_spec hex
          have HX := Lib.hid hX
          have HW := Lib.hid hW
          have HPJ := Lib.hid (btw_proj HSP.out hW.btw)
          obtain ⟨o', ho'⟩ : ∃ o', prjGo ar xs ps set [] = o' := ⟨_, rfl⟩
          have HO' := Lib.hid ho'
          clear hX hW ho' hex
          go_wp2_with fail
          (with_reducible refine (c_project HO'.out (RdSig.mk (RI.ext HS.out hErw)) (RE.ext HA.out hErw) (RdI.mk (RI.ext HD.out hErw)) (RdI.mk HX.out.ri) HPP.out HPJ.out HST.out).mono ?_)
          rintro e w9 ⟨A7, n7, c7, rfl, hO7, hE9⟩
          have hn7 := hO7.len
          have hE9q := Ext.trans hEr hE9
          have hE9w := Ext.trans hErw hE9
          have HX9 := Lib.hid (HX.out.ext hE9)
          have hc9 := Ext.keep hE9 hcr2
          clear hO7
          by_cases hgo : GoesBy ar ps set xs
          · have HP := Lib.hid (HW.out.yes hgo)
            obtain ⟨y, ys, hy⟩ := hgo
            rw [HO'.out] at hy
            subst hy
            simp at hn7
            have h7 : (n7 : Int) > 0 := by omega
            have h7p : 0 < n7 := by omega
            simp only [Option.isSome_some]
            go_wp2_with fail
            refine bodyPost_ret (v := .tuple #[.slice (some ⟨g5, 0, none⟩) n5 c5, .bool true]) (by simp [results, Try.results55, go_sem]) rfl ?_
            rw [HP.out]
            exact ⟨_, _, _, rfl, HX9.out.lower (by have := hEw.size; omega), hE9w⟩
          · have h0 : o' = none ∨ o' = some [] := by
              cases o' with
              | none => exact .inl rfl
              | some l => cases l with
                | nil => exact .inr rfl
                | cons y ys => exact absurd ⟨y, ys, HO'.out⟩ hgo
            rcases hup : up xs (lowP ar ps set) (highP ar ps set) with ⟨ys, bb⟩
            have HUP := Lib.hid hup
            have HNX := Lib.hid (show (bb = true → ∃ m, m < leastOf (fun k => ∃ xs, OwI wr wq.heap.size (some ⟨g5, 0, none⟩) n5 c5 xs ∧ OnWay (GoesBy ar ps set) (lowP ar ps set) (highP ar ps set) o k xs) ∧ OnWay (GoesBy ar ps set) (lowP ar ps set) (highP ar ps set) o m ys) ∧ (bb = false → o = none) from ⟨fun e => by subst e; exact HW.out.next hgo hup, fun e => by subst e; exact HW.out.stop hgo hup⟩)
            clear hup
            rcases h0 with rfl | rfl
            · simp only [Option.isSome_none]
              go_wp2_with fail
              (with_reducible refine (c_countUp HUP.out HX9.out (RI.ext HL8.out hE9q) (RI.ext HH8.out hE9q) HW.out.btw (fun g o s g' o' s' e e' => by cases e; cases e'; omega) (fun g o s g' o' s' e e' => by cases e; cases e'; omega) HBIG.out).mono ?_)
              rintro e w10 ⟨rfl, hO10, hA10⟩
              have hE10 : Ext wq w10 := OnlyA.ext hA10 hE9q (fun g o s e => by cases e; exact hg5)
              have HO10 := Lib.hid hO10
              clear hO10 hA10
              go_wp2_with fail
              go_roundw
              case rel => exact ⟨bb, rfl, Lib.hid ⟨fun e => by
                obtain ⟨m, _, hm⟩ := HNX.out.1 e
                exact ⟨m, ys, HO10.out, hm⟩, HNX.out.2⟩, hE10⟩
              case measure =>
                rw [fpMeas_t]
                cases bb with
                | false => rw [fpMeas_f]; omega
                | true =>
                  rw [fpMeas_t]
                  obtain ⟨m, hm1', hm2⟩ := HNX.out.1 rfl
                  have := leastOf_le (R := fun k => ∃ xs, OwI w10 wq.heap.size (some ⟨g5, 0, none⟩) n5 c5 xs ∧ OnWay (GoesBy ar ps set) (lowP ar ps set) (highP ar ps set) o k xs) ⟨ys, HO10.out, hm2⟩
                  omega
            · obtain rfl : n7 = 0 := by simpa using hn7.symm
              simp only [Option.isSome_some]
              go_wp2_with fail
              (with_reducible refine (c_countUp HUP.out HX9.out (RI.ext HL8.out hE9q) (RI.ext HH8.out hE9q) HW.out.btw (fun g o s g' o' s' e e' => by cases e; cases e'; omega) (fun g o s g' o' s' e e' => by cases e; cases e'; omega) HBIG.out).mono ?_)
              rintro e w10 ⟨rfl, hO10, hA10⟩
              have hE10 : Ext wq w10 := OnlyA.ext hA10 hE9q (fun g o s e => by cases e; exact hg5)
              have HO10 := Lib.hid hO10
              clear hO10 hA10
              go_wp2_with fail
              go_roundw
              case rel => exact ⟨bb, rfl, Lib.hid ⟨fun e => by
                obtain ⟨m, _, hm⟩ := HNX.out.1 e
                exact ⟨m, ys, HO10.out, hm⟩, HNX.out.2⟩, hE10⟩
              case measure =>
                rw [fpMeas_t]
                cases bb with
                | false => rw [fpMeas_f]; omega
                | true =>
                  rw [fpMeas_t]
                  obtain ⟨m, hm1', hm2⟩ := HNX.out.1 rfl
                  have := leastOf_le (R := fun k => ∃ xs, OwI w10 wq.heap.size (some ⟨g5, 0, none⟩) n5 c5 xs ∧ OnWay (GoesBy ar ps set) (lowP ar ps set) (highP ar ps set) o k xs) ⟨ys, HO10.out, hm2⟩
                  omega
theorem sysP_sig {s : Sy} (h : SysP s) : SigP s.ar := by unfold SysP at h; exact h.1
set_option maxRecDepth 100000 in
set_option maxHeartbeats 4000000 in
theorem c_iFirstProj {v0 v1 : Value} {s : Sy} {set : List Int} {o : Option (List Int)} {w : World} (ho : fpV s set = o) (h0 : RdSyC w v0 s) (h1 : RdI w v1 set) :
    Calls Try.prog 13 #[v0, v1] w (NewOb w o) := by
  obtain ⟨A0, n0, c0, B0, m0, d0, rfl, ha, hb⟩ := h0
  obtain ⟨D, m, d, rfl, hd⟩ := h1
  have HA := Lib.hid ha
  have HB := Lib.hid hb
  have HD := Lib.hid hd
  clear ha hb hd
  cases hpb : prB s with
  | false =>
    have HO := Lib.hid (show o = none by rw [← ho]; exact fpV_no1 hpb)
    clear ho
    go_enter Try.func13, Try.ntmps13
    go_wp2_with fail
    (with_reducible refine (c_iPairsOf rfl hpb (RdSyK.mk (RI.ext HA.out (by (repeat' (first | (with_reducible exact Ext.refl _) | (with_reducible assumption) | (with_reducible refine Ext.alloc ?_ _) | (with_reducible refine Ext.set ?_ ?_ _) | (with_reducible refine Ext.drewN ?_ _) | (with_reducible refine Ext.drew ?_) | (with_reducible refine Ext.trans ?_ (by with_reducible assumption)) | go_size)))) (RR.ext HB.out (by (repeat' (first | (with_reducible exact Ext.refl _) | (with_reducible assumption) | (with_reducible refine Ext.alloc ?_ _) | (with_reducible refine Ext.set ?_ ?_ _) | (with_reducible refine Ext.drewN ?_ _) | (with_reducible refine Ext.drew ?_) | (with_reducible refine Ext.trans ?_ (by with_reducible assumption)) | go_size)))))).mono ?_)
    rintro e w2 ⟨A2, n2, c2, rfl, hO2, hE2⟩
    clear hO2
    go_wp2_with fail
    refine bodyPost_ret (v := .tuple #[.slice none 0 0, .bool false]) (by simp [results, Try.results13, go_sem]) rfl ?_
    rw [HO.out]
    exact ⟨none, 0, 0, rfl, ⟨by omega, World.ownsRow_nil _ _ _ _⟩, by (repeat' (first | (with_reducible exact Ext.refl _) | (with_reducible assumption) | (with_reducible refine Ext.alloc ?_ _) | (with_reducible refine Ext.set ?_ ?_ _) | (with_reducible refine Ext.drewN ?_ _) | (with_reducible refine Ext.drew ?_) | (with_reducible refine Ext.trans ?_ (by with_reducible assumption)) | go_size))⟩
  | true =>
    have HPB := Lib.hid hpb
    go_enter Try.func13, Try.ntmps13
    go_wp2_with fail
    (with_reducible refine (c_iPairsOf rfl hpb (RdSyK.mk (RI.ext HA.out (by (repeat' (first | (with_reducible exact Ext.refl _) | (with_reducible assumption) | (with_reducible refine Ext.alloc ?_ _) | (with_reducible refine Ext.set ?_ ?_ _) | (with_reducible refine Ext.drewN ?_ _) | (with_reducible refine Ext.drew ?_) | (with_reducible refine Ext.trans ?_ (by with_reducible assumption)) | go_size)))) (RR.ext HB.out (by (repeat' (first | (with_reducible exact Ext.refl _) | (with_reducible assumption) | (with_reducible refine Ext.alloc ?_ _) | (with_reducible refine Ext.set ?_ ?_ _) | (with_reducible refine Ext.drewN ?_ _) | (with_reducible refine Ext.drew ?_) | (with_reducible refine Ext.trans ?_ (by with_reducible assumption)) | go_size)))))).mono ?_)
    rintro e w2 ⟨A2, n2, c2, rfl, hO2, hE2⟩
    have hlen := hO2.1.2.1
    have h64 := prV_le hpb
    rw [hlen] at h64
    have HR2 := Lib.hid hO2.re
    have hEw2 : Ext w w2 := by (repeat' (first | (with_reducible exact Ext.refl _) | (with_reducible assumption) | (with_reducible refine Ext.alloc ?_ _) | (with_reducible refine Ext.set ?_ ?_ _) | (with_reducible refine Ext.drewN ?_ _) | (with_reducible refine Ext.drew ?_) | (with_reducible refine Ext.trans ?_ (by with_reducible assumption)) | go_size))
    have hb0 : w2.cell? ⟨w.heap.size, 0, none⟩ = some (.slice A0 n0 c0) := Ext.keep hE2 (by simp [go_sem])
    clear hO2
    cases hst : setB (prV s).length set with
    | false =>
      have HO := Lib.hid (show o = none by rw [← ho]; exact fpV_no2 hst)
      rw [hlen] at hst
      clear ho
      go_wp2_with fail
      (with_reducible refine (c_setOk hst (RdI.mk (RI.ext HD.out hEw2)) (by omega)).mono ?_)
      rintro e w3 ⟨rfl, hE3⟩
      go_wp2_with fail
      refine bodyPost_ret (v := .tuple #[.slice none 0 0, .bool false]) (by simp [results, Try.results13, go_sem]) rfl ?_
      rw [HO.out]
      exact ⟨none, 0, 0, rfl, ⟨by omega, World.ownsRow_nil _ _ _ _⟩, by (repeat' (first | (with_reducible exact Ext.refl _) | (with_reducible assumption) | (with_reducible refine Ext.alloc ?_ _) | (with_reducible refine Ext.set ?_ ?_ _) | (with_reducible refine Ext.drewN ?_ _) | (with_reducible refine Ext.drew ?_) | (with_reducible refine Ext.trans ?_ (by with_reducible assumption)) | go_size))⟩
    | true =>
      have HST := Lib.hid (setB_iff.1 hst)
      have hst' := hst
      rw [hlen] at hst'
      have HO := Lib.hid (show fpGo s.ar (prV s) set = o by rw [← ho]; exact (fpV_yes hpb hst).symm)
      rw [hlen] at HST
      clear ho
      go_wp2_with fail
      (with_reducible refine (c_setOk hst' (RdI.mk (RI.ext HD.out hEw2)) (by omega)).mono ?_)
      rintro e w3 ⟨rfl, hE3⟩
      have hEw3 := Ext.trans hEw2 hE3
      have hb3 := Ext.keep hE3 hb0
      go_wp2_with fail
      (with_reducible refine (c_firstProj HO.out rfl (sysP_sig (prB_sys HPB.out)) (RdSig.mk (RI.ext HA.out hEw3)) (RE.ext HR2.out hE3) (RdI.mk (RI.ext HD.out hEw3)) (prV_ok HPB.out) HST.out).mono ?_)
      rintro e w5 ⟨A5, n5, c5, rfl, hO5, hE5⟩
      have HO5 := Lib.hid hO5
      clear hO5
      go_wp2_with fail
      refine bodyPost_ret (v := .tuple #[.slice A5 n5 c5, .bool o.isSome]) (by simp [results, Try.results13, go_sem]) rfl ?_
      exact ⟨A5, n5, c5, rfl, HO5.out.lower (sz_of hEw3), Ext.trans hEw3 hE5⟩

/-! The first projection: the reference's. -/
theorem HdIn.none_ (ps : List DepP) (set : List Int) : ∀ f, f ∈ ([] : List Int) ↔ HdIn ps (set.take 0) f := fun f => ⟨fun h => absurd h (by simp), fun h => absurd h (by rw [List.take_zero]; exact HdIn.nil)⟩
set_option maxRecDepth 100000 in
set_option maxHeartbeats 8000000 in
theorem c_l18Heads {v1 : Value} {A : Option Addr} {n c : Nat} {ar set : List Int} {ps : List DepP} {w : World} (h1 : RE w A n ps) (h2 : RdI w v1 set) (hpp : ∀ q ∈ ps, PairP ar q) (hset : SetP n set) (hl : set.length ≤ 64) :
    Calls Try.prog 50 #[.slice A n c, v1] w fun e w' => ∃ B m d ys, e = .returned (.slice B m d) ∧ RI w' B m ys ∧ (∀ f, f ∈ ys ↔ HdIn ps set f) ∧ Ext w w' := by
  obtain ⟨D, d, dc, rfl, hd⟩ := h2
  have HA := Lib.hid h1
  have HD := Lib.hid hd
  have HPP := Lib.hid hpp
  have HST := Lib.hid hset
  have hdl := hd.len
  have hd64 : d ≤ 64 := by omega
  clear h1 hd hpp hset
  go_enter Try.func50, Try.ntmps50
  go_wp2_with fail
  go_loopw [5, 6] (fun ov kv wr => ∃ k : Nat, kv = .int .i64 k ∧ k ≤ d ∧ (∃ B m dd, ov = .slice B m dd ∧ m ≤ 2 * k ∧ (m ≤ dd ∧ dd ≤ 9223372036854775807) ∧ Hid (∃ ys, RI wr B m ys ∧ ∀ f, f ∈ ys ↔ HdIn ps (set.take k) f)) ∧ Ext w wr) (fun _ kv _ => d - (intOf kv).toNat)
  case atStart => exact ⟨0, rfl, Nat.zero_le _, ⟨_, _, _, rfl, Nat.le_refl _, by omega, Lib.hid ⟨[], RI.nil _ _, HdIn.none_ ps set⟩⟩, by (repeat' (first | (with_reducible exact Ext.refl _) | (with_reducible assumption) | (with_reducible refine Ext.alloc ?_ _) | (with_reducible refine Ext.set ?_ ?_ _) | (with_reducible refine Ext.drewN ?_ _) | (with_reducible refine Ext.drew ?_) | (with_reducible refine Ext.trans ?_ (by with_reducible assumption)) | go_size))⟩
  case round =>
    obtain ⟨k, rfl, hk, ⟨B, m, dd, rfl, hm, hcap, hY⟩, hE⟩ := hrel
    by_cases hlt : k < d
    · obtain ⟨ys, hY1, hY2⟩ := hY.out
      obtain ⟨b', o', x, rfl, hx, hcx⟩ := RI.at_ HD.out hlt
      have hxs := (HST.out k x hx).1
      obtain ⟨z, rfl⟩ := Int.eq_ofNat_of_zero_le hxs.1
      have hzn : z < n := by have := HA.out.1.1; omega
      obtain ⟨q, b, o2, A1, n1, c1, A2, n2, c2, hq, rfl, hc0, hc1, _, _, hcap1, hcap2, hr1, hr2⟩ := RE.at_ HA.out hzn
      obtain ⟨⟨hq1, hq2⟩, hq3, hq4⟩ := HPP.out q (List.mem_of_getElem? hq)
      obtain ⟨f1, hf1, hf1m⟩ := head_at hq1 hq2
      obtain ⟨f2, hf2, hf2m⟩ := head_at hq3 hq4
      have hn1 : 0 < n1 := by rw [← hr1.len]; exact hq1.2.1.1
      have hn2 : 0 < n2 := by rw [← hr2.len]; exact hq3.2.1.1
      obtain ⟨b1, o1, y1, rfl, hy1, hd1⟩ := RI.at_ hr1 hn1
      rw [hf1] at hy1; cases hy1
      obtain ⟨b2, o3, y2, rfl, hy2, hd2⟩ := RI.at_ hr2 hn2
      rw [hf2] at hy2; cases hy2
      have hcx' := Ext.keep hE hcx
      have hc0' := Ext.keep hE hc0
      have hc1' := Ext.keep hE hc1
      have hd1' : wr.cell? ⟨b1, o1, none⟩ = some (.int .i64 (f1 : Int)) := by have := Ext.keep hE hd1; simpa using this
      have hd2' : wr.cell? ⟨b2, o3, none⟩ = some (.int .i64 (f2 : Int)) := by have := Ext.keep hE hd2; simpa using this
      have HSU := Lib.hid (fun f => HdIn.succ (f := f) hx hq hf1 hf2)
      have HY1 := Lib.hid hY1
      have HY2 := Lib.hid hY2
      have hki : (k : Int) < (d : Int) := by omega
      have hk0 : (0 : Int) ≤ (k : Int) := by omega
      have hzi : (z : Int) < (n : Int) := by omega
      have hz0 : (0 : Int) ≤ (z : Int) := by omega
      have hn1i : (0 : Int) < (n1 : Int) := by omega
      have hn2i : (0 : Int) < (n2 : Int) := by omega
      clear hx hxs hq hq1 hq2 hq3 hq4 hf1 hf2 hc0 hc1 hcx hd1 hd2 hcap1 hcap2 hr1 hr2 hY1 hY2 hY
      go_wp2_with fail
      refine wp_region_held_drew (S := (fun w' => w'.cell? ⟨b', o' + k, none⟩ = some (.int .i64 (z : Int)) ∧ w'.cell? ⟨b, o2 + z * 4, none⟩ = some (.slice (some ⟨b1, o1, none⟩) n1 c1) ∧ w'.cell? ⟨b, o2 + z * 4 + 1, none⟩ = some (.slice (some ⟨b2, o3, none⟩) n2 c2) ∧ w'.cell? ⟨b1, o1, none⟩ = some (.int .i64 (f1 : Int)) ∧ w'.cell? ⟨b2, o3, none⟩ = some (.int .i64 (f2 : Int)) ∧ Ext wr w')) (by kernel_rfl) ?_ (fun hH => ?_)
      · exact ⟨hcx', hc0', hc1', hd1', hd2', (Ext.refl wr).drew⟩
      refine wpAnyH_take_dst (i := 0) (v := .slice B m dd) (d := some 14) rfl rfl (by kernel_rfl) (by kernel_rfl) (by kernel_rfl) (fun _ _ _ h => h) (Or.inl ⟨by rfl, ?_⟩) hH ?_
      · (intro w hSw; (try dsimp only at hSw); go_split_ands; go_simp; try with_reducible rfl)
      try simp only [Act.put, List.setIfInBounds_toArray, List.set_cons_zero, List.set_cons_succ]
      refine wpAnyH_take_dst (i := 1) (v := .slice (some ⟨b, o2, none⟩) n c) (d := some 15) rfl rfl (by kernel_rfl) (by kernel_rfl) (by kernel_rfl) (fun _ _ _ h => h) (Or.inl ⟨by rfl, ?_⟩) hH ?_
      · (intro w hSw; (try dsimp only at hSw); go_split_ands; go_simp; try with_reducible rfl)
      try simp only [Act.put, List.setIfInBounds_toArray, List.set_cons_zero, List.set_cons_succ]
      refine wpAnyH_take_dst (i := 2) (v := .slice (some ⟨b', o', none⟩) d dc) (d := some 16) rfl rfl (by kernel_rfl) (by kernel_rfl) (by kernel_rfl) (fun _ _ _ h => h) (Or.inl ⟨by rfl, ?_⟩) hH ?_
      · (intro w hSw; (try dsimp only at hSw); go_split_ands; go_simp; try with_reducible rfl)
      try simp only [Act.put, List.setIfInBounds_toArray, List.set_cons_zero, List.set_cons_succ]
      refine wpAnyH_take_dst (i := 3) (v := .int .i64 (k : Int)) (d := some 17) rfl rfl (by kernel_rfl) (by kernel_rfl) (by kernel_rfl) (fun _ _ _ h => h) (Or.inl ⟨by rfl, ?_⟩) hH ?_
      · (intro w hSw; (try dsimp only at hSw); go_split_ands; go_simp; try with_reducible rfl)
      try simp only [Act.put, List.setIfInBounds_toArray, List.set_cons_zero, List.set_cons_succ]
      refine wpAnyH_take_dst (i := 4) (v := .pointer (some ⟨b', o' + k, none⟩)) (d := some 18) rfl rfl (by kernel_rfl) (by kernel_rfl) (by kernel_rfl) (fun _ _ _ h => h) (Or.inl ⟨by rfl, ?_⟩) hH ?_
      · (intro w hSw; (try dsimp only at hSw); go_split_ands; go_simp; try with_reducible rfl)
      try simp only [Act.put, List.setIfInBounds_toArray, List.set_cons_zero, List.set_cons_succ]
      refine wpAnyH_take_dst (i := 5) (v := .int .i64 (z : Int)) (d := some 19) rfl rfl (by kernel_rfl) (by kernel_rfl) (by kernel_rfl) (fun _ _ _ h => h) (Or.inl ⟨by rfl, ?_⟩) hH ?_
      · (intro w hSw; (try dsimp only at hSw); go_split_ands; go_simp; try with_reducible rfl)
      try simp only [Act.put, List.setIfInBounds_toArray, List.set_cons_zero, List.set_cons_succ]
      refine wpAnyH_take_dst (i := 6) (v := .pointer (some ⟨b, o2 + z * 4, none⟩)) (d := some 20) rfl rfl (by kernel_rfl) (by kernel_rfl) (by kernel_rfl) (fun _ _ _ h => h) (Or.inl ⟨by rfl, ?_⟩) hH ?_
      · (intro w hSw; (try dsimp only at hSw); go_split_ands; go_simp; try with_reducible rfl)
      try simp only [Act.put, List.setIfInBounds_toArray, List.set_cons_zero, List.set_cons_succ]
      refine wpAnyH_take_dst (i := 7) (v := .pointer (some ⟨b, o2 + z * 4, none⟩)) (d := some 21) rfl rfl (by kernel_rfl) (by kernel_rfl) (by kernel_rfl) (fun _ _ _ h => h) (Or.inl ⟨by rfl, ?_⟩) hH ?_
      · (intro w hSw; (try dsimp only at hSw); go_split_ands; go_simp; try with_reducible rfl)
      try simp only [Act.put, List.setIfInBounds_toArray, List.set_cons_zero, List.set_cons_succ]
      refine wpAnyH_take_dst (i := 8) (v := .slice (some ⟨b1, o1, none⟩) n1 c1) (d := some 22) rfl rfl (by kernel_rfl) (by kernel_rfl) (by kernel_rfl) (fun _ _ _ h => h) (Or.inl ⟨by rfl, ?_⟩) hH ?_
      · (intro w hSw; (try dsimp only at hSw); go_split_ands; go_simp; try with_reducible rfl)
      try simp only [Act.put, List.setIfInBounds_toArray, List.set_cons_zero, List.set_cons_succ]
      refine wpAnyH_take_dst (i := 9) (v := .pointer (some ⟨b1, o1, none⟩)) (d := some 23) rfl rfl (by kernel_rfl) (by kernel_rfl) (by kernel_rfl) (fun _ _ _ h => h) (Or.inl ⟨by rfl, ?_⟩) hH ?_
      · (intro w hSw; (try dsimp only at hSw); go_split_ands; go_simp; try with_reducible rfl)
      try simp only [Act.put, List.setIfInBounds_toArray, List.set_cons_zero, List.set_cons_succ]
      refine wpAnyH_take_dst (i := 10) (v := .int .i64 (f1 : Int)) (d := some 24) rfl rfl (by kernel_rfl) (by kernel_rfl) (by kernel_rfl) (fun _ _ _ h => h) (Or.inl ⟨by rfl, ?_⟩) hH ?_
      · (intro w hSw; (try dsimp only at hSw); go_split_ands; go_simp; try with_reducible rfl)
      try simp only [Act.put, List.setIfInBounds_toArray, List.set_cons_zero, List.set_cons_succ]
      refine wpAnyH_take_dst (i := 12) (v := .slice (some ⟨b, o2, none⟩) n c) (d := some 26) rfl rfl (by kernel_rfl) (by kernel_rfl) (by kernel_rfl) (fun _ _ _ h => h) (Or.inl ⟨by rfl, ?_⟩) hH ?_
      · (intro w hSw; (try dsimp only at hSw); go_split_ands; go_simp; try with_reducible rfl)
      try simp only [Act.put, List.setIfInBounds_toArray, List.set_cons_zero, List.set_cons_succ]
      refine wpAnyH_take_dst (i := 13) (v := .slice (some ⟨b', o', none⟩) d dc) (d := some 27) rfl rfl (by kernel_rfl) (by kernel_rfl) (by kernel_rfl) (fun _ _ _ h => h) (Or.inl ⟨by rfl, ?_⟩) hH ?_
      · (intro w hSw; (try dsimp only at hSw); go_split_ands; go_simp; try with_reducible rfl)
      try simp only [Act.put, List.setIfInBounds_toArray, List.set_cons_zero, List.set_cons_succ]
      refine wpAnyH_take_dst (i := 14) (v := .int .i64 (k : Int)) (d := some 28) rfl rfl (by kernel_rfl) (by kernel_rfl) (by kernel_rfl) (fun _ _ _ h => h) (Or.inl ⟨by rfl, ?_⟩) hH ?_
      · (intro w hSw; (try dsimp only at hSw); go_split_ands; go_simp; try with_reducible rfl)
      try simp only [Act.put, List.setIfInBounds_toArray, List.set_cons_zero, List.set_cons_succ]
      refine wpAnyH_take_dst (i := 15) (v := .pointer (some ⟨b', o' + k, none⟩)) (d := some 29) rfl rfl (by kernel_rfl) (by kernel_rfl) (by kernel_rfl) (fun _ _ _ h => h) (Or.inl ⟨by rfl, ?_⟩) hH ?_
      · (intro w hSw; (try dsimp only at hSw); go_split_ands; go_simp; try with_reducible rfl)
      try simp only [Act.put, List.setIfInBounds_toArray, List.set_cons_zero, List.set_cons_succ]
      refine wpAnyH_take_dst (i := 16) (v := .int .i64 (z : Int)) (d := some 30) rfl rfl (by kernel_rfl) (by kernel_rfl) (by kernel_rfl) (fun _ _ _ h => h) (Or.inl ⟨by rfl, ?_⟩) hH ?_
      · (intro w hSw; (try dsimp only at hSw); go_split_ands; go_simp; try with_reducible rfl)
      try simp only [Act.put, List.setIfInBounds_toArray, List.set_cons_zero, List.set_cons_succ]
      refine wpAnyH_take_dst (i := 17) (v := .pointer (some ⟨b, o2 + z * 4, none⟩)) (d := some 31) rfl rfl (by kernel_rfl) (by kernel_rfl) (by kernel_rfl) (fun _ _ _ h => h) (Or.inl ⟨by rfl, ?_⟩) hH ?_
      · (intro w hSw; (try dsimp only at hSw); go_split_ands; go_simp; try with_reducible rfl)
      try simp only [Act.put, List.setIfInBounds_toArray, List.set_cons_zero, List.set_cons_succ]
      refine wpAnyH_take_dst (i := 18) (v := .pointer (some ⟨b, o2 + z * 4 + 1, none⟩)) (d := some 32) rfl rfl (by kernel_rfl) (by kernel_rfl) (by kernel_rfl) (fun _ _ _ h => h) (Or.inl ⟨by rfl, ?_⟩) hH ?_
      · (intro w hSw; (try dsimp only at hSw); go_split_ands; go_simp; try with_reducible rfl)
      try simp only [Act.put, List.setIfInBounds_toArray, List.set_cons_zero, List.set_cons_succ]
      refine wpAnyH_take_dst (i := 19) (v := .slice (some ⟨b2, o3, none⟩) n2 c2) (d := some 33) rfl rfl (by kernel_rfl) (by kernel_rfl) (by kernel_rfl) (fun _ _ _ h => h) (Or.inl ⟨by rfl, ?_⟩) hH ?_
      · (intro w hSw; (try dsimp only at hSw); go_split_ands; go_simp; try with_reducible rfl)
      try simp only [Act.put, List.setIfInBounds_toArray, List.set_cons_zero, List.set_cons_succ]
      refine wpAnyH_take_dst (i := 20) (v := .pointer (some ⟨b2, o3, none⟩)) (d := some 34) rfl rfl (by kernel_rfl) (by kernel_rfl) (by kernel_rfl) (fun _ _ _ h => h) (Or.inl ⟨by rfl, ?_⟩) hH ?_
      · (intro w hSw; (try dsimp only at hSw); go_split_ands; go_simp; try with_reducible rfl)
      try simp only [Act.put, List.setIfInBounds_toArray, List.set_cons_zero, List.set_cons_succ]
      refine wpAnyH_take_dst (i := 21) (v := .int .i64 (f2 : Int)) (d := some 35) rfl rfl (by kernel_rfl) (by kernel_rfl) (by kernel_rfl) (fun _ _ _ h => h) (Or.inl ⟨by rfl, ?_⟩) hH ?_
      · (intro w hSw; (try dsimp only at hSw); go_split_ands; go_simp; try with_reducible rfl)
      try simp only [Act.put, List.setIfInBounds_toArray, List.set_cons_zero, List.set_cons_succ]
      refine wpAnyH_ready (rs := [11]) (by kernel_rfl) (by simp) ?_
      refine AllReadyH.cons rfl (fun K hK => ?_) AllReadyH.nil
      rw [if_pos (by rfl)]
      go_wp2_with (go_at_call 94; (with_reducible refine ((c_l1Into (RI.ext HY1.out hH.2.2.2.2.2) hcap (by omega))).mono ?_); rintro e w5 ⟨A5, n5, c5, ys5, rfl, hn5, hcap5, hr5, hi5, hE9⟩)
      refine hK.out _ _ ⟨Ext.keep hE9 hH.1, Ext.keep hE9 hH.2.1, Ext.keep hE9 hH.2.2.1, Ext.keep hE9 hH.2.2.2.1, Ext.keep hE9 hH.2.2.2.2.1, Ext.trans hH.2.2.2.2.2 hE9⟩ (fun hH9 => ?_)
      clear hK hH; have hH := hH9; clear hH9
      try simp only [Act.put, List.setIfInBounds_toArray, List.set_cons_zero, List.set_cons_succ]
      refine wpAnyH_ready (rs := [22]) (by kernel_rfl) (by simp) ?_
      refine AllReadyH.cons rfl (fun K hK => ?_) AllReadyH.nil
      rw [if_pos (by rfl)]
      go_wp2_with (go_at_call 94; (with_reducible refine ((c_l1Into hr5 hcap5 (by have := HY1.out.len; omega))).mono ?_); rintro e w6 ⟨A6, n6, c6, ys6, rfl, hn6, hcap6, hr6, hi6, hE9⟩)
      refine hK.out _ _ ⟨Ext.keep hE9 hH.1, Ext.keep hE9 hH.2.1, Ext.keep hE9 hH.2.2.1, Ext.keep hE9 hH.2.2.2.1, Ext.keep hE9 hH.2.2.2.2.1, Ext.trans hH.2.2.2.2.2 hE9⟩ (fun hH9 => ?_)
      clear hK hH; have hH := hH9; clear hH9
      try simp only [Act.put, List.setIfInBounds_toArray, List.set_cons_zero, List.set_cons_succ]
      refine wpAnyH_take_dst (i := 23) (v := .slice A6 n6 c6) (d := some 5) rfl rfl (by kernel_rfl) (by kernel_rfl) (by kernel_rfl) (fun _ _ _ h => h) (Or.inl ⟨by rfl, ?_⟩) hH ?_
      · (intro w hSw; (try dsimp only at hSw); go_split_ands; go_simp; try with_reducible rfl)
      try simp only [Act.put, List.setIfInBounds_toArray, List.set_cons_zero, List.set_cons_succ]
      refine wpAnyH_done (by kernel_rfl) ?_ _
      have hl := HY1.out.len
      have hl5 := hr5.len
      have hE6 := Ext.trans hE hH.2.2.2.2.2
      have HN := Lib.hid (show ∀ f, f ∈ ys6 ↔ HdIn ps (set.take (k + 1)) f from fun f => by
        rw [hi6 f, hi5 f, HY2.out f, HSU.out f, or_assoc])
      have HR6 := Lib.hid hr6
      clear hr5 hr6 hH
      go_wp2
      go_roundw
      case rel => exact ⟨k + 1, by go_num, by omega, ⟨_, _, _, rfl, by omega, hcap6, Lib.hid ⟨ys6, HR6.out, HN.out⟩⟩, hE6⟩
      case measure => simp only [intOf]; omega
    · obtain rfl : k = d := by omega
      obtain ⟨ys, hY1, hY2⟩ := hY.out
      have HT := Lib.hid (show set.take k = set from List.take_of_length_le (by omega))
      have HY1 := Lib.hid hY1
      have HY2 := Lib.hid hY2
      clear hY1 hY2 hY
      go_wp2_with fail
      go_ret
      exact ⟨B, m, dd, ys, rfl, HY1.out, by rw [← HT.out]; exact HY2.out, hE⟩
/-- A set of few numbers is short. -/
theorem set_low {n : Nat} {xs : List Int} (h : SetP n xs) : ∀ (i : Nat) (x : Int), xs[i]? = some x → (i : Int) ≤ x
  | 0, x, hx => (h 0 x hx).1.1
  | i + 1, x, hx => by
    have hi : i < xs.length := by have := (List.getElem?_eq_some_iff.1 hx).1; omega
    have h1 := set_low h i xs[i] (List.getElem?_eq_getElem hi)
    have h2 := (h (i + 1) x hx).2 xs[i] (by omega) (by rw [Nat.add_sub_cancel]; exact List.getElem?_eq_getElem hi)
    omega
theorem set_le {n : Nat} {xs : List Int} (h : SetP n xs) (hn : n ≤ 64) : xs.length ≤ 64 := by
  rcases Nat.eq_zero_or_pos xs.length with h0 | h0
  · omega
  · have hi : xs.length - 1 < xs.length := by omega
    have hx := List.getElem?_eq_getElem hi
    have h1 := set_low h _ _ hx
    have h2 := (h _ _ hx).1.2
    omega
/-- What the choices at a place are. -/
theorem choice {ar xs : List Int} {ps : List DepP} {set : List Int} {j : Nat} {x a : Int} (hs : SigP ar) (hb : Btw xs (lowP ar ps set) (highP ar ps set)) (hx : xs[j]? = some x) (ha : ar[j]? = some a) :
    ∃ l h, (lowP ar ps set)[j]? = some l ∧ (highP ar ps set)[j]? = some h ∧ l ≤ x ∧ x ≤ h ∧ ((l = 0 ∧ h = a - 1) ∨ (l = -1 ∧ h = -1)) := by
  obtain ⟨l, h, h1, h2, h3, h4⟩ := hb.at_ hx
  refine ⟨l, h, h1, h2, h3, h4, ?_⟩
  have hj : j < ar.length := (List.getElem?_eq_some_iff.1 ha).1
  rw [lowP, lowK_at hj] at h1
  rw [highP, highK_at hj, List.getD_eq_getElem?_getD, ha] at h2
  by_cases h5 : j < ar.length ∧ hdB ps set (j : Int) = true
  · rw [if_pos h5] at h1 h2
    simp at h1 h2; omega
  · rw [if_neg h5] at h1 h2
    simp at h1 h2; omega
theorem low_snoc {ar : List Int} {ps : List DepP} {set : List Int} {k : Nat} (hk : k < ar.length) : (lowP ar ps set).take (k + 1) = (lowP ar ps set).take k ++ [if hdB ps set (k : Int) = true then 0 else -1] := by
  have h : (lowP ar ps set)[k]? = some (if hdB ps set (k : Int) = true then 0 else -1) := by rw [lowP, lowK_at hk]; simp [hk]
  rw [List.take_add_one, h]; rfl
theorem projOk_iff {ar pr : List Int} : projOk ar pr = true ↔ ProjP ar pr := by simp only [projOk, decide_eq_true_eq]
theorem up_keep {xs ls : List Int} {j : Nat} {l : Int} (h1 : xs[j]? = some l) (h2 : ls[j]? = some l) : xs.take (j + 1) ++ ls.drop (j + 1) = xs.take j ++ ls.drop j := by
  obtain ⟨a, b⟩ := List.getElem?_eq_some_iff.1 h2
  rw [List.take_add_one, h1, List.append_assoc, List.drop_eq_getElem_cons a, b]; rfl
theorem c_l1HasJ {v : Value} {t : List Int} {x : Int} {w : World} {b : Bool} (hb : (x ∈ t) ↔ b = true) (h0 : RdI w v t) : Calls Try.prog 51 #[v, .int .i64 x] w fun e w' => e = .returned (.bool b) ∧ Ext w w' :=
  c_l1Has' (by by_cases h : x ∈ t <;> simp [h] <;> (first | exact hb.1 h | (cases b with | false => rfl | true => exact absurd (hb.2 rfl) h))) h0
set_option maxRecDepth 100000 in
set_option maxHeartbeats 8000000 in
theorem c_sFirstProj {v0 v1 : Value} {s : Sy} {set : List Int} {o : Option (List Int)} {w : World} (ho : fpV s set = o) (h0 : RdSyC w v0 s) (h1 : RdI w v1 set) :
    Calls Try.prog 10 #[v0, v1] w (NewOr w o) := by
  obtain ⟨A0, n0, c0, B0, m0, d0, rfl, ha, hb⟩ := h0
  obtain ⟨D, m, d, rfl, hd⟩ := h1
  have HA := Lib.hid ha
  have HB := Lib.hid hb
  have HD := Lib.hid hd
  have hdle := hd.len
  have hn0 := ha.len
  clear ha hb hd
  obtain ⟨i0, hii, hiz, his, hib⟩ := info_parts int64_info
  cases hpb : prB s with
  | false =>
    have HO := Lib.hid (show o = none by rw [← ho]; exact fpV_no1 hpb)
    clear ho
    go_enter Try.func10, Try.ntmps10
    go_wp2_with fail
    (with_reducible refine (c_sPairsOf rfl hpb (RdSyK.mk (RI.ext HA.out (by (repeat' (first | (with_reducible exact Ext.refl _) | (with_reducible assumption) | (with_reducible refine Ext.alloc ?_ _) | (with_reducible refine Ext.set ?_ ?_ _) | (with_reducible refine Ext.drewN ?_ _) | (with_reducible refine Ext.drew ?_) | (with_reducible refine Ext.trans ?_ (by with_reducible assumption)) | go_size)))) (RR.ext HB.out (by (repeat' (first | (with_reducible exact Ext.refl _) | (with_reducible assumption) | (with_reducible refine Ext.alloc ?_ _) | (with_reducible refine Ext.set ?_ ?_ _) | (with_reducible refine Ext.drewN ?_ _) | (with_reducible refine Ext.drew ?_) | (with_reducible refine Ext.trans ?_ (by with_reducible assumption)) | go_size)))))).mono ?_)
    rintro e w2 ⟨A2, n2, c2, rfl, hO2, hE2⟩
    clear hO2
    go_wp2_with fail
    refine bodyPost_ret (v := .tuple #[.slice (some ⟨w2.heap.size, 0, none⟩) 0 0, .bool false]) (by simp [results, Try.results10, go_sem]) rfl ?_
    rw [HO.out]
    exact ⟨_, 0, 0, rfl, RI.nil _ _, by (repeat' (first | (with_reducible exact Ext.refl _) | (with_reducible assumption) | (with_reducible refine Ext.alloc ?_ _) | (with_reducible refine Ext.set ?_ ?_ _) | (with_reducible refine Ext.drewN ?_ _) | (with_reducible refine Ext.drew ?_) | (with_reducible refine Ext.trans ?_ (by with_reducible assumption)) | go_size))⟩
  | true =>
    have HPB := Lib.hid hpb
    go_enter Try.func10, Try.ntmps10
    go_wp2_with fail
    (with_reducible refine (c_sPairsOf rfl hpb (RdSyK.mk (RI.ext HA.out (by (repeat' (first | (with_reducible exact Ext.refl _) | (with_reducible assumption) | (with_reducible refine Ext.alloc ?_ _) | (with_reducible refine Ext.set ?_ ?_ _) | (with_reducible refine Ext.drewN ?_ _) | (with_reducible refine Ext.drew ?_) | (with_reducible refine Ext.trans ?_ (by with_reducible assumption)) | go_size)))) (RR.ext HB.out (by (repeat' (first | (with_reducible exact Ext.refl _) | (with_reducible assumption) | (with_reducible refine Ext.alloc ?_ _) | (with_reducible refine Ext.set ?_ ?_ _) | (with_reducible refine Ext.drewN ?_ _) | (with_reducible refine Ext.drew ?_) | (with_reducible refine Ext.trans ?_ (by with_reducible assumption)) | go_size)))))).mono ?_)
    rintro e w2 ⟨A2, n2, c2, rfl, hO2, hE2⟩
    have hlen := hO2.1.2.1
    have h64 := prV_le hpb
    rw [hlen] at h64
    have HR2 := Lib.hid hO2.re
    have hEw2 : Ext w w2 := by (repeat' (first | (with_reducible exact Ext.refl _) | (with_reducible assumption) | (with_reducible refine Ext.alloc ?_ _) | (with_reducible refine Ext.set ?_ ?_ _) | (with_reducible refine Ext.drewN ?_ _) | (with_reducible refine Ext.drew ?_) | (with_reducible refine Ext.trans ?_ (by with_reducible assumption)) | go_size))
    have hb0 : w2.cell? ⟨w.heap.size, 0, none⟩ = some (.slice A0 n0 c0) := Ext.keep hE2 (by simp [go_sem])
    have hb1 : w2.cell? ⟨w.heap.size, 1, none⟩ = some (.slice B0 m0 d0) := Ext.keep hE2 (by simp [go_sem])
    clear hO2
    cases hst : setB (prV s).length set with
    | false =>
      have HO := Lib.hid (show o = none by rw [← ho]; exact fpV_no2 hst)
      rw [hlen] at hst
      clear ho
      go_wp2_with fail
      (with_reducible refine (c_l18Set hst (RdI.mk (RI.ext HD.out hEw2)) (by omega)).mono ?_)
      rintro e w3 ⟨rfl, hE3⟩
      go_wp2_with fail
      refine bodyPost_ret (v := .tuple #[.slice (some ⟨w3.heap.size, 0, none⟩) 0 0, .bool false]) (by simp [results, Try.results10, go_sem]) rfl ?_
      rw [HO.out]
      exact ⟨_, 0, 0, rfl, RI.nil _ _, by (repeat' (first | (with_reducible exact Ext.refl _) | (with_reducible assumption) | (with_reducible refine Ext.alloc ?_ _) | (with_reducible refine Ext.set ?_ ?_ _) | (with_reducible refine Ext.drewN ?_ _) | (with_reducible refine Ext.drew ?_) | (with_reducible refine Ext.trans ?_ (by with_reducible assumption)) | go_size))⟩
    | true =>
      have HST := Lib.hid (setB_iff.1 hst)
      have hst' := hst
      rw [hlen] at hst'
      have HSB := Lib.hid hst
      have HO := Lib.hid (show fpGo s.ar (prV s) set = o by rw [← ho]; exact (fpV_yes hpb hst).symm)
      have HSL := Lib.hid (set_le HST.out (by omega))
      rw [hlen] at HST
      have HSP := Lib.hid (sysP_sig (prB_sys HPB.out))
      clear ho
      go_wp2_with fail
      (with_reducible refine (c_l18Set hst' (RdI.mk (RI.ext HD.out hEw2)) (by omega)).mono ?_)
      rintro e w3 ⟨rfl, hE3⟩
      have hEw3 := Ext.trans hEw2 hE3
      go_wp2_with fail
      (with_reducible refine (c_l18Heads (RE.ext HR2.out hE3) (RdI.mk (RI.ext HD.out hEw3)) (prV_ok HPB.out) HST.out HSL.out).mono ?_)
      rintro e w4 ⟨A4, n4, c4, ys, rfl, hR4, hY4, hE4⟩
      have HR4 := Lib.hid hR4
      have HY4 := Lib.hid hY4
      have hEw4 := Ext.trans hEw3 hE4
      have hb40 := Ext.keep hE4 (Ext.keep hE3 hb0)
      have hb41 := Ext.keep hE4 (Ext.keep hE3 hb1)
      have HO4 := Lib.hid (OwI.noneJ (w := w4) (D := w4.heap.size) (Nat.le_refl _))
      have HLL := Lib.hid (show (lowP s.ar (prV s) set).length = n0 by rw [lowP, lowK_len]; exact hn0)
      clear hR4 hY4
      go_wp2_with fail
      go_loopw [9, 10] (fun ov kv wr => ∃ k : Nat, kv = .int .i64 k ∧ k ≤ n0 ∧ (∃ A9 c9, ov = .slice A9 k c9 ∧ Hid (OwI wr w4.heap.size A9 k c9 ((lowP s.ar (prV s) set).take k))) ∧ Hid (∀ f, f < k → hdB (prV s) set (f : Int) = true → ¬ s.ar[f]? = some 0) ∧ Ext w4 wr) (fun _ kv _ => n0 - (intOf kv).toNat)
      case atStart => exact ⟨0, rfl, Nat.zero_le _, ⟨_, 0, rfl, Lib.hid (by rw [List.take_zero]; exact HO4.out)⟩, Lib.hid (fun f h => by omega), (Ext.refl _).alloc _⟩
      case round =>
        obtain ⟨k, rfl, hk, ⟨A9, c9, rfl, hO9⟩, hNF, hE⟩ := hrel
        have hEw : Ext w wr := Ext.trans hEw4 hE
        have hr0 := Ext.keep hE hb40
        have hr1 := Ext.keep hE hb41
        have hk8 : n0 ≤ 8 := by have := HSP.out.2.1; omega
        by_cases hlt : k < n0
        · obtain ⟨bs, os, x, rfl, hx, hcx⟩ := RI.at_ (RI.ext HA.out hEw) hlt
          have HX := Lib.hid hx
          have hki : (k : Int) < (n0 : Int) := by omega
          have hk0 : (0 : Int) ≤ (k : Int) := by omega
          have HSN := Lib.hid (low_snoc (ps := prV s) (set := set) (show k < s.ar.length by omega))
          clear hx
          obtain ⟨bk, hbk⟩ : ∃ bk, hdB (prV s) set (k : Int) = bk := ⟨_, rfl⟩
          have HBK := Lib.hid hbk
          go_wp2_with fail
          (with_reducible refine (c_l1HasJ (b := bk) (by rw [← HBK.out, hdB_iff]; exact HY4.out k) (RdI.mk (RI.ext HR4.out hE))).mono ?_)
          rintro e w5 ⟨rfl, hE5⟩
          have hE5w := Ext.trans hE hE5
          have hs0 := Ext.keep hE5 hr0
          have hs1 := Ext.keep hE5 hr1
          have hsx := Ext.keep hE5 hcx
          have HO5 := Lib.hid (hO9.out.ext hE5)
          have hsz5 := hE5w.size
          clear hbk hO9
          cases bk with
          | false =>
            go_wp2_with (at_builtin; go_loud (refine wpList_append_lies _ rfl (.tmp 56) (.tmp 57) 22 rfl w4.heap.size 2 i0 (.int .i64 0) 1 8 Try.underlying22 hii hiz his hib rfl (by decide) _ _ _ rfl (OwI.alloc HO5.out _).2 ⟨w5.heap.size, 0, none⟩ 1 1 [.int .i64 (-1)] rfl rfl (one_cells _ _ _) (one_one _) (by decide) (by unfold maxLen; omega) (by omega) (by go_size) _ rfl ?_))
            intro g4 cap wx hown hg hat hltg
            have HON := Lib.hid (show OwI wx w4.heap.size (some ⟨g4, 0, none⟩) (k + 1) cap ((lowP s.ar (prV s) set).take (k + 1)) from ⟨by omega, by rw [HSN.out, HBK.out]; simpa using hown⟩)
            have hob := OwI.ob2 HO5.out
            have hEx : Ext w4 wx := Ext.grown (hE5w.alloc _) hg (fun b hb => (hob b hb).1)
            have HNF := Lib.hid (show ∀ f, f < k + 1 → hdB (prV s) set (f : Int) = true → ¬ s.ar[f]? = some 0 from fun f h1 h2 => by
              rcases Nat.lt_or_ge f k with h3 | h3
              · exact hNF.out f h3 h2
              · obtain rfl : f = k := by omega
                rw [HBK.out] at h2; cases h2)
            clear hown hg hat hob
            go_wp2
            go_roundw
            case rel => exact ⟨k + 1, by go_num, by omega, ⟨_, _, rfl, HON⟩, HNF, hEx⟩
            case measure => simp only [intOf]; omega
          | true =>
            by_cases hx0 : x = 0
            · subst hx0
              have HP := Lib.hid (show o = none by rw [← HO.out]; exact fpGo_bad (by omega) HBK.out HX.out rfl)
              go_wp2_with fail
              refine bodyPost_ret (v := .tuple #[.slice (some ⟨w5.heap.size, 0, none⟩) 0 0, .bool false]) (by simp [results, Try.results10, go_sem]) rfl ?_
              rw [HP.out]
              exact ⟨_, 0, 0, rfl, RI.nil _ _, (Ext.trans hEw4 hE5w).alloc _⟩
            · have hxe : ((x : Int) == 0) = false := by simpa using hx0
              go_wp2_with (at_builtin; go_loud (refine wpList_append_lies _ rfl (.tmp 53) (.tmp 54) 22 rfl w4.heap.size 2 i0 (.int .i64 0) 1 8 Try.underlying22 hii hiz his hib rfl (by decide) _ _ _ rfl (OwI.alloc HO5.out _).2 ⟨w5.heap.size, 0, none⟩ 1 1 [.int .i64 0] rfl rfl (one_cells _ _ _) (one_one _) (by decide) (by unfold maxLen; omega) (by omega) (by go_size) _ rfl ?_))
              intro g4 cap wx hown hg hat hltg
              have HON := Lib.hid (show OwI wx w4.heap.size (some ⟨g4, 0, none⟩) (k + 1) cap ((lowP s.ar (prV s) set).take (k + 1)) from ⟨by omega, by rw [HSN.out, HBK.out]; simpa using hown⟩)
              have hob := OwI.ob2 HO5.out
              have hEx : Ext w4 wx := Ext.grown (hE5w.alloc _) hg (fun b hb => (hob b hb).1)
              have HNF := Lib.hid (show ∀ f, f < k + 1 → hdB (prV s) set (f : Int) = true → ¬ s.ar[f]? = some 0 from fun f h1 h2 => by
                rcases Nat.lt_or_ge f k with h3 | h3
                · exact hNF.out f h3 h2
                · obtain rfl : f = k := by omega
                  rw [HX.out]; intro e; cases e; exact hx0 rfl)
              clear hown hg hat hob
              go_wp2
              go_roundw
              case rel => exact ⟨k + 1, by go_num, by omega, ⟨_, _, rfl, HON⟩, HNF, hEx⟩
              case measure => simp only [intOf]; omega
        · obtain rfl : k = n0 := by omega
          obtain ⟨wq, rfl⟩ : ∃ wq : World, wq = wr := ⟨_, rfl⟩
          have HL := Lib.hid (show OwI wq w4.heap.size A9 k c9 (lowP s.ar (prV s) set) by have h := hO9.out; rwa [List.take_of_length_le (by rw [HLL.out]; exact Nat.le_refl _)] at h)
          have HNB := Lib.hid (show ¬ BadH s.ar (prV s) set from fun ⟨f, h1, h2, h3⟩ => hNF.out f (by omega) h2 h3)
          have HWAY := Lib.hid (fp_start HSP.out HNB.out HO.out)
          have hk1 : 1 ≤ k := by have := HSP.out.1; omega
          obtain ⟨g5, rfl, hg5, hg5l⟩ : ∃ g, A9 = some ⟨g, 0, none⟩ ∧ w4.heap.size ≤ g ∧ g < wq.heap.size := by
            rcases HL.out.form with ⟨_, h, _⟩ | h
            · omega
            · exact h
          have hwl4 : w.heap.size < w4.heap.size := World.block_lt_of_cell? w4 _ hb40
          clear hO9 hNF
          go_wp2_with fail
          go_loopw [11] (fun mv wr => ∃ more : Bool, mv = .bool more ∧ Hid ((more = true → ∃ j xs, OwI wr w4.heap.size (some ⟨g5, 0, none⟩) k c9 xs ∧ OnWay (GoesBy s.ar (prV s) set) (lowP s.ar (prV s) set) (highP s.ar (prV s) set) o j xs) ∧ (more = false → o = none)) ∧ Ext w4 wr) (fun mv wr => fpMeas (GoesBy s.ar (prV s) set) (lowP s.ar (prV s) set) (highP s.ar (prV s) set) o w4.heap.size g5 k c9 mv wr)
          case atStart => exact ⟨true, rfl, Lib.hid ⟨fun _ => by
            obtain ⟨j, hj⟩ := HWAY.out
            exact ⟨j, _, HL.out, hj⟩, fun h => by cases h⟩, hE⟩
          case round =>
            obtain ⟨more, rfl, hI, hEr⟩ := hrel
            have hErw := Ext.trans hEw4 hEr
            have hcr0 := Ext.keep hEr hb40
            have hcr1 := Ext.keep hEr hb41
            cases more with
            | false =>
              have HP := Lib.hid (hI.out.2 rfl)
              go_wp2_with fail
              refine bodyPost_ret (v := .tuple #[.slice (some ⟨wr.heap.size, 0, none⟩) 0 0, .bool false]) (by simp [results, Try.results10, go_sem]) rfl ?_
              rw [HP.out]
              exact ⟨_, 0, 0, rfl, RI.nil _ _, hErw.alloc _⟩
            | true =>
              have hex : ∃ j xs, OwI wr w4.heap.size (some ⟨g5, 0, none⟩) k c9 xs ∧ OnWay (GoesBy s.ar (prV s) set) (lowP s.ar (prV s) set) (highP s.ar (prV s) set) o j xs := hI.out.1 rfl
              obtain ⟨⟨xs, hX, hW⟩, _⟩ := leastOf_spec hex
              have HX := Lib.hid hX
              have HW := Lib.hid hW
              have HPJ := Lib.hid (projOk_iff.2 (btw_proj HSP.out hW.btw))
              obtain ⟨o', ho'⟩ : ∃ o', prjGo s.ar xs (prV s) set [] = o' := ⟨_, rfl⟩
              have HO' := Lib.hid ho'
              have HPV := Lib.hid (show prjV s set xs = o' by rw [← HO'.out]; exact prjV_yes HPB.out HSB.out HPJ.out)
              clear hX hW ho' hex
              obtain ⟨wo, rfl⟩ : ∃ wo : World, wo = wr := ⟨_, rfl⟩
              go_wp2_with fail
              (with_reducible refine (c_sProjectedBy HPV.out (RdSyK.mk (RI.ext HA.out hErw) (RR.ext HB.out hErw)) (RdI.mk (RI.ext HD.out hErw)) (RdI.mk HX.out.ri)).mono ?_)
              rintro e w9 ⟨A7, n7, c7, rfl, hO7, hE9⟩
              have hn7 := hO7.len
              have hE9w := Ext.trans hErw hE9
              have hE94 := Ext.trans hEr hE9
              have HX9 := Lib.hid (HX.out.ext hE9)
              have hc90 := Ext.keep hE9 hcr0
              have hc91 := Ext.keep hE9 hcr1
              clear hO7
              by_cases hgo : GoesBy s.ar (prV s) set xs
              · have HP := Lib.hid (HW.out.yes hgo)
                obtain ⟨y, ys', hy⟩ := hgo
                rw [HO'.out] at hy
                subst hy
                simp at hn7
                have h7 : (n7 : Int) > 0 := by omega
                have h7p : 0 < n7 := by omega
                simp only [Option.isSome_some]
                go_wp2_with fail
                refine bodyPost_ret (v := .tuple #[.slice (some ⟨g5, 0, none⟩) k c9, .bool true]) (by simp [results, Try.results10, go_sem]) rfl ?_
                rw [HP.out]
                exact ⟨_, _, _, rfl, HX9.out.ri, hE9w⟩
              · have h0 : o' = none ∨ o' = some [] := by
                  cases o' with
                  | none => exact .inl rfl
                  | some l => cases l with
                    | nil => exact .inr rfl
                    | cons y ys' => exact absurd ⟨y, ys', HO'.out⟩ hgo
                rcases hup : up xs (lowP s.ar (prV s) set) (highP s.ar (prV s) set) with ⟨ys', bb⟩
                have HUP := Lib.hid hup
                have HNX := Lib.hid (show (bb = true → ∃ m, m < leastOf (fun j => ∃ xs, OwI wo w4.heap.size (some ⟨g5, 0, none⟩) k c9 xs ∧ OnWay (GoesBy s.ar (prV s) set) (lowP s.ar (prV s) set) (highP s.ar (prV s) set) o j xs) ∧ OnWay (GoesBy s.ar (prV s) set) (lowP s.ar (prV s) set) (highP s.ar (prV s) set) o m ys') ∧ (bb = false → o = none) from ⟨fun e => by subst e; exact HW.out.next hgo hup, fun e => by subst e; exact HW.out.stop hgo hup⟩)
                have HBT := Lib.hid HW.out.btw
                have HLN := Lib.hid HBT.out.len
                have hn70 : o' = some [] → n7 = 0 := fun e => by subst e; simpa using hn7.symm
                clear hup hgo hn7
                rcases h0 with rfl | rfl
                · simp only [Option.isSome_none]
                  go_wp2_with fail
                  go_loopw [14, 11] (fun jv mv wr => ∃ (j : Nat) (more : Bool), jv = .int .i64 ((j : Int) - 1) ∧ mv = .bool more ∧ j ≤ k ∧ Hid ((more = false → OwI wr w4.heap.size (some ⟨g5, 0, none⟩) k c9 (xs.take j ++ (lowP s.ar (prV s) set).drop j) ∧ up (xs.drop j) ((lowP s.ar (prV s) set).drop j) ((highP s.ar (prV s) set).drop j) = ((lowP s.ar (prV s) set).drop j, false)) ∧ (more = true → OwI wr w4.heap.size (some ⟨g5, 0, none⟩) k c9 ys' ∧ bb = true)) ∧ Ext w4 wr) (fun jv _ _ => (intOf jv + 1).toNat)
                  case atStart => exact ⟨k, false, by go_num, rfl, Nat.le_refl _, Lib.hid ⟨fun _ => ⟨by
                    have h1 := HLN.out; have h2 := HLL.out
                    rw [List.take_of_length_le (by omega), List.drop_of_length_le (by omega), List.append_nil]; exact HX9.out, by
                    have h1 := HLN.out; have h2 := HLL.out
                    rw [List.drop_of_length_le (by omega), List.drop_of_length_le (by omega), List.drop_of_length_le (by omega)]; rfl⟩, fun h => by cases h⟩, hE94⟩
                  case round =>
                    obtain ⟨j1, more, rfl, rfl, hj1, hIN, hEr2⟩ := hrel
                    have hErw2 := Ext.trans hEw4 hEr2
                    have hcr20 := Ext.keep hEr2 hb40
                    have hcr21 := Ext.keep hEr2 hb41
                    cases more with
                    | true =>
                      have HI2 := Lib.hid (hIN.out.2 rfl)
                      have hbb := HI2.out.2
                      go_wp2_with fail
                      all_goals
                        go_roundw
                        case rel => exact ⟨true, rfl, Lib.hid ⟨fun _ => by
                          obtain ⟨m, _, hm⟩ := HNX.out.1 hbb
                          exact ⟨m, ys', HI2.out.1, hm⟩, fun h => by cases h⟩, hEr2⟩
                        case measure =>
                          rw [fpMeas_t, fpMeas_t]
                          obtain ⟨m, hm1', hm2⟩ := HNX.out.1 hbb
                          have := leastOf_le (R := fun j => ∃ xs, OwI wr w4.heap.size (some ⟨g5, 0, none⟩) k c9 xs ∧ OnWay (GoesBy s.ar (prV s) set) (lowP s.ar (prV s) set) (highP s.ar (prV s) set) o j xs) ⟨ys', HI2.out.1, hm2⟩
                          omega
                    | false =>
                      have HI2 := Lib.hid (hIN.out.1 rfl)
                      rcases Nat.eq_zero_or_pos j1 with hz | hz
                      · subst hz
                        have hz0 : ¬ ((0 : Nat) : Int) - 1 ≥ 0 := by omega
                        have HNO := Lib.hid (show o = none by
                          have h3 := HI2.out.2
                          rw [List.drop_zero, List.drop_zero, List.drop_zero, HUP.out] at h3
                          cases h3; exact HNX.out.2 rfl)
                        go_wp2_with fail
                        go_roundw
                        case rel => exact ⟨false, rfl, Lib.hid ⟨(fun h => by cases h), fun _ => HNO.out⟩, hEr2⟩
                        case measure => rw [fpMeas_t, fpMeas_f]; omega
                      · obtain ⟨j, rfl⟩ : ∃ j, j1 = j + 1 := ⟨j1 - 1, by omega⟩
                        have hji : (((j + 1 : Nat) : Int)) - 1 = (j : Int) := by omega
                        rw [hji]
                        have hjn : j < k := by omega
                        obtain ⟨x, hx⟩ : ∃ x, xs[j]? = some x := ⟨_, List.getElem?_eq_getElem (by have h1 := HLN.out; have h2 := HLL.out; omega)⟩
                        obtain ⟨x', hx', hcx, hfx⟩ := OwI.at_ HI2.out.1 hjn
                        rw [up_get hx] at hx'; cases hx'
                        obtain ⟨ba, oa, a, rfl, ha, hca⟩ := RI.at_ (RI.ext HA.out hErw2) hjn
                        obtain ⟨l, h, hl, hh, hlx, hxh, hch⟩ := choice HSP.out HBT.out hx ha
                        have ha3 := HSP.out.2.2 a (List.mem_of_getElem? ha)
                        have HXJ := Lib.hid hx
                        have HLJ := Lib.hid hl
                        have HHJ := Lib.hid hh
                        have hj0 : (0 : Int) ≤ (j : Int) := by omega
                        have hjd : decide ((0 : Int) ≤ (j : Int)) = true := by simp
                        have hjni : (j : Int) < (k : Int) := by omega
                        have hgl : g5 < wr.heap.size := World.block_lt_of_cell? wr _ hcx
                        have hw1 : IntKind.i64.wrap (a - 1) = a - 1 := IntWalk.i64_in _ (by omega)
                        have hw2 : IntKind.i64.wrap (x + 1) = x + 1 := IntWalk.i64_in _ (by omega)
                        clear hx hl hh ha
                        rcases hch with ⟨hl0, hha⟩ | ⟨hl0, hha⟩
                        · subst hl0
                          subst hha
                          have hd1 : decide ((0 : Int) ≤ x) = true := by simpa using hlx
                          by_cases hxh2 : x < a - 1
                          · have hd2 : decide (x < a - 1) = true := by simpa using hxh2
                            have HE := Lib.hid (show ys' = xs.take j ++ (x + 1) :: (lowP s.ar (prV s) set).drop (j + 1) ∧ bb = true by
                              have h3 := up_at (by have := HLN.out; omega) (by have := HLN.out; omega) HXJ.out HHJ.out hxh2 HI2.out.2
                              rw [HUP.out] at h3
                              cases h3; exact ⟨rfl, rfl⟩)
                            go_wp2_with fail
                            go_quiet (fail)
                            have HN := Lib.hid (show OwI ((wr.drewN nq).setCell ⟨g5, j, none⟩ (.int .i64 (x + 1))) w4.heap.size (some ⟨g5, 0, none⟩) k c9 ys' by rw [HE.out.1, ← up_mid2 (x + 1) HXJ.out]; exact OwI.set (OwI.drewN HI2.out.1 nq) j (x + 1))
                            have hE10 : Ext w4 ((wr.drewN nq).setCell ⟨g5, j, none⟩ (.int .i64 (x + 1))) := Ext.set (hEr2.drewN nq) hg5 _
                            go_wp2
                            go_roundw
                            case rel => exact ⟨j, true, by go_num, rfl, by omega, Lib.hid ⟨(fun h => by cases h), fun _ => ⟨HN.out, HE.out.2⟩⟩, hE10⟩
                            case measure => simp only [intOf]; omega
                          · have hd2 : decide (x < a - 1) = false := by simpa using hxh2
                            have HB2 := Lib.hid (up_back HXJ.out HLJ.out HHJ.out hxh2 HI2.out.2)
                            go_wp2_with fail
                            go_quiet (fail)
                            have HN := Lib.hid (show OwI ((wr.drewN nq).setCell ⟨g5, j, none⟩ (.int .i64 0)) w4.heap.size (some ⟨g5, 0, none⟩) k c9 (xs.take j ++ (lowP s.ar (prV s) set).drop j) by rw [← up_mid (by have := HLN.out; omega) HLJ.out]; exact OwI.set (OwI.drewN HI2.out.1 nq) j 0)
                            have hE10 : Ext w4 ((wr.drewN nq).setCell ⟨g5, j, none⟩ (.int .i64 0)) := Ext.set (hEr2.drewN nq) hg5 _
                            go_wp2
                            go_roundw
                            case rel => exact ⟨j, false, by go_num, rfl, by omega, Lib.hid ⟨fun _ => ⟨HN.out, HB2.out⟩, fun h => by cases h⟩, hE10⟩
                            case measure => simp only [intOf]; omega
                        · subst hl0
                          subst hha
                          obtain rfl : x = -1 := by omega
                          have HB2 := Lib.hid (up_back HXJ.out HLJ.out HHJ.out (by omega) HI2.out.2)
                          have HKP := Lib.hid (up_keep HXJ.out HLJ.out)
                          have hd1 : decide ((0 : Int) ≤ -1) = false := by decide
                          go_wp2_with fail
                          go_quiet (fail)
                          have HN := Lib.hid (show OwI (wr.drewN nq) w4.heap.size (some ⟨g5, 0, none⟩) k c9 (xs.take j ++ (lowP s.ar (prV s) set).drop j) by rw [← HKP.out]; exact OwI.drewN HI2.out.1 nq)
                          have hE10 : Ext w4 (wr.drewN nq) := hEr2.drewN nq
                          go_wp2
                          go_roundw
                          case rel => exact ⟨j, false, by go_num, rfl, by omega, Lib.hid ⟨fun _ => ⟨HN.out, HB2.out⟩, fun h => by cases h⟩, hE10⟩
                          case measure => simp only [intOf]; omega
                · obtain rfl : n7 = 0 := hn70 rfl
                  simp only [Option.isSome_some]
                  go_wp2_with fail
                  go_loopw [14, 11] (fun jv mv wr => ∃ (j : Nat) (more : Bool), jv = .int .i64 ((j : Int) - 1) ∧ mv = .bool more ∧ j ≤ k ∧ Hid ((more = false → OwI wr w4.heap.size (some ⟨g5, 0, none⟩) k c9 (xs.take j ++ (lowP s.ar (prV s) set).drop j) ∧ up (xs.drop j) ((lowP s.ar (prV s) set).drop j) ((highP s.ar (prV s) set).drop j) = ((lowP s.ar (prV s) set).drop j, false)) ∧ (more = true → OwI wr w4.heap.size (some ⟨g5, 0, none⟩) k c9 ys' ∧ bb = true)) ∧ Ext w4 wr) (fun jv _ _ => (intOf jv + 1).toNat)
                  case atStart => exact ⟨k, false, by go_num, rfl, Nat.le_refl _, Lib.hid ⟨fun _ => ⟨by
                    have h1 := HLN.out; have h2 := HLL.out
                    rw [List.take_of_length_le (by omega), List.drop_of_length_le (by omega), List.append_nil]; exact HX9.out, by
                    have h1 := HLN.out; have h2 := HLL.out
                    rw [List.drop_of_length_le (by omega), List.drop_of_length_le (by omega), List.drop_of_length_le (by omega)]; rfl⟩, fun h => by cases h⟩, hE94⟩
                  case round =>
                    obtain ⟨j1, more, rfl, rfl, hj1, hIN, hEr2⟩ := hrel
                    have hErw2 := Ext.trans hEw4 hEr2
                    have hcr20 := Ext.keep hEr2 hb40
                    have hcr21 := Ext.keep hEr2 hb41
                    cases more with
                    | true =>
                      have HI2 := Lib.hid (hIN.out.2 rfl)
                      have hbb := HI2.out.2
                      go_wp2_with fail
                      all_goals
                        go_roundw
                        case rel => exact ⟨true, rfl, Lib.hid ⟨fun _ => by
                          obtain ⟨m, _, hm⟩ := HNX.out.1 hbb
                          exact ⟨m, ys', HI2.out.1, hm⟩, fun h => by cases h⟩, hEr2⟩
                        case measure =>
                          rw [fpMeas_t, fpMeas_t]
                          obtain ⟨m, hm1', hm2⟩ := HNX.out.1 hbb
                          have := leastOf_le (R := fun j => ∃ xs, OwI wr w4.heap.size (some ⟨g5, 0, none⟩) k c9 xs ∧ OnWay (GoesBy s.ar (prV s) set) (lowP s.ar (prV s) set) (highP s.ar (prV s) set) o j xs) ⟨ys', HI2.out.1, hm2⟩
                          omega
                    | false =>
                      have HI2 := Lib.hid (hIN.out.1 rfl)
                      rcases Nat.eq_zero_or_pos j1 with hz | hz
                      · subst hz
                        have hz0 : ¬ ((0 : Nat) : Int) - 1 ≥ 0 := by omega
                        have HNO := Lib.hid (show o = none by
                          have h3 := HI2.out.2
                          rw [List.drop_zero, List.drop_zero, List.drop_zero, HUP.out] at h3
                          cases h3; exact HNX.out.2 rfl)
                        go_wp2_with fail
                        go_roundw
                        case rel => exact ⟨false, rfl, Lib.hid ⟨(fun h => by cases h), fun _ => HNO.out⟩, hEr2⟩
                        case measure => rw [fpMeas_t, fpMeas_f]; omega
                      · obtain ⟨j, rfl⟩ : ∃ j, j1 = j + 1 := ⟨j1 - 1, by omega⟩
                        have hji : (((j + 1 : Nat) : Int)) - 1 = (j : Int) := by omega
                        rw [hji]
                        have hjn : j < k := by omega
                        obtain ⟨x, hx⟩ : ∃ x, xs[j]? = some x := ⟨_, List.getElem?_eq_getElem (by have h1 := HLN.out; have h2 := HLL.out; omega)⟩
                        obtain ⟨x', hx', hcx, hfx⟩ := OwI.at_ HI2.out.1 hjn
                        rw [up_get hx] at hx'; cases hx'
                        obtain ⟨ba, oa, a, rfl, ha, hca⟩ := RI.at_ (RI.ext HA.out hErw2) hjn
                        obtain ⟨l, h, hl, hh, hlx, hxh, hch⟩ := choice HSP.out HBT.out hx ha
                        have ha3 := HSP.out.2.2 a (List.mem_of_getElem? ha)
                        have HXJ := Lib.hid hx
                        have HLJ := Lib.hid hl
                        have HHJ := Lib.hid hh
                        have hj0 : (0 : Int) ≤ (j : Int) := by omega
                        have hjd : decide ((0 : Int) ≤ (j : Int)) = true := by simp
                        have hjni : (j : Int) < (k : Int) := by omega
                        have hgl : g5 < wr.heap.size := World.block_lt_of_cell? wr _ hcx
                        have hw1 : IntKind.i64.wrap (a - 1) = a - 1 := IntWalk.i64_in _ (by omega)
                        have hw2 : IntKind.i64.wrap (x + 1) = x + 1 := IntWalk.i64_in _ (by omega)
                        clear hx hl hh ha
                        rcases hch with ⟨hl0, hha⟩ | ⟨hl0, hha⟩
                        · subst hl0
                          subst hha
                          have hd1 : decide ((0 : Int) ≤ x) = true := by simpa using hlx
                          by_cases hxh2 : x < a - 1
                          · have hd2 : decide (x < a - 1) = true := by simpa using hxh2
                            have HE := Lib.hid (show ys' = xs.take j ++ (x + 1) :: (lowP s.ar (prV s) set).drop (j + 1) ∧ bb = true by
                              have h3 := up_at (by have := HLN.out; omega) (by have := HLN.out; omega) HXJ.out HHJ.out hxh2 HI2.out.2
                              rw [HUP.out] at h3
                              cases h3; exact ⟨rfl, rfl⟩)
                            go_wp2_with fail
                            go_quiet (fail)
                            have HN := Lib.hid (show OwI ((wr.drewN nq).setCell ⟨g5, j, none⟩ (.int .i64 (x + 1))) w4.heap.size (some ⟨g5, 0, none⟩) k c9 ys' by rw [HE.out.1, ← up_mid2 (x + 1) HXJ.out]; exact OwI.set (OwI.drewN HI2.out.1 nq) j (x + 1))
                            have hE10 : Ext w4 ((wr.drewN nq).setCell ⟨g5, j, none⟩ (.int .i64 (x + 1))) := Ext.set (hEr2.drewN nq) hg5 _
                            go_wp2
                            go_roundw
                            case rel => exact ⟨j, true, by go_num, rfl, by omega, Lib.hid ⟨(fun h => by cases h), fun _ => ⟨HN.out, HE.out.2⟩⟩, hE10⟩
                            case measure => simp only [intOf]; omega
                          · have hd2 : decide (x < a - 1) = false := by simpa using hxh2
                            have HB2 := Lib.hid (up_back HXJ.out HLJ.out HHJ.out hxh2 HI2.out.2)
                            go_wp2_with fail
                            go_quiet (fail)
                            have HN := Lib.hid (show OwI ((wr.drewN nq).setCell ⟨g5, j, none⟩ (.int .i64 0)) w4.heap.size (some ⟨g5, 0, none⟩) k c9 (xs.take j ++ (lowP s.ar (prV s) set).drop j) by rw [← up_mid (by have := HLN.out; omega) HLJ.out]; exact OwI.set (OwI.drewN HI2.out.1 nq) j 0)
                            have hE10 : Ext w4 ((wr.drewN nq).setCell ⟨g5, j, none⟩ (.int .i64 0)) := Ext.set (hEr2.drewN nq) hg5 _
                            go_wp2
                            go_roundw
                            case rel => exact ⟨j, false, by go_num, rfl, by omega, Lib.hid ⟨fun _ => ⟨HN.out, HB2.out⟩, fun h => by cases h⟩, hE10⟩
                            case measure => simp only [intOf]; omega
                        · subst hl0
                          subst hha
                          obtain rfl : x = -1 := by omega
                          have HB2 := Lib.hid (up_back HXJ.out HLJ.out HHJ.out (by omega) HI2.out.2)
                          have HKP := Lib.hid (up_keep HXJ.out HLJ.out)
                          have hd1 : decide ((0 : Int) ≤ -1) = false := by decide
                          go_wp2_with fail
                          go_quiet (fail)
                          have HN := Lib.hid (show OwI (wr.drewN nq) w4.heap.size (some ⟨g5, 0, none⟩) k c9 (xs.take j ++ (lowP s.ar (prV s) set).drop j) by rw [← HKP.out]; exact OwI.drewN HI2.out.1 nq)
                          have hE10 : Ext w4 (wr.drewN nq) := hEr2.drewN nq
                          go_wp2
                          go_roundw
                          case rel => exact ⟨j, false, by go_num, rfl, by omega, Lib.hid ⟨fun _ => ⟨HN.out, HB2.out⟩, fun h => by cases h⟩, hE10⟩
                          case measure => simp only [intOf]; omega

end Go.Proofs.Ytccahngnnfohcaa
