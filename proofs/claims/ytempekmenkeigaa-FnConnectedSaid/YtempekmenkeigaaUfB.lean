/- The reference's: a variable bound in a list of terms for variables. -/
import Derived.Test.YtempekmenkeigaaUfA
import Derived.Test.YtempekmenkeigaaStp
namespace Go.Proofs.Ytempekmenkeigaa
open Go.RowKit
set_option linter.unusedSimpArgs false
set_option linter.unusedVariables false

theorem gives_term {ar : List Int} {τ : List (List Int)} {k : Nat} (hσ : SubP ar τ) (hs : SigP ar) (hk : k < 24) : TermP ar (gives τ (-1 - (k : Int))) := by
  obtain ⟨g1, g2⟩ := givT_ok hσ (show (-1 - (k : Int)) < 0 by omega)
  rw [← g2]
  refine termP_flat hs g1 (by rw [g2]; exact gives_len hσ _) fun z hz => ?_
  rw [g2] at hz; exact gives_mem hσ hz (by omega)
theorem oneS_at {k : Nat} (t : List Int) : oneS (-1 - (k : Int)) t = (List.replicate 24 []).set k t := by
  unfold oneS
  rw [show (-1 - (-1 - (k : Int))).toNat = k by omega]
theorem one_rsg {w0 w : World} {B M k n c : Nat} {T : TypeId} {A : Option Addr} {t : List Int} (h : w.ownsRow B T 1 (.slice (some ⟨M, 0, none⟩) 24 24) 24 (List.replicate 24 (.slice none 0 0))) (hk : k < 24) (hR : RI (w.setCell ⟨M, k, none⟩ (.slice A n c)) A n t) :
    RSg (w.setCell ⟨M, k, none⟩ (.slice A n c)) (some ⟨M, 0, none⟩) 24 (oneS (-1 - (k : Int)) t) := by
  have h2 := (World.ownsRow.stored h k (.slice A n c)).1
  rw [oneS_at]
  refine ⟨⟨by simp, by omega⟩, fun j xs hx => ?_⟩
  have hj : j < 24 := by have := (List.getElem?_eq_some_iff.1 hx).1; simpa using this
  have hc := World.ownsRow.cellAt h2 j (by omega)
  rw [List.getElem?_set] at hx hc
  by_cases e : k = j
  · subst e
    rw [if_pos rfl, if_pos (by simpa using hk)] at hx hc
    cases hx
    exact ⟨M, 0, A, n, c, rfl, by rw [Nat.zero_add]; exact hc, hR⟩
  · rw [if_neg e, List.getElem?_replicate, if_pos hj] at hx hc
    cases hx
    exact ⟨M, 0, none, 0, 0, rfl, by rw [Nat.zero_add]; exact hc, RI.nil _ none⟩
theorem c_l2FilledO {v : Value} {A : Option Addr} {n c : Nat} {ar : List Int} {σ : List (List Int)} {t : List Int} {o : Option (List Int)} {w : World} (ho : fillO σ t = o) (hσ : SubP ar σ) (ht : TermP ar t) (h0 : RdSub w v σ) (h1 : RI w A n t) :
    Calls Try.prog 92 #[v, .slice A n c] w (NewFo w o) := by subst ho; exact c_l2Filled hσ ht h0 h1
/-- What binding gives. -/
def NewBd (w : World) (τ : List (List Int)) (i : Int) (t : List Int) (e : Ending) (w' : World) : Prop := ∃ (A : Option Addr) (n c : Nat) (b : Bool), e = .returned (.tuple #[.agg #[.slice A n c], .bool b]) ∧ (b = true → RSo w.heap.size w' A n (bindL τ i t 24) ∧ ∀ k : Nat, k < 24 → (fill (gives (oneS i t)) (gives τ (-1 - (k : Int)))).length ≤ 60) ∧ Ext w w'
theorem NewBd.no {w w' : World} {τ : List (List Int)} {i : Int} {t : List Int} (k : Ext w w') : NewBd w τ i t (.returned (.tuple #[.agg #[.slice none 0 0], .bool false])) w' :=
  ⟨none, 0, 0, false, rfl, (fun h => by cases h), k⟩
set_option maxRecDepth 100000 in
set_option maxHeartbeats 8000000 in
theorem c_l5Bind {v0 : Value} {ar t : List Int} {τ : List (List Int)} {k : Nat} {A : Option Addr} {n c : Nat} {w : World} (h0 : RdSub w v0 τ) (h1 : RI w A n t) (hk : k < 24) (hb : BindA ar τ (-1 - (k : Int)) t) (hσ : SubP ar τ) :
    Calls Try.prog 94 #[v0, .int .i64 (k : Int), .slice A n c] w (NewBd w τ (-1 - (k : Int)) t) := by
  obtain ⟨D, q, l, rfl, hd⟩ := h0
  have HD := Lib.hid hd
  have HA := Lib.hid h1
  have HS := Lib.hid hσ
  have HSG := Lib.hid hb.tm.1
  have HSO := Lib.hid (subP_one (i := -1 - (k : Int)) hb.tm)
  obtain ⟨i0, hii, hiz, his, hib⟩ := info_parts ints_infoQ
  have hki : (k : Int) < 24 := by omega
  have hk0 : (0 : Int) ≤ (k : Int) := by omega
  clear hd h1 hb hσ
  go_enter Try.func94, Try.ntmps94
  go_wp2_with (at_make; refine wpList_make_full _ rfl _ _ 29 rfl (w.heap.size + 1 + 1) 22 i0 _ 1 Try.underlying29 hii hiz his _ _ _ _ 24 rfl rfl rfl rfl (by rw [hib]; omega) (by simp only [maxLen]; omega) (by go_size) ?_)
  intro w2 hown0 hg2
  obtain ⟨w1, hw1⟩ : ∃ w1, w1 = (w.alloc (.cells #[.slice D q l] 55)).alloc (.cells #[.slice none 0 0] 55) := ⟨_, rfl⟩
  have hz1 : w1.heap.size = w.heap.size + 1 + 1 := by rw [hw1]; simp [go_sem]
  have hb1 : w1.cell? ⟨w.heap.size, 0, none⟩ = some (.slice D q l) := by rw [hw1]; simp [go_sem]
  have hb2 : w1.cell? ⟨w.heap.size + 1, 0, none⟩ = some (.slice none 0 0) := by rw [hw1]; simp [go_sem]
  have hf2 : ∀ j, w1.frozen? ⟨w.heap.size + 1, j, none⟩ = false := by intro j; rw [hw1]; simp [go_sem]
  have hE1 : Ext w w1 := by rw [hw1]; exact extX
  have hE2 : Ext w1 w2 := Ext.grown (Ext.refl _) (by rw [hw1]; exact hg2) (fun k hk => by cases hk)
  rw [madeNils] at hown0
  try simp only [World.size_alloc] at hown0
  have hml : w.heap.size + 1 + 1 < w2.heap.size := (ownsRow_at hown0 (b := w.heap.size + 1 + 1) rfl).2.1
  have HOW := Lib.hid hown0
  have hown3 : (w2.alloc (.cells #[.slice (some ⟨w.heap.size + 1 + 1, 0, none⟩) 24 24] 55)).ownsRow (w.heap.size + 1 + 1) 22 1 (.slice (some ⟨w.heap.size + 1 + 1, 0, none⟩) 24 24) 24 (List.replicate 24 (.slice none 0 0)) := World.ownsRow.alloc HOW.out _
  have hcM : (w2.alloc (.cells #[.slice (some ⟨w.heap.size + 1 + 1, 0, none⟩) 24 24] 55)).cell? ⟨w.heap.size + 1 + 1, k, none⟩ = some (.slice none 0 0) := by
    rw [World.ownsRow.cellAt hown3 k (by omega), List.getElem?_replicate, if_pos hk]
  have hfM : (w2.alloc (.cells #[.slice (some ⟨w.heap.size + 1 + 1, 0, none⟩) 24 24] 55)).frozen? ⟨w.heap.size + 1 + 1, k, none⟩ = false := World.ownsRow.frozenAt hown3 k
  obtain ⟨w3, hw3⟩ : ∃ w3, w3 = w2.setCell ⟨w.heap.size + 1 + 1, k, none⟩ (.slice A n c) := ⟨_, rfl⟩
  have hE13 : Ext w1 w3 := by rw [hw3]; exact Ext.set hE2 (by rw [hz1]; exact Nat.le_refl _) _
  obtain ⟨w4, hw4⟩ : ∃ w4, w4 = w3.alloc (.cells #[.slice (some ⟨w.heap.size + 1 + 1, 0, none⟩) 24 24] 55) := ⟨_, rfl⟩
  have hE3' : Ext w3 w4 := by rw [hw4]; exact extX
  have hE34 : Ext w1 w4 := Ext.trans hE13 hE3'
  have HM := Lib.hid (show RSg w4 (some ⟨w.heap.size + 1 + 1, 0, none⟩) 24 (oneS (-1 - (k : Int)) t) from RSg.ext (by
    rw [hw3]
    exact one_rsg (w0 := w) HOW.out hk (by rw [← hw3]; exact RI.ext HA.out (Ext.trans hE1 hE13))) hE3')
  have hs4 : w4.heap.size = w2.heap.size + 1 := by rw [hw4, hw3]; simp [go_sem]
  have hb4 : w4.cell? ⟨w2.heap.size, 0, none⟩ = some (.slice (some ⟨w.heap.size + 1 + 1, 0, none⟩) 24 24) := by
    have hs3 : w3.heap.size = w2.heap.size := by rw [hw3]; simp [go_sem]
    rw [hw4, ← hs3]; simp [go_sem]
  have HW4 := Lib.hid (hw4.trans (by rw [hw3]))
  clear hown0 hown3 hg2 hw1 hw3 hw4
  go_wp2_with fail
  rw [← HW4.out, ← hs4]
  have HR0 := Lib.hid (show RowS w4 (w4.alloc (.cells #[.slice none 0 0] 55)) w4.heap.size none 0 0 (bindL τ (-1 - (k : Int)) t 0) from
    ⟨heap_alloc_new w4 _, ⟨[], World.ownsRow_nil _ _ _ _, rfl, fun j xs hx => by simp [bindL] at hx⟩, (Ext.refl _).alloc _, Nat.le_refl _⟩)
  have hE14 := Ext.trans hE1 hE34
  have HE34 := Lib.hid hE34
  have hz2 : w.heap.size + 1 < w1.heap.size := by omega
  have hz4 : w1.heap.size ≤ w4.heap.size := hE34.size
  clear hE3' hE13 hE2 hcM hfM hml HOW hE34 HW4
  have hd1 : w4.cell? ⟨w.heap.size, 0, none⟩ = some (.slice D q l) := Ext.keep HE34.out hb1
  have hd2 : w4.cell? ⟨w.heap.size + 1, 0, none⟩ = some (.slice none 0 0) := Ext.keep HE34.out hb2
  have hdf : ∀ j, w4.frozen? ⟨w.heap.size + 1, j, none⟩ = false := fun j => (Below.frozen (p := ⟨w.heap.size + 1, j, none⟩) HE34.out hz2).trans (hf2 j)
  have hz3 : w.heap.size + 1 < w4.heap.size := by omega
  clear HE34 hz1 hE1 hz4 hb1 hb2 hf2 hz2 hs4 w1
  go_loopw [10] (fun kv wr => ∃ j : Nat, kv = .int .i64 j ∧ j ≤ 24 ∧ Hid (∃ A c, RowS w4 wr w4.heap.size A j c (bindL τ (-1 - (k : Int)) t j)) ∧ Hid (∀ i : Nat, i < j → (fill (gives (oneS (-1 - (k : Int)) t)) (gives τ (-1 - (i : Int)))).length ≤ 60)) (fun kv _ => 24 - (intOf kv).toNat)
  case atStart => exact ⟨0, rfl, Nat.zero_le _, Lib.hid ⟨none, 0, HR0.out⟩, Lib.hid fun i hi => absurd hi (Nat.not_lt_zero _)⟩
  case round =>
    obtain ⟨j, rfl, hj, hI, hL⟩ := hrel
    obtain ⟨A, c, hR⟩ := hI.out
    have HR := Lib.hid hR
    have hE := hR.on
    have hEw := Ext.trans hE14 hE
    have hc1 := Ext.keep hE hd1
    have hc2 := Ext.keep hE hd2
    have hcf2 : ∀ j, wr.frozen? ⟨w.heap.size + 1, j, none⟩ = false := fun j => (Below.frozen (p := ⟨w.heap.size + 1, j, none⟩) hE hz3).trans (hdf j)
    have hc4 := Ext.keep hE hb4
    have hsz := hE.size
    have hbx0 : wr.cell? ⟨w4.heap.size, 0, none⟩ = some (.slice A j c) := cell_of_row _ _ _ _ _ (0, 0) HR.out.bx
    have hfx0 : ∀ i, wr.frozen? ⟨w4.heap.size, i, none⟩ = false := fun i => frozen_of_row _ _ _ _ _ HR.out.bx
    clear hI hR
    by_cases hlt : j < 24
    · have hji : (j : Int) < 24 := by omega
      have HPS := Lib.hid (show bindL τ (-1 - (k : Int)) t (j + 1) = bindL τ (-1 - (k : Int)) t j ++ [fill (gives (oneS (-1 - (k : Int)) t)) (gives τ (-1 - (j : Int)))] from rfl)
      have HG := Lib.hid (gives_term HS.out HSG.out hlt)
      obtain ⟨fo, HFO⟩ : ∃ fo, Hid (fillO (oneS (-1 - (k : Int)) t) (gives τ (-1 - (j : Int))) = fo) := ⟨_, Lib.hid rfl⟩
      go_wp2_with fail
      refine wp_only (R := fun (a0 : Act) (a8 : Act) (w9 : World) => ∃ (A5 : Option Addr) (n5 : Nat) (c5 : Nat) (A6 : Option Addr) (n6 : Nat) (c6 : Nat), a8 = ((((((((((a0.put (some 26) (.agg #[.slice (some ⟨w.heap.size + 1 + 1, 0, none⟩) 24 24])).put (some 27) (.agg #[.slice D q l])).put (some 28) (.int .i64 (j : Int))).put (some 29) (.slice A5 n5 c5)).put (some 30) (.tuple #[.slice A6 n6 c6, .bool fo.isSome])).put (some 25) (.tuple #[.slice A6 n6 c6, .bool fo.isSome])).put (some 31) (.slice A6 n6 c6)).put (some 32) (.bool fo.isSome)).put (some 11) (.slice A6 n6 c6)).put (some 12) (.bool fo.isSome)) ∧ OwI w9 wr.heap.size A6 n6 c6 (fo.getD []) ∧ Ext wr w9) ?_ (fun a8 w7 hR => ?_)
      · refine wp_region_held_drew (S := (fun w' => Ext wr w')) (by kernel_rfl) ((Ext.refl wr).drew) (fun hH => ?_)
        refine wpAnyH_take_dst (i := 0) (v := .agg #[.slice (some ⟨w.heap.size + 1 + 1, 0, none⟩) 24 24]) (d := some 26) rfl rfl (by kernel_rfl) (by kernel_rfl) (by kernel_rfl) (fun _ _ _ h => h) (Or.inl ⟨by rfl, ?_⟩) hH ?_
        · (intro w' hE'; (try dsimp only at hE'); have y0 := Ext.keep hE' hc1; have y1 := Ext.keep hE' hc4; go_simp; try with_reducible rfl)
        try simp only [Act.put, List.setIfInBounds_toArray, List.set_cons_zero, List.set_cons_succ]
        refine wpAnyH_take_dst (i := 1) (v := .agg #[.slice D q l]) (d := some 27) rfl rfl (by kernel_rfl) (by kernel_rfl) (by kernel_rfl) (fun _ _ _ h => h) (Or.inl ⟨by rfl, ?_⟩) hH ?_
        · (intro w' hE'; (try dsimp only at hE'); have y0 := Ext.keep hE' hc1; have y1 := Ext.keep hE' hc4; go_simp; try with_reducible rfl)
        try simp only [Act.put, List.setIfInBounds_toArray, List.set_cons_zero, List.set_cons_succ]
        refine wpAnyH_take_dst (i := 2) (v := .int .i64 (j : Int)) (d := some 28) rfl rfl (by kernel_rfl) (by kernel_rfl) (by kernel_rfl) (fun _ _ _ h => h) (Or.inl ⟨by rfl, ?_⟩) hH ?_
        · (intro w' hE'; (try dsimp only at hE'); have y0 := Ext.keep hE' hc1; have y1 := Ext.keep hE' hc4; go_simp; try with_reducible rfl)
        try simp only [Act.put, List.setIfInBounds_toArray, List.set_cons_zero, List.set_cons_succ]
        refine wpAnyH_ready (rs := [3]) (by kernel_rfl) (by simp) ?_
        refine AllReadyH.cons rfl (fun K hK => ?_) AllReadyH.nil
        rw [if_pos (by rfl)]
        go_wp2_with fail; (with_reducible refine (c_l2Gives (RdSub.mk (RSg.ext HD.out (Ext.trans hEw hH))) (by omega)).mono ?_); rintro e w5 ⟨A5, n5, c5, rfl, hO5, hE5⟩; have hX5 := Ext.trans hH hE5; have hz5 := hE5.size
        refine hK.out _ _ (hX5) (fun hH9 => ?_)
        clear hK; have hH0 := hH; clear hH; have hH := hH9; clear hH9
        try simp only [Act.put, List.setIfInBounds_toArray, List.set_cons_zero, List.set_cons_succ]
        refine wpAnyH_ready (rs := [4]) (by kernel_rfl) (by simp) ?_
        refine AllReadyH.cons rfl (fun K hK => ?_) AllReadyH.nil
        rw [if_pos (by rfl)]
        go_wp2_with fail; (with_reducible refine (c_l2FilledO HFO.out HSO.out HG.out (RdSub.mk (RSg.ext HM.out (Ext.trans hE hH))) hO5.ri).mono ?_); rintro e w6 ⟨A6, n6, c6, rfl, hO6, hE6⟩; have hX6 := Ext.trans hH hE6; have hz6 := hH.size
        refine hK.out _ _ (hX6) (fun hH9 => ?_)
        clear hK; have hH0 := hH; clear hH; have hH := hH9; clear hH9
        try simp only [Act.put, List.setIfInBounds_toArray, List.set_cons_zero, List.set_cons_succ]
        refine wpAnyH_take_dst (i := 5) (v := .tuple #[.slice A6 n6 c6, .bool fo.isSome]) (d := some 25) rfl rfl (by kernel_rfl) (by kernel_rfl) (by kernel_rfl) (fun _ _ _ h => h) (Or.inl ⟨by rfl, ?_⟩) hH ?_
        · (intro w' hE'; (try dsimp only at hE'); have y0 := Ext.keep hE' hc1; have y1 := Ext.keep hE' hc4; go_simp; try with_reducible rfl)
        try simp only [Act.put, List.setIfInBounds_toArray, List.set_cons_zero, List.set_cons_succ]
        refine wpAnyH_take_dst (i := 6) (v := .slice A6 n6 c6) (d := some 31) rfl rfl (by kernel_rfl) (by kernel_rfl) (by kernel_rfl) (fun _ _ _ h => h) (Or.inl ⟨by rfl, ?_⟩) hH ?_
        · (intro w' hE'; (try dsimp only at hE'); have y0 := Ext.keep hE' hc1; have y1 := Ext.keep hE' hc4; go_simp; try with_reducible rfl)
        try simp only [Act.put, List.setIfInBounds_toArray, List.set_cons_zero, List.set_cons_succ]
        refine wpAnyH_take_dst (i := 7) (v := .bool fo.isSome) (d := some 32) rfl rfl (by kernel_rfl) (by kernel_rfl) (by kernel_rfl) (fun _ _ _ h => h) (Or.inl ⟨by rfl, ?_⟩) hH ?_
        · (intro w' hE'; (try dsimp only at hE'); have y0 := Ext.keep hE' hc1; have y1 := Ext.keep hE' hc4; go_simp; try with_reducible rfl)
        try simp only [Act.put, List.setIfInBounds_toArray, List.set_cons_zero, List.set_cons_succ]
        refine wpAnyH_take_dst (i := 8) (v := .slice A6 n6 c6) (d := some 11) rfl rfl (by kernel_rfl) (by kernel_rfl) (by kernel_rfl) (fun _ _ _ h => h) (Or.inl ⟨by rfl, ?_⟩) hH ?_
        · (intro w' hE'; (try dsimp only at hE'); have y0 := Ext.keep hE' hc1; have y1 := Ext.keep hE' hc4; go_simp; try with_reducible rfl)
        try simp only [Act.put, List.setIfInBounds_toArray, List.set_cons_zero, List.set_cons_succ]
        refine wpAnyH_take_dst (i := 9) (v := .bool fo.isSome) (d := some 12) rfl rfl (by kernel_rfl) (by kernel_rfl) (by kernel_rfl) (fun _ _ _ h => h) (Or.inl ⟨by rfl, ?_⟩) hH ?_
        · (intro w' hE'; (try dsimp only at hE'); have y0 := Ext.keep hE' hc1; have y1 := Ext.keep hE' hc4; go_simp; try with_reducible rfl)
        try simp only [Act.put, List.setIfInBounds_toArray, List.set_cons_zero, List.set_cons_succ]
        refine wpAnyH_done (by kernel_rfl) ?_ _
        exact ⟨A5, n5, c5, A6, n6, c6, by rfl, hO6.lower (by omega), hH⟩
      obtain ⟨A5, n5, c5, A6, n6, c6, ha, ⟨hO6, hE6⟩⟩ := hR
      simp only [Act.put, List.setIfInBounds_toArray, List.set_cons_zero, List.set_cons_succ] at ha
      subst ha
      have HR7 := Lib.hid (HR.out.ext hE6)
      have HO6 := Lib.hid (hO6.lower (B' := w4.heap.size) hsz)
      have hEw7 := Ext.trans hEw hE6
      have hx2 := Ext.keep hE6 hc2
      have hxf : ∀ i, w7.frozen? ⟨w.heap.size + 1, i, none⟩ = false := fun i => (Below.frozen (p := ⟨w.heap.size + 1, i, none⟩) hE6 (by show w.heap.size + 1 < wr.heap.size; omega)).trans (hcf2 i)
      have hsz7 := hE6.size
      have hbx7 : w7.cell? ⟨w4.heap.size, 0, none⟩ = some (.slice A j c) := cell_of_row _ _ _ _ _ (0, 0) HR7.out.bx
      have hlt7 := HR7.out.lt
      clear hO6
      cases fo with
      | none =>
        simp only [Option.isSome_none]
        go_wp2_with fail
        refine bodyPost_ret (v := .tuple #[.agg #[.slice none 0 0], .bool false]) (by simp [results, Try.results94, go_sem, hx2, hxf]) rfl ?_
        exact NewBd.no (Ext.set hEw7 (by show w.heap.size ≤ w.heap.size + 1; omega) _)
      | some u =>
        have HU := Lib.hid (show u = fill (gives (oneS (-1 - (k : Int)) t)) (gives τ (-1 - (j : Int))) ∧ (fill (gives (oneS (-1 - (k : Int)) t)) (gives τ (-1 - (j : Int)))).length ≤ 60 by
          have h := HFO.out
          unfold fillO at h
          split at h
          · cases h; exact ⟨rfl, by assumption⟩
          · cases h)
        have HO8 := Lib.hid (show OwI w7 w4.heap.size A6 n6 c6 u from HO6.out)
        have HL8 := Lib.hid (show ∀ i : Nat, i < j + 1 → (fill (gives (oneS (-1 - (k : Int)) t)) (gives τ (-1 - (i : Int)))).length ≤ 60 from fun i hi => by
          rcases Nat.lt_or_ge i j with h | h
          · exact hL.out i h
          · obtain rfl : i = j := by omega
            exact HU.out.2)
        simp only [Option.isSome_some]
        obtain ⟨cs, hrow, hcl, hel⟩ := HR7.out.row
        have HROW := Lib.hid hrow
        have HCL := Lib.hid hcl
        have HEL := Lib.hid hel
        have hrow2 := Lib.hid (ownsRow_heap (w' := w7.alloc (.cells #[.slice A6 n6 c6] 22)) hrow (fun b e => ((Ext.refl _).alloc _).block b (ownsRow_at hrow e).2.1))
        clear hrow hcl hel
        go_wp2_with (at_builtin; go_loud (refine wpList_append_lies _ rfl (.tmp 37) (.tmp 39) 29 rfl w4.heap.size 22 i0 (.slice none 0 0) 1 24 Try.underlying29 hii hiz his hib rfl (by decide) _ j _ rfl hrow2.out ⟨w7.heap.size, 0, none⟩ 1 1 [.slice A6 n6 c6] rfl rfl (one_cells' (w := w7) (by simp) _ _) (by intro u hu; simp at hu; subst hu; rfl) (by decide) (by unfold maxLen; omega) (by omega) (by simp; omega) _ rfl ?_))
        intro g4 cap wx hown hg hat hltg
        have HP := Lib.hid (RowQ.push (q := 0) HR7.out (by decide) (by decide) (by decide) (fun v v' => rfl) HROW.out HCL.out HEL.out (new := [.slice A6 n6 c6]) (yss := [u]) rfl (fun i xs hx => by
          cases i with
          | zero => cases hx; exact ⟨_, _, _, rfl, HO8.out⟩
          | succ i => simp at hx) hown hg)
        have hbxx : wx.heap[w4.heap.size]? = some (.cells #[.slice A j c] 55 (0, 0)) := (hg.block w4.heap.size (by simp; omega) (fun e => by
          obtain ⟨_, _, cur, h2⟩ := ownsRow_at HROW.out e.symm
          rw [HR7.out.bx] at h2; cases h2)).trans ((((Ext.refl w7).alloc _).block w4.heap.size HR7.out.lt).trans HR7.out.bx)
        have hcx : wx.cell? ⟨w4.heap.size, 0, none⟩ = some (.slice A j c) := cell_of_row _ _ _ _ _ (0, 0) hbxx
        have hfx : ∀ i, wx.frozen? ⟨w4.heap.size, i, none⟩ = false := fun i => frozen_of_row _ _ _ _ _ hbxx
        clear hown hg hat hbxx
        go_wp2_with fail
        go_roundw
        case rel => exact ⟨j + 1, by go_num, by omega, Lib.hid ⟨_, _, by rw [HPS.out, ← HU.out.1]; exact HP.out⟩, HL8⟩
        case measure => simp only [intOf]; omega
    · obtain rfl : j = 24 := by omega
      have HFI := Lib.hid (rso_of (lo := w.heap.size) (show w.heap.size ≤ w4.heap.size by omega) (bindL_len τ (-1 - (k : Int)) t 24) (by omega) (HR.out.setLow (i := 0) hz3 (.slice A 24 c)).2)
      go_wp2_with fail
      refine bodyPost_ret (v := .tuple #[.agg #[.slice A 24 c], .bool true]) (by simp [results, Try.results94, go_sem, hc2, hcf2]) rfl ?_
      exact ⟨A, 24, c, true, rfl, fun _ => ⟨HFI.out, hL.out⟩, Ext.set hEw (by show w.heap.size ≤ w.heap.size + 1; omega) _⟩
end Go.Proofs.Ytempekmenkeigaa
