/- Terms filled, by the reference. -/
import Derived.Test.YtempekmenkeigaaTermOk
import Derived.Test.YtempekmenkeigaaDicT
import Derived.Test.YtempekmenkeigaaMgA
import Derived.Test.YtempekmenkeigaaHeld
namespace Go.Proofs.Ytempekmenkeigaa
open Go.RowKit
set_option linter.unusedSimpArgs false
set_option linter.unusedVariables false

/-- The slice value reads as these lists; off block g. -/
def RSg (w : World) (A : Option Addr) (n : Nat) (xss : List (List Int)) : Prop :=
  (xss.length = n ∧ n ≤ 4194304) ∧ ∀ (j : Nat) (xs : List Int), xss[j]? = some xs → ∃ b o A' m' c', A = some ⟨b, o, none⟩ ∧ w.cell? ⟨b, o + j, none⟩ = some (.slice A' m' c') ∧ RI w A' m' xs
section
variable {w w' : World} {A : Option Addr} {n k : Nat} {xss : List (List Int)}
theorem RSg.ext (h : RSg w A n xss) (k : Ext w w') : RSg w' A n xss :=
  ⟨h.1, fun j xs hx => by
    obtain ⟨b, o, A', m', c', e, h1, h2⟩ := h.2 j xs hx
    exact ⟨b, o, A', m', c', e, Ext.keep k h1, h2.ext k⟩⟩
theorem RSg.at_ (h : RSg w A n xss) (hk : k < n) : ∃ b o A' m' c', A = some ⟨b, o, none⟩ ∧ w.cell? ⟨b, o + k, none⟩ = some (.slice A' m' c') ∧ RI w A' m' (xss.getD k []) := by
  have hl : k < xss.length := by rw [h.1.1]; exact hk
  have hx := List.getElem?_eq_getElem hl
  obtain ⟨b, o, A', m', c', e, h1, h2⟩ := h.2 k _ hx
  exact ⟨b, o, A', m', c', e, h1, by rw [List.getD_eq_getElem?_getD, hx]; exact h2⟩
end
/-- A list of terms for variables, by value. -/
def RdSub (w : World) (v : Value) (σ : List (List Int)) : Prop := ∃ A n c, v = .agg #[.slice A n c] ∧ RSg w A n σ
theorem RdSub.mk {w : World} {A : Option Addr} {n c : Nat} {σ : List (List Int)} (h : RSg w A n σ) : RdSub w (.agg #[.slice A n c]) σ := ⟨A, n, c, rfl, h⟩
theorem RdSub.ext {w w' : World} {v : Value} {σ : List (List Int)} (h : RdSub w v σ) (k : Ext w w') : RdSub w' v σ := by
  obtain ⟨A, n, c, e, h1⟩ := h; exact ⟨A, n, c, e, h1.ext k⟩
theorem gives_len {ar : List Int} {σ : List (List Int)} (h : SubP ar σ) (x : Int) : (gives σ x).length ≤ 60 := by
  rcases h.at_ (-1 - x).toNat with h1 | h1
  · rw [gives_no h1]; simp
  · rw [gives_yes rfl (fun e => by rw [e] at h1; exact absurd h1.2.1.1 (by simp))]; exact h1.2.1.2
def fillO (σ : List (List Int)) (t : List Int) : Option (List Int) := if (fill (gives σ) t).length ≤ 60 then some (fill (gives σ) t) else none
theorem fillO_some {σ : List (List Int)} {t : List Int} (h : (fill (gives σ) t).length ≤ 60) : fillO σ t = some (fill (gives σ) t) := if_pos h
theorem fillO_none {σ : List (List Int)} {t : List Int} (h : ¬ (fill (gives σ) t).length ≤ 60) : fillO σ t = none := if_neg h
theorem fill_take (h : Int → List Int) (t : List Int) (k : Nat) : (fill h (t.take k)).length ≤ (fill h t).length := by
  conv => rhs; rw [← List.take_append_drop k t]
  rw [fill_append, List.length_append]; omega
theorem fill_snoc {h : Int → List Int} {t : List Int} {k : Nat} {x : Int} (hx : t[k]? = some x) : fill h (t.take (k + 1)) = fill h (t.take k) ++ (if x < 0 then h x else [x]) := by
  rw [take_snoc hx, fill_append, fill_cons, fill_nil, List.append_nil]
theorem OwI.fresh1 {w : World} {B H : Nat} (x : Int) (hB : B ≤ w.heap.size) (hH : w.heap.size = H) : OwI (w.alloc (.cells #[.int .i64 x] 2)) B (some ⟨H, 0, none⟩) 1 1 [x] := by
  subst hH; exact (OwI.fresh (w := w) [x] (by simp)).lower hB
/-- A list that may fail, of the call's own. -/
def NewFo (w : World) (o : Option (List Int)) (e : Ending) (w' : World) : Prop := ∃ A n c, e = .returned (.tuple #[.slice A n c, .bool o.isSome]) ∧ OwI w' w.heap.size A n c (o.getD []) ∧ Ext w w'
set_option maxRecDepth 100000 in
set_option maxHeartbeats 2000000 in
theorem c_l2Gives {v : Value} {σ : List (List Int)} {i : Nat} {w : World} (h0 : RdSub w v σ) (hi : i ≤ 1000) :
    Calls Try.prog 95 #[v, .int .i64 (i : Int)] w (NewI w (gives σ (-1 - (i : Int)))) := by
  obtain ⟨A, n, c, rfl, ha⟩ := h0
  have hn := ha.1.2
  have hlen := ha.1.1
  have HA := Lib.hid ha
  have hw1 : IntKind.i64.wrap (-1 - (i : Int)) = -1 - (i : Int) := IntWalk.i64_in _ (by omega)
  have hix : (-1 - (-1 - (i : Int))).toNat = i := by omega
  clear ha
  by_cases hlt : i < n
  · obtain ⟨b, o, A1, m1, c1, rfl, hc1, hr1⟩ := RSg.at_ HA.out hlt
    have HR := Lib.hid hr1
    have hl := hr1.len
    have hlti : (i : Int) < (n : Int) := by omega
    have hi0 : (0 : Int) ≤ (i : Int) := by omega
    have hbl := World.block_lt_of_cell? w _ hc1
    clear hr1 hlen
    by_cases h0 : σ.getD i [] = []
    · have HG := Lib.hid (show gives σ (-1 - (i : Int)) = [-1 - (i : Int)] from gives_no (by rw [hix]; exact h0))
      rw [h0] at hl
      obtain rfl : m1 = 0 := by simpa using hl.symm
      clear hix
      go_enter Try.func95, Try.ntmps95
      go_wp2
      go_ret
      rw [HG.out]
      exact ⟨_, 1, 1, rfl, OwI.fresh1 _ (by go_size) (by go_size), by exact extX⟩
    · have HG := Lib.hid (show gives σ (-1 - (i : Int)) = σ.getD i [] from gives_yes (by rw [hix]) h0)
      have h1 : 0 < m1 := by
        rcases Nat.eq_zero_or_pos m1 with h2 | h2
        · exact absurd (List.length_eq_zero_iff.1 (by omega)) h0
        · exact h2
      have h1i : (m1 : Int) > 0 := by omega
      clear hix
      go_enter Try.func95, Try.ntmps95
      go_wp2_with fail
      (with_reducible refine (c_l1Copy (RI.ext HR.out (by exact extX))).mono ?_)
      rintro e w2 ⟨A2, n2, c2, rfl, hO2, hE2⟩
      have HO2 := Lib.hid hO2
      clear hO2
      go_wp2
      go_ret
      rw [HG.out]
      exact ⟨A2, n2, c2, rfl, HO2.out.lower (by go_size), by exact extX⟩
  · have h0 : σ.getD i [] = [] := by rw [List.getD_eq_getElem?_getD, List.getElem?_eq_none (by omega)]; rfl
    have HG := Lib.hid (show gives σ (-1 - (i : Int)) = [-1 - (i : Int)] from gives_no (by rw [hix]; exact h0))
    clear h0 hix hlen
    go_enter Try.func95, Try.ntmps95
    go_wp2
    go_ret
    rw [HG.out]
    exact ⟨_, 1, 1, rfl, OwI.fresh1 _ (by go_size) (by go_size), by exact extX⟩
theorem c_l2GivesX {v : Value} {σ : List (List Int)} {x : Int} {w : World} (h0 : RdSub w v σ) (hx : x < 0) (hx2 : -1000 ≤ x) :
    Calls Try.prog 95 #[v, .int .i64 (-1 - x)] w (NewI w (gives σ x)) := by
  obtain ⟨i, hi⟩ := Int.eq_ofNat_of_zero_le (show 0 ≤ -1 - x by omega)
  obtain rfl : x = -1 - (i : Int) := by omega
  rw [show -1 - (-1 - (i : Int)) = (i : Int) by omega]
  exact c_l2Gives h0 (by omega)
set_option maxRecDepth 100000 in
set_option maxHeartbeats 4000000 in
theorem c_l2Filled {v : Value} {A : Option Addr} {n c : Nat} {ar : List Int} {σ : List (List Int)} {t : List Int} {w : World} (hσ : SubP ar σ) (ht : TermP ar t) (h0 : RdSub w v σ) (h1 : RI w A n t) :
    Calls Try.prog 92 #[v, .slice A n c] w (NewFo w (fillO σ t)) := by
  obtain ⟨B, m, d, rfl, hb⟩ := h0
  have HB := Lib.hid hb
  have HA := Lib.hid h1
  have HS := Lib.hid hσ
  have HV := Lib.hid ht.2.2.1
  have hn := h1.len
  have hn60 : n ≤ 60 := by rw [← hn]; exact ht.2.1.2
  obtain ⟨i0, hii, hiz, his, hib⟩ := info_parts int64_info
  have HN := Lib.hid hn
  clear hb h1 hσ ht hn
  go_enter Try.func92, Try.ntmps92
  go_wp2_with fail
  obtain ⟨w1, hw1⟩ : ∃ w1, w1 = w.alloc (.cells #[.slice B m d] 55) := ⟨_, rfl⟩
  have hb1 : w1.cell? ⟨w.heap.size, 0, none⟩ = some (.slice B m d) := by rw [hw1]; simp [go_sem]
  have hE1 : Ext w w1 := by rw [hw1]; exact extX
  have hz1 : w1.heap.size = w.heap.size + 1 := by rw [hw1]; simp [go_sem]
  rw [← hw1, ← hz1]
  have HZ1 := Lib.hid hz1
  have hz2 : w.heap.size + 1 ≤ w1.heap.size := by omega
  clear hw1 hz1
  go_loopw [6, 7] (fun ov kv wr => ∃ k : Nat, kv = .int .i64 k ∧ k ≤ n ∧ (∃ A9 n9 c9, ov = .slice A9 n9 c9 ∧ n9 ≤ 60 ∧ Hid (OwI wr w1.heap.size A9 n9 c9 (fill (gives σ) (t.take k)))) ∧ Ext w1 wr) (fun _ kv _ => n - (intOf kv).toNat)
  case atStart => exact ⟨0, rfl, Nat.zero_le _, ⟨_, 0, 0, rfl, by omega, Lib.hid (OwI.none0 (Nat.le_refl _))⟩, (Ext.refl _).alloc _⟩
  case round =>
    obtain ⟨k, rfl, hk, ⟨A9, n9, c9, rfl, hn9, hO⟩, hE⟩ := hrel
    have hw : Ext w wr := Ext.trans hE1 hE
    have hcp := hO.out.cap
    have hsz := hE.size
    have hl9 := hO.out.len
    by_cases hlt : k < n
    · obtain ⟨b, o, x, rfl, hx, hcx1⟩ := RI.at_ (RI.ext HA.out hE1) hlt
      have hv24 := HV.out x (List.mem_of_getElem? hx)
      have hki : (k : Int) < (n : Int) := by omega
      have hk0 : (0 : Int) ≤ (k : Int) := by omega
      have HX := Lib.hid hx
      have HSN := Lib.hid (fill_snoc (h := gives σ) hx)
      have HTK := Lib.hid (fill_take (gives σ) t (k + 1))
      have hcx := Ext.keep hE hcx1
      have hb0 := Ext.keep hE hb1
      clear hx
      by_cases hx0 : x < 0
      · have hw1 : IntKind.i64.wrap (-1 - x) = -1 - x := IntWalk.i64_in _ (by omega)
        have hgl := gives_len HS.out x
        have HGL := Lib.hid hgl
        clear hgl
        have HBB := Lib.hid (RSg.ext HB.out hE1)
        go_wp2_with fail
        refine wp_only (R := fun (a0 : Act) (a8 : Act) (w9 : World) => ∃ (A5 : Option Addr) (n5 : Nat) (c5 : Nat) (A8 : Option Addr) (c8 : Nat), a8 = ((((((((((a0.put (some 20) (.slice A9 n9 c9)).put (some 21) (.agg #[.slice B m d])).put (some 22) (.slice (some ⟨b, o, none⟩) n c)).put (some 23) (.int .i64 (k : Int))).put (some 24) (.pointer (some ⟨b, o + k, none⟩))).put (some 25) (.int .i64 x)).put (some 26) (.int .i64 (-1 - x))).put (some 27) (.slice A5 n5 c5)).put (some 28) (.slice A8 (n9 + n5) c8)).put (some 6) (.slice A8 (n9 + n5) c8)) ∧ OwI w9 w1.heap.size A8 (n9 + n5) c8 (fill (gives σ) (t.take k) ++ gives σ x) ∧ n5 ≤ 60 ∧ Ext w1 w9) ?_ (fun a8 w5 hR => ?_)
        · refine wp_region_held_drew (S := (fun w' => Ext w1 w')) (by kernel_rfl) (hE.drew) (fun hH => ?_)
          refine wpAnyH_take_dst (i := 0) (v := .slice A9 n9 c9) (d := some 20) rfl rfl (by kernel_rfl) (by kernel_rfl) (by kernel_rfl) (fun _ _ _ h => h) (Or.inl ⟨by rfl, ?_⟩) hH ?_
          · (intro w' hE'; (try dsimp only at hE'); have y0 := Ext.keep hE' hb1; have y1 := Ext.keep hE' hcx1; go_simp; try with_reducible rfl)
          try simp only [Act.put, List.setIfInBounds_toArray, List.set_cons_zero, List.set_cons_succ]
          refine wpAnyH_take_dst (i := 1) (v := .agg #[.slice B m d]) (d := some 21) rfl rfl (by kernel_rfl) (by kernel_rfl) (by kernel_rfl) (fun _ _ _ h => h) (Or.inl ⟨by rfl, ?_⟩) hH ?_
          · (intro w' hE'; (try dsimp only at hE'); have y0 := Ext.keep hE' hb1; have y1 := Ext.keep hE' hcx1; go_simp; try with_reducible rfl)
          try simp only [Act.put, List.setIfInBounds_toArray, List.set_cons_zero, List.set_cons_succ]
          refine wpAnyH_take_dst (i := 2) (v := .slice (some ⟨b, o, none⟩) n c) (d := some 22) rfl rfl (by kernel_rfl) (by kernel_rfl) (by kernel_rfl) (fun _ _ _ h => h) (Or.inl ⟨by rfl, ?_⟩) hH ?_
          · (intro w' hE'; (try dsimp only at hE'); have y0 := Ext.keep hE' hb1; have y1 := Ext.keep hE' hcx1; go_simp; try with_reducible rfl)
          try simp only [Act.put, List.setIfInBounds_toArray, List.set_cons_zero, List.set_cons_succ]
          refine wpAnyH_take_dst (i := 3) (v := .int .i64 (k : Int)) (d := some 23) rfl rfl (by kernel_rfl) (by kernel_rfl) (by kernel_rfl) (fun _ _ _ h => h) (Or.inl ⟨by rfl, ?_⟩) hH ?_
          · (intro w' hE'; (try dsimp only at hE'); have y0 := Ext.keep hE' hb1; have y1 := Ext.keep hE' hcx1; go_simp; try with_reducible rfl)
          try simp only [Act.put, List.setIfInBounds_toArray, List.set_cons_zero, List.set_cons_succ]
          refine wpAnyH_take_dst (i := 4) (v := .pointer (some ⟨b, o + k, none⟩)) (d := some 24) rfl rfl (by kernel_rfl) (by kernel_rfl) (by kernel_rfl) (fun _ _ _ h => h) (Or.inl ⟨by rfl, ?_⟩) hH ?_
          · (intro w' hE'; (try dsimp only at hE'); have y0 := Ext.keep hE' hb1; have y1 := Ext.keep hE' hcx1; go_simp; try with_reducible rfl)
          try simp only [Act.put, List.setIfInBounds_toArray, List.set_cons_zero, List.set_cons_succ]
          refine wpAnyH_take_dst (i := 5) (v := .int .i64 x) (d := some 25) rfl rfl (by kernel_rfl) (by kernel_rfl) (by kernel_rfl) (fun _ _ _ h => h) (Or.inl ⟨by rfl, ?_⟩) hH ?_
          · (intro w' hE'; (try dsimp only at hE'); have y0 := Ext.keep hE' hb1; have y1 := Ext.keep hE' hcx1; go_simp; try with_reducible rfl)
          try simp only [Act.put, List.setIfInBounds_toArray, List.set_cons_zero, List.set_cons_succ]
          refine wpAnyH_take_dst (i := 6) (v := .int .i64 (-1 - x)) (d := some 26) rfl rfl (by kernel_rfl) (by kernel_rfl) (by kernel_rfl) (fun _ _ _ h => h) (Or.inl ⟨by rfl, ?_⟩) hH ?_
          · (intro w' hE'; (try dsimp only at hE'); have y0 := Ext.keep hE' hb1; have y1 := Ext.keep hE' hcx1; go_simp; try with_reducible rfl)
          try simp only [Act.put, List.setIfInBounds_toArray, List.set_cons_zero, List.set_cons_succ]
          refine wpAnyH_ready (rs := [7]) (by kernel_rfl) (by simp) ?_
          refine AllReadyH.cons rfl (fun K hK => ?_) AllReadyH.nil
          rw [if_pos (by rfl)]
          go_wp2_with fail
          (with_reducible refine (c_l2GivesX (RdSub.mk (RSg.ext HBB.out hH)) hx0 (by omega)).mono ?_)
          rintro e w9 ⟨A5, n5, c5, rfl, hO5, hE9⟩
          refine hK.out _ _ (Ext.trans hH hE9) (fun hH9 => ?_)
          clear hK; have hH0 := hH; clear hH; have hH := hH9; clear hH9
          try simp only [Act.put, List.setIfInBounds_toArray, List.set_cons_zero, List.set_cons_succ]
          refine wpAnyH_ready (rs := [8]) (by kernel_rfl) (by simp) ?_
          refine AllReadyH.cons rfl (fun K hK => ?_) AllReadyH.nil
          rw [if_pos (by rfl)]
          have hl5 := hO5.len; have hg5 := HGL.out; have hsz5 := hH.size; have hO9b := (OwI.ext (hO.out.drewN 1) hE9); refine wp_append_ints (.tmp 20) (.tmp 27) 22 rfl i0 Try.underlying22 hii hiz his hib (D := w1.heap.size) rfl hO9b rfl hO5.ri (by omega) hsz5 hcp.1 (fun A8 c8 w92 hO92 hg92 hat92 => ?_)
          refine hK.out _ _ (Ext.grown hH hg92 (fun b hb => (OwI.ob2 hO9b b hb).1)) (fun hH9 => ?_)
          clear hK; have hH0 := hH; clear hH; have hH := hH9; clear hH9
          try simp only [Act.put, List.setIfInBounds_toArray, List.set_cons_zero, List.set_cons_succ]
          refine wpAnyH_take_dst (i := 9) (v := .slice A8 (n9 + n5) c8) (d := some 6) rfl rfl (by kernel_rfl) (by kernel_rfl) (by kernel_rfl) (fun _ _ _ h => h) (Or.inl ⟨by rfl, ?_⟩) hH ?_
          · (intro w' hE'; (try dsimp only at hE'); have y0 := Ext.keep hE' hb1; have y1 := Ext.keep hE' hcx1; go_simp; try with_reducible rfl)
          try simp only [Act.put, List.setIfInBounds_toArray, List.set_cons_zero, List.set_cons_succ]
          refine wpAnyH_done (by kernel_rfl) ?_ _
          exact ⟨A5, n5, c5, A8, c8, by rfl, hO92, (by omega), hH⟩
        obtain ⟨A5, n5, c5, A8, c8, ha, ⟨hO5, hn5, hE5⟩⟩ := hR
        simp only [Act.put, List.setIfInBounds_toArray, List.set_cons_zero, List.set_cons_succ] at ha
        subst ha
        have HO5 := Lib.hid (show OwI w5 w1.heap.size A8 (n9 + n5) c8 (fill (gives σ) (t.take (k + 1))) by rw [HSN.out, if_pos (by omega)]; exact hO5)
        have hl5 := HO5.out.len
        clear hO5
        by_cases h60 : n9 + n5 ≤ 60
        · have h60i : ¬ (((n9 + n5 : Nat) : Int) > 60) := by omega
          go_wp2_with fail
          go_roundw
          case rel => exact ⟨k + 1, by go_num, by omega, ⟨_, _, _, rfl, h60, HO5⟩, hE5⟩
          case measure => simp only [intOf]; omega
        · have h60i : ((n9 + n5 : Nat) : Int) > 60 := by omega
          have HNO := Lib.hid (show fillO σ t = none from fillO_none (by have := HTK.out; omega))
          go_wp2_with fail
          refine bodyPost_ret (v := .tuple #[.slice (some ⟨w5.heap.size, 0, none⟩) 0 0, .bool false]) (by simp [results, Try.results92, go_sem]) rfl ?_
          rw [HNO.out]
          exact ⟨_, 0, 0, rfl, (OwI.none0 (Nat.le_refl _)).lower (by have := hE5.size; have := hE1.size; omega), Ext.trans hE1 (hE5.alloc _)⟩
      · have HO := Lib.hid hO.out
        go_wp2_with (at_builtin; go_loud (refine wpList_append_lies _ rfl (.tmp 29) (.tmp 34) 22 rfl w1.heap.size 2 i0 (.int .i64 0) 1 8 Try.underlying22 hii hiz his hib rfl (by decide) _ _ _ rfl (OwI.alloc HO.out _).2 ⟨wr.heap.size, 0, none⟩ 1 1 [.int .i64 x] rfl rfl (one_cells _ _ _) (one_one _) (by decide) (by unfold maxLen; omega) (by omega) (by go_size) _ rfl ?_))
        intro g4 cap wx hown hg hat hltg
        have HON := Lib.hid (show OwI wx w1.heap.size (some ⟨g4, 0, none⟩) (n9 + 1) cap (fill (gives σ) (t.take (k + 1))) from ⟨by omega, by rw [HSN.out, if_neg (by omega)]; simpa using hown⟩)
        have hob := OwI.ob2 HO.out
        have hEx : Ext w1 wx := Ext.grown (hE.alloc _) hg (fun b hb => (hob b hb).1)
        have hl5 := HON.out.len
        clear hown hg hat hob
        by_cases h60 : n9 + 1 ≤ 60
        · have h60i : ¬ (((n9 + 1 : Nat) : Int) > 60) := by omega
          go_wp2_with fail
          go_roundw
          case rel => exact ⟨k + 1, by go_num, by omega, ⟨_, _, _, rfl, h60, HON⟩, hEx⟩
          case measure => simp only [intOf]; omega
        · have h60i : ((n9 + 1 : Nat) : Int) > 60 := by omega
          have HNO := Lib.hid (show fillO σ t = none from fillO_none (by have := HTK.out; omega))
          go_wp2_with fail
          refine bodyPost_ret (v := .tuple #[.slice (some ⟨wx.heap.size, 0, none⟩) 0 0, .bool false]) (by simp [results, Try.results92, go_sem]) rfl ?_
          rw [HNO.out]
          exact ⟨_, 0, 0, rfl, (OwI.none0 (Nat.le_refl _)).lower (by have := hEx.size; have := hE1.size; omega), Ext.trans hE1 (hEx.alloc _)⟩
    · obtain rfl : k = n := by omega
      have HT := Lib.hid (show t.take k = t from List.take_of_length_le (by have := HN.out; omega))
      have HO := Lib.hid (show OwI wr w1.heap.size A9 n9 c9 (fill (gives σ) t) by have h := hO.out; rwa [HT.out] at h)
      have hl := HO.out.len
      have HSO := Lib.hid (show fillO σ t = some (fill (gives σ) t) from fillO_some (by omega))
      go_wp2_with fail
      refine bodyPost_ret (v := .tuple #[.slice A9 n9 c9, .bool true]) (by simp [results, Try.results92, go_sem]) rfl ?_
      rw [HSO.out]
      exact ⟨A9, n9, c9, rfl, HO.out.lower (by have := hE1.size; omega), hw⟩

end Go.Proofs.Ytempekmenkeigaa
