/- The reference's: two terms made one, and apart. -/
import Derived.Test.YtempekmenkeigaaUfC
namespace Go.Proofs.Ytempekmenkeigaa
open Go.RowKit
set_option linter.unusedSimpArgs false
set_option linter.unusedVariables false

/-- A list and whether there is one; if so, what it is good for. -/
def NewUa (w : World) (P : Prop) (e : Ending) (w' : World) : Prop := ∃ (A : Option Addr) (n c : Nat) (d : Bool), e = .returned (.tuple #[.agg #[.slice A n c], .bool d]) ∧ (d = true → P) ∧ Ext w w'
theorem NewUa.no {w w' : World} {P : Prop} (k : Ext w w') : NewUa w P (.returned (.tuple #[.agg #[.slice none 0 0], .bool false])) w' :=
  ⟨none, 0, 0, false, rfl, (fun h => by cases h), k⟩
set_option maxRecDepth 100000 in
set_option maxHeartbeats 8000000 in
theorem c_Unified {v0 : Value} {ar a b : List Int} {PA PB : Option Addr} {n c m d : Nat} {w : World} (h0 : RdSig w v0 ar) (h1 : RI w PA n a) (h2 : RI w PB m b) (ha : TermP ar a) :
    Calls Try.prog 46 #[v0, .slice PA n c, .slice PB m d] w (NewUa w (∃ τ, SubP ar τ ∧ fill (gives τ) a = fill (gives τ) b)) := by
  obtain ⟨SA, sn, sc, rfl, hs⟩ := h0
  have HS := Lib.hid hs
  have HA := Lib.hid h1
  have HB := Lib.hid h2
  have HTA := Lib.hid ha
  have HOA := Lib.hid (termOk_iff.2 ha)
  clear hs h1 h2 ha
  go_enter Try.func46, Try.ntmps46
  go_wp2_with fail
  obtain ⟨w1, hw1⟩ : ∃ w1, w1 = (w.alloc (.cells #[.slice SA sn sc] 31)).alloc (.cells #[.slice none 0 0] 55) := ⟨_, rfl⟩
  have hs0 : w1.cell? ⟨w.heap.size, 0, none⟩ = some (.slice SA sn sc) := by rw [hw1]; simp [go_sem]
  have hr0 : w1.cell? ⟨w.heap.size + 1, 0, none⟩ = some (.slice none 0 0) := by rw [hw1]; simp [go_sem]
  have hf0 : w1.frozen? ⟨w.heap.size + 1, 0, none⟩ = false := by rw [hw1]; simp [go_sem]
  have hE1 : Ext w w1 := by rw [hw1]; exact extX
  have hz1 : w.heap.size + 1 < w1.heap.size := by rw [hw1]; simp [go_sem]
  rw [← hw1]
  clear hw1
  (with_reducible refine (c_sTermOk' (t := a) HOA.out (RdSig.mk (RI.ext HS.out hE1)) (RdI.mk (RI.ext HA.out hE1))).mono ?_)
  rintro e w2 ⟨rfl, hE2⟩
  have hs2 := Ext.keep hE2 hs0
  have hE02 := Ext.trans hE1 hE2
  cases hb : termOk ar b with
  | false =>
    have HOB := Lib.hid hb
    clear hb
    go_wp2_with fail
    (with_reducible refine (c_sTermOk' (t := b) HOB.out (RdSig.mk (RI.ext HS.out hE02)) (RdI.mk (RI.ext HB.out hE02))).mono ?_)
    rintro e w3 ⟨rfl, hE3⟩
    have hE13 := Ext.trans hE2 hE3
    have hr3 := Ext.keep hE13 hr0
    have hf3 := (Below.frozen (p := ⟨w.heap.size + 1, 0, none⟩) hE13 hz1).trans hf0
    go_wp2_with fail
    refine bodyPost_ret (v := .tuple #[.agg #[.slice none 0 0], .bool false]) (by simp [results, Try.results46, go_sem, hr3, hf3]) rfl ?_
    exact NewUa.no (Ext.set (Ext.trans hE1 hE13) (p := ⟨w.heap.size + 1, 0, none⟩) (by show w.heap.size ≤ w.heap.size + 1; omega) _)
  | true =>
    have HOB := Lib.hid hb
    have HTB := Lib.hid (termOk_iff.1 hb)
    clear hb
    go_wp2_with fail
    (with_reducible refine (c_sTermOk' (t := b) HOB.out (RdSig.mk (RI.ext HS.out hE02)) (RdI.mk (RI.ext HB.out hE02))).mono ?_)
    rintro e w3 ⟨rfl, hE3⟩
    have hE13 := Ext.trans hE2 hE3
    have hE03 := Ext.trans hE1 hE13
    have hs3 := Ext.keep hE13 hs0
    clear hs2
    go_wp2_with fail
    (with_reducible refine (c_l5Unify (RdSig.mk (RI.ext HS.out hE03)) (RI.ext HA.out hE03) (RI.ext HB.out hE03) HTA.out HTB.out).mono ?_)
    rintro e w4 ⟨A4, n4, c4, d4, rfl, hU4, hE4⟩
    have HU4 := Lib.hid hU4
    have hE14 := Ext.trans hE13 hE4
    have hE04 := Ext.trans hE1 hE14
    have hr4 := Ext.keep hE14 hr0
    have hf4 := (Below.frozen (p := ⟨w.heap.size + 1, 0, none⟩) hE14 hz1).trans hf0
    have hz4 : w.heap.size + 1 < w4.heap.size := World.block_lt_of_cell? w4 _ hr4
    clear hU4
    cases d4 with
    | false =>
      have hcz : ((w4.setCell ⟨w.heap.size + 1, 0, none⟩ (.slice none 0 0)).alloc (.cells #[.slice A4 n4 c4] 55)).cell? ⟨w.heap.size + 1, 0, none⟩ = some (.slice none 0 0) := (World.cell?_alloc_past _ _ _ (by simp; omega)).trans (World.cell?_setCell_same _ _ _ hr4)
      go_wp2_with fail
      refine bodyPost_ret (v := .tuple #[.agg #[.slice none 0 0], .bool false]) (by simp [results, Try.results46, go_sem, hcz]) rfl ?_
      exact NewUa.no (by first | exact (Ext.set hE04 (p := ⟨w.heap.size + 1, 0, none⟩) (by show w.heap.size ≤ w.heap.size + 1; omega) _).alloc _ | exact Ext.set (hE04.alloc _) (p := ⟨w.heap.size + 1, 0, none⟩) (by show w.heap.size ≤ w.heap.size + 1; omega) _)
    | true =>
      obtain ⟨τ, hR4, hP4, hF4⟩ := HU4.out rfl
      have HR4 := Lib.hid (hR4.ext ((Ext.refl w4).alloc (.cells #[.slice A4 n4 c4] 55)))
      have HP4 := Lib.hid hP4
      have HF4 := Lib.hid hF4
      have HN4 := Lib.hid (show τ.length ≤ 24 from hP4.1)
      clear hR4 hP4 hF4
      go_wp2_with fail
      (with_reducible refine (c_l2Plain (n0 := τ.length) (RdSub.mk HR4.out) rfl HN4.out).mono ?_)
      rintro e w6 ⟨A6, n6, c6, σ, rfl, hR6, hPL, hE6⟩
      have hE46 : Ext w4 w6 := Ext.trans ((Ext.refl w4).alloc _) hE6
      have hE16 := Ext.trans hE14 hE46
      have hr6 := Ext.keep hE16 hr0
      have hf6 := (Below.frozen (p := ⟨w.heap.size + 1, 0, none⟩) hE16 hz1).trans hf0
      clear hR6 hPL
      go_wp2_with fail
      refine bodyPost_ret (v := .tuple #[.agg #[.slice A6 n6 c6], .bool true]) (by simp [results, Try.results46, go_sem, hr6, hf6]) rfl ?_
      exact ⟨A6, n6, c6, true, rfl, fun _ => ⟨τ, HP4.out, HF4.out⟩, Ext.set (Ext.trans hE1 hE16) (p := ⟨w.heap.size + 1, 0, none⟩) (by show w.heap.size ≤ w.heap.size + 1; omega) _⟩
set_option maxRecDepth 100000 in
set_option maxHeartbeats 8000000 in
theorem c_UnifiedApart {v0 : Value} {ar a b : List Int} {PA PB : Option Addr} {n c m d : Nat} {w : World} (h0 : RdSig w v0 ar) (h1 : RI w PA n a) (h2 : RI w PB m b) (ha : TermP ar a) (hb : TermP ar b) (har : ar.length ≤ 1000) :
    Calls Try.prog 20 #[v0, .slice PA n c, .slice PB m d] w (NewUa w (∃ τ k, SubP ar τ ∧ 0 ≤ k ∧ fill (gives τ) a = fill (gives τ) (shL k b))) := by
  obtain ⟨SA, sn, sc, rfl, hs⟩ := h0
  have HS := Lib.hid hs
  have HA := Lib.hid h1
  have HB := Lib.hid h2
  have HTA := Lib.hid ha
  have HTB := Lib.hid hb
  have HOA := Lib.hid (termOk_iff.2 ha)
  have HVA := Lib.hid (show ∀ x ∈ a, -24 ≤ x ∧ x ≤ 1000 from fun x hx => ⟨ha.2.2.1 x hx, by have := ha.lt x hx; omega⟩)
  have HVB := Lib.hid (show ∀ x ∈ b, x ≤ 1000 from fun x hx => by have := hb.lt x hx; omega)
  clear hs h1 h2 ha hb
  go_enter Try.func20, Try.ntmps20
  go_wp2_with fail
  obtain ⟨w1, hw1⟩ : ∃ w1, w1 = (w.alloc (.cells #[.slice SA sn sc] 31)).alloc (.cells #[.slice none 0 0] 55) := ⟨_, rfl⟩
  have hs0 : w1.cell? ⟨w.heap.size, 0, none⟩ = some (.slice SA sn sc) := by rw [hw1]; simp [go_sem]
  have hr0 : w1.cell? ⟨w.heap.size + 1, 0, none⟩ = some (.slice none 0 0) := by rw [hw1]; simp [go_sem]
  have hf0 : w1.frozen? ⟨w.heap.size + 1, 0, none⟩ = false := by rw [hw1]; simp [go_sem]
  have hE1 : Ext w w1 := by rw [hw1]; exact extX
  have hz1 : w.heap.size + 1 < w1.heap.size := by rw [hw1]; simp [go_sem]
  rw [← hw1]
  clear hw1
  (with_reducible refine (c_sTermOk' (t := a) HOA.out (RdSig.mk (RI.ext HS.out hE1)) (RdI.mk (RI.ext HA.out hE1))).mono ?_)
  rintro e w2 ⟨rfl, hE2⟩
  have hs2 := Ext.keep hE2 hs0
  have hE02 := Ext.trans hE1 hE2
  go_wp2_with fail
  refine wp_only (R := fun (a0 : Act) (a8 : Act) (w9 : World) => ∃ (kk : Int) (A6 : Option Addr) (n6 : Nat) (c6 : Nat) (b6 : Bool), a8 = ((((((((((a0.put (some 16) (.agg #[.slice SA sn sc])).put (some 17) (.slice PB m d)).put (some 18) (.slice PA n c)).put (some 19) (.int .i64 kk)).put (some 20) (.tuple #[.slice A6 n6 c6, .bool b6])).put (some 15) (.tuple #[.slice A6 n6 c6, .bool b6])).put (some 21) (.slice A6 n6 c6)).put (some 22) (.bool b6)).put (some 8) (.slice A6 n6 c6)).put (some 9) (.bool b6)) ∧ (0 ≤ kk ∧ kk ≤ 24) ∧ (b6 = true → RI w9 A6 n6 (shL kk b)) ∧ Ext w2 w9) ?_ (fun a8 w7 hR => ?_)
  · refine wp_region_held_drew (S := (fun w' => Ext w2 w')) (by kernel_rfl) ((Ext.refl w2).drew) (fun hH => ?_)
    refine wpAnyH_take_dst (i := 0) (v := .agg #[.slice SA sn sc]) (d := some 16) rfl rfl (by kernel_rfl) (by kernel_rfl) (by kernel_rfl) (fun _ _ _ h => h) (Or.inl ⟨by rfl, ?_⟩) hH ?_
    · (intro w' hE'; (try dsimp only at hE'); have y0 := Ext.keep hE' hs2; go_simp; try with_reducible rfl)
    try simp only [Act.put, List.setIfInBounds_toArray, List.set_cons_zero, List.set_cons_succ]
    refine wpAnyH_take_dst (i := 1) (v := .slice PB m d) (d := some 17) rfl rfl (by kernel_rfl) (by kernel_rfl) (by kernel_rfl) (fun _ _ _ h => h) (Or.inl ⟨by rfl, ?_⟩) hH ?_
    · (intro w' hE'; (try dsimp only at hE'); have y0 := Ext.keep hE' hs2; go_simp; try with_reducible rfl)
    try simp only [Act.put, List.setIfInBounds_toArray, List.set_cons_zero, List.set_cons_succ]
    refine wpAnyH_take_dst (i := 2) (v := .slice PA n c) (d := some 18) rfl rfl (by kernel_rfl) (by kernel_rfl) (by kernel_rfl) (fun _ _ _ h => h) (Or.inl ⟨by rfl, ?_⟩) hH ?_
    · (intro w' hE'; (try dsimp only at hE'); have y0 := Ext.keep hE' hs2; go_simp; try with_reducible rfl)
    try simp only [Act.put, List.setIfInBounds_toArray, List.set_cons_zero, List.set_cons_succ]
    refine wpAnyH_ready (rs := [3]) (by kernel_rfl) (by simp) ?_
    refine AllReadyH.cons rfl (fun K hK => ?_) AllReadyH.nil
    rw [if_pos (by rfl)]
    go_wp2_with fail; (with_reducible refine (c_l5Behind (RI.ext HA.out (Ext.trans hE02 hH)) HVA.out).mono ?_); rintro e w4 ⟨kk, rfl, hkk, rfl⟩
    refine hK.out _ _ (hH) (fun hH9 => ?_)
    clear hK; have hH0 := hH; clear hH; have hH := hH9; clear hH9
    try simp only [Act.put, List.setIfInBounds_toArray, List.set_cons_zero, List.set_cons_succ]
    refine wpAnyH_ready (rs := [4]) (by kernel_rfl) (by simp) ?_
    refine AllReadyH.cons rfl (fun K hK => ?_) AllReadyH.nil
    rw [if_pos (by rfl)]
    go_wp2_with fail; (with_reducible refine (c_Shifted (k := kk) (RdSig.mk (RI.ext HS.out (Ext.trans hE02 hH))) (RI.ext HB.out (Ext.trans hE02 hH)) HTB.out hkk HVB.out).mono ?_); rintro e w6 ⟨A6, n6, c6, b6, rfl, hR6, hE6⟩; have hX6 := Ext.trans hH hE6
    refine hK.out _ _ (hX6) (fun hH9 => ?_)
    clear hK; have hH0 := hH; clear hH; have hH := hH9; clear hH9
    try simp only [Act.put, List.setIfInBounds_toArray, List.set_cons_zero, List.set_cons_succ]
    refine wpAnyH_take_dst (i := 5) (v := .tuple #[.slice A6 n6 c6, .bool b6]) (d := some 15) rfl rfl (by kernel_rfl) (by kernel_rfl) (by kernel_rfl) (fun _ _ _ h => h) (Or.inl ⟨by rfl, ?_⟩) hH ?_
    · (intro w' hE'; (try dsimp only at hE'); have y0 := Ext.keep hE' hs2; go_simp; try with_reducible rfl)
    try simp only [Act.put, List.setIfInBounds_toArray, List.set_cons_zero, List.set_cons_succ]
    refine wpAnyH_take_dst (i := 6) (v := .slice A6 n6 c6) (d := some 21) rfl rfl (by kernel_rfl) (by kernel_rfl) (by kernel_rfl) (fun _ _ _ h => h) (Or.inl ⟨by rfl, ?_⟩) hH ?_
    · (intro w' hE'; (try dsimp only at hE'); have y0 := Ext.keep hE' hs2; go_simp; try with_reducible rfl)
    try simp only [Act.put, List.setIfInBounds_toArray, List.set_cons_zero, List.set_cons_succ]
    refine wpAnyH_take_dst (i := 7) (v := .bool b6) (d := some 22) rfl rfl (by kernel_rfl) (by kernel_rfl) (by kernel_rfl) (fun _ _ _ h => h) (Or.inl ⟨by rfl, ?_⟩) hH ?_
    · (intro w' hE'; (try dsimp only at hE'); have y0 := Ext.keep hE' hs2; go_simp; try with_reducible rfl)
    try simp only [Act.put, List.setIfInBounds_toArray, List.set_cons_zero, List.set_cons_succ]
    refine wpAnyH_take_dst (i := 8) (v := .slice A6 n6 c6) (d := some 8) rfl rfl (by kernel_rfl) (by kernel_rfl) (by kernel_rfl) (fun _ _ _ h => h) (Or.inl ⟨by rfl, ?_⟩) hH ?_
    · (intro w' hE'; (try dsimp only at hE'); have y0 := Ext.keep hE' hs2; go_simp; try with_reducible rfl)
    try simp only [Act.put, List.setIfInBounds_toArray, List.set_cons_zero, List.set_cons_succ]
    refine wpAnyH_take_dst (i := 9) (v := .bool b6) (d := some 9) rfl rfl (by kernel_rfl) (by kernel_rfl) (by kernel_rfl) (fun _ _ _ h => h) (Or.inl ⟨by rfl, ?_⟩) hH ?_
    · (intro w' hE'; (try dsimp only at hE'); have y0 := Ext.keep hE' hs2; go_simp; try with_reducible rfl)
    try simp only [Act.put, List.setIfInBounds_toArray, List.set_cons_zero, List.set_cons_succ]
    refine wpAnyH_done (by kernel_rfl) ?_ _
    exact ⟨kk, A6, n6, c6, b6, by rfl, hkk, fun h => (hR6 h).1, hH⟩
  obtain ⟨kk, A6, n6, c6, b6, ha, ⟨hkk, hR6, hE6⟩⟩ := hR
  simp only [Act.put, List.setIfInBounds_toArray, List.set_cons_zero, List.set_cons_succ] at ha
  subst ha
  have HR6 := Lib.hid hR6
  have HKK := Lib.hid hkk
  have hE17 := Ext.trans hE2 hE6
  have hE07 := Ext.trans hE1 hE17
  have hs7 := Ext.keep hE17 hs0
  have hr7 := Ext.keep hE17 hr0
  have hf7 := (Below.frozen (p := ⟨w.heap.size + 1, 0, none⟩) hE17 hz1).trans hf0
  clear hR6 hkk
  cases b6 with
  | false =>
    go_wp2_with fail
    refine bodyPost_ret (v := .tuple #[.agg #[.slice none 0 0], .bool false]) (by simp [results, Try.results20, go_sem, hr7, hf7]) rfl ?_
    exact NewUa.no (Ext.set hE07 (p := ⟨w.heap.size + 1, 0, none⟩) (by show w.heap.size ≤ w.heap.size + 1; omega) _)
  | true =>
    have HR7 := Lib.hid (HR6.out rfl)
    go_wp2_with fail
    (with_reducible refine (c_Unified (RdSig.mk (RI.ext HS.out hE07)) (RI.ext HA.out hE07) HR7.out HTA.out).mono ?_)
    rintro e w8 ⟨A8, n8, c8, d8, rfl, hU8, hE8⟩
    have HU8 := Lib.hid hU8
    have hE18 := Ext.trans hE17 hE8
    have hr8 := Ext.keep hE18 hr0
    have hf8 := (Below.frozen (p := ⟨w.heap.size + 1, 0, none⟩) hE18 hz1).trans hf0
    clear hU8
    go_wp2_with fail
    refine bodyPost_ret (v := .tuple #[.agg #[.slice A8 n8 c8], .bool d8]) (by simp [results, Try.results20, go_sem, hr8, hf8]) rfl ?_
    exact ⟨A8, n8, c8, d8, rfl, fun h => by obtain ⟨τ, h1, h2⟩ := HU8.out h; exact ⟨τ, kk, h1, HKK.out.1, h2⟩, Ext.set (Ext.trans hE1 hE18) (p := ⟨w.heap.size + 1, 0, none⟩) (by show w.heap.size ≤ w.heap.size + 1; omega) _⟩
end Go.Proofs.Ytempekmenkeigaa
