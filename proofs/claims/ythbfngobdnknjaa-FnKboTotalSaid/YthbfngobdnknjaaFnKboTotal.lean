/- Proved: for every input the law FnKboTotal returns true, does not panic, and its argument reads afterwards as it read before. Conditions: none. -/
import Derived.Test.YthbfngobdnknjaaHeld
import Derived.Test.YthbfngobdnknjaaOpenBy
import Derived.Test.YthbfngobdnknjaaKboTot
-- rd: RdWt
namespace Go.Proofs.Ythbfngobdnknjaa.FnKboTotal
open Go.ChangeShapes Go.WideShapes Go.ChangeAt Go.RowKit
set_option linter.unusedSimpArgs false
set_option linter.unusedVariables false
set_option linter.constructorNameAsVariable false

/-- What is there when the dice have been thrown. -/
structure There (w : World) (s q : Nat) (AS SA SB TA TB : Option Addr) (cS na ca nb cb : Nat) (W : Wt) (a b : Tm) : Prop where
  s0 : w.cell? ⟨s, 0, none⟩ = some (.slice AS 3 cS)
  q0 : w.cell? ⟨q, 0, none⟩ = some (.int .i64 W.var)
  q1 : w.cell? ⟨q, 1, none⟩ = some (.slice SA 3 3)
  q2 : w.cell? ⟨q, 2, none⟩ = some (.slice SB 3 3)
  sg : RI w AS 3 ar3
  sy : RI w SA 3 W.sym
  rk : RI w SB 3 W.rank
  ta : RI w TA na a.flat
  tb : RI w TB nb b.flat
theorem There.ext {w w' : World} {s q : Nat} {AS SA SB TA TB : Option Addr} {cS na ca nb cb : Nat} {W : Wt} {a b : Tm} (h : There w s q AS SA SB TA TB cS na ca nb cb W a b) (k : Ext w w') : There w' s q AS SA SB TA TB cS na ca nb cb W a b :=
  ⟨Ext.keep k h.s0, Ext.keep k h.q0, Ext.keep k h.q1, Ext.keep k h.q2, h.sg.ext k, h.sy.ext k, h.rk.ext k, h.ta.ext k, h.tb.ext k⟩

set_option maxRecDepth 100000 in
set_option maxHeartbeats 8000000 in
theorem walk {v0 : Value} {x0 : Nat} {w : World} (h0 : RawBy w v0 x0) :
    Calls Try.prog 6 #[v0] w fun e w' => e = .returned (.bool true) ∧ Ext w w' := by
  have H0 := Lib.hid h0
  obtain ⟨bb, hbb⟩ : ∃ bb, decide (4096 < x0) = bb := ⟨_, rfl⟩
  have HBB := Lib.hid hbb
  clear h0 hbb
  go_enter Try.func6, Try.ntmps6
  go_wp2_with fail
  (with_reducible refine (c_big HBB.out H0.out).mono ?_)
  rintro e w1 ⟨rfl, hE1⟩
  cases bb with
  | true =>
    go_wp2
    go_ret
    exact ⟨rfl, hE1⟩
  | false =>
    have hx : x0 ≤ 4096 := by have := HBB.out; simpa using this
    have H1 := Lib.hid (show RawBy w1 v0 x0 from by
      obtain ⟨A, c, e, h1, h2⟩ := H0.out
      refine ⟨A, c, e, h1, fun h => ?_⟩
      obtain ⟨b, o, e2, h3⟩ := h2 h
      exact ⟨b, o, e2, fun j hj => by obtain ⟨y, h4, h5⟩ := h3 j hj; exact ⟨y, Ext.keep hE1 h4, h5⟩⟩)
    go_wp2_with fail
    (with_reducible refine (c_roll H1.out hx).mono ?_)
    rintro e w2 ⟨g, rfl, hD2, hg2, hE2⟩
    have hE02 : Ext w w2 := Ext.trans hE1 hE2
    have hgw : w.heap.size ≤ g := by have := hE1.size; omega
    go_wp2_with fail
    (with_reducible refine (c_w9Sig).mono ?_)
    rintro e w3 ⟨AS, nS, cS, rfl, hO3, hE3⟩
    have hnS : nS = 3 := hO3.len.symm
    subst hnS
    have hg3 := hD2.lt
    have hs3 := hE3.size
    have HD3 := Lib.hid ((hD2.ext hE3).ext ((Ext.refl w3).alloc (.cells #[.slice AS 3 cS] 35)))
    have HS3 := Lib.hid (show RIg (w3.alloc (.cells #[.slice AS 3 cS] 35)) g AS 3 ar3 from RIg.ext (RIg.of hO3 hg3) ((Ext.refl w3).alloc _))
    have hb3 : (w3.alloc (.cells #[.slice AS 3 cS] 35)).cell? ⟨w3.heap.size, 0, none⟩ = some (.slice AS 3 cS) := by simp [go_sem]
    have hsg : w3.heap.size ≠ g := by omega
    have hE03 : Ext w (w3.alloc (.cells #[.slice AS 3 cS] 35)) := (Ext.trans hE02 hE3).alloc _
    clear hO3
    go_wp2_with fail
    (with_reducible refine (c_w9Weights HD3.out).mono ?_)
    rintro e w4 ⟨SA, SB, W, rfl, hSA, hSB, hW, hD4, hO4⟩
    have HW := Lib.hid hW
    have hs4 := hO4.size
    simp only [World.size_alloc] at hs4
    have hg4 := hD4.lt
    have hE04 : Ext w w4 := hO4.ext hE03 hgw
    have hb4 : w4.cell? ⟨w3.heap.size, 0, none⟩ = some (.slice AS 3 cS) := by
      rw [World.cell?_of_block (w' := w4) (a := ⟨w3.heap.size, 0, none⟩) (hO4.block _ (by simp) (fun e => hsg (Option.some.inj e)))]; exact hb3
    have HS4 := Lib.hid (RIg.ext (HS3.out.only hO4) ((Ext.refl w4).alloc (.cells #[.int .i64 W.var, .slice SA 3 3, .slice SB 3 3] 64)))
    have HA4 := Lib.hid (RIg.ext hSA ((Ext.refl w4).alloc (.cells #[.int .i64 W.var, .slice SA 3 3, .slice SB 3 3] 64)))
    have HB4 := Lib.hid (RIg.ext hSB ((Ext.refl w4).alloc (.cells #[.int .i64 W.var, .slice SA 3 3, .slice SB 3 3] 64)))
    have HD4 := Lib.hid (hD4.ext ((Ext.refl w4).alloc (.cells #[.int .i64 W.var, .slice SA 3 3, .slice SB 3 3] 64)))
    have hE04b : Ext w (w4.alloc (.cells #[.int .i64 W.var, .slice SA 3 3, .slice SB 3 3] 64)) := hE04.alloc _
    obtain ⟨w5, hw5⟩ : ∃ w5, w5 = w4.alloc (.cells #[.int .i64 W.var, .slice SA 3 3, .slice SB 3 3] 64) := ⟨_, rfl⟩
    have hb5 : w5.cell? ⟨w3.heap.size, 0, none⟩ = some (.slice AS 3 cS) := by rw [hw5]; exact Ext.keep ((Ext.refl w4).alloc _) hb4
    have hc0 : w5.cell? ⟨w4.heap.size, 0, none⟩ = some (.int .i64 W.var) := by rw [hw5]; simp [go_sem]
    have hc1 : w5.cell? ⟨w4.heap.size, 1, none⟩ = some (.slice SA 3 3) := by rw [hw5]; simp [go_sem]
    have hc2 : w5.cell? ⟨w4.heap.size, 2, none⟩ = some (.slice SB 3 3) := by rw [hw5]; simp [go_sem]
    clear hSA hSB hD4 hW
    go_wp2_with fail
    rw [← hw5] at HS4 HA4 HB4 HD4 hE04b ⊢
    have hs5 : w4.heap.size < w5.heap.size := by rw [hw5]; simp
    clear hw5
    (with_reducible refine (c_w9Term (g := g) (vars := 0) (by omega) (by omega) 2 (by omega) 3 (by omega) HD4.out).mono ?_)
    rintro e w6 ⟨TA, na, ca, a, rfl, hOa, oka, ga, hna, hD6, hO6⟩
    have hs6 := hO6.size
    have hcapA := hOa.cap
    have hlenA := hOa.len
    have HTA := Lib.hid (RIg.of hOa (by omega : g < w5.heap.size))
    have HD6 := Lib.hid hD6
    have hE06 : Ext w w6 := hO6.ext hE04b hgw
    clear hOa hD6
    go_wp2_with fail
    (with_reducible refine (c_w9Term (g := g) (vars := 0) (by omega) (by omega) 2 (by omega) 3 (by omega) HD6.out).mono ?_)
    rintro e w7 ⟨TB, nb, cb, b, rfl, hOb, okb, gb, hnb, hD7, hO7⟩
    have hcapB := hOb.cap
    have hlenB := hOb.len
    have hE07 : Ext w w7 := hO7.ext hE06 hgw
    have hO57 : Only w5 w7 g := hO6.trans hO7
    have hk : ∀ (p i : Nat) (v : Value), p ≠ g → w5.cell? ⟨p, i, none⟩ = some v → w7.cell? ⟨p, i, none⟩ = some v := fun p i v hp hc => by
      rw [World.cell?_of_block (w := w5) (w' := w7) (a := ⟨p, i, none⟩) (hO57.block _ (World.block_lt_of_cell? w5 _ hc) (fun e => by cases e; exact hp rfl))]; exact hc
    have HT := Lib.hid (show There w7 w3.heap.size w4.heap.size AS SA SB TA TB cS na ca nb cb W a b from
      ⟨hk _ _ _ hsg hb5, hk _ _ _ (by omega) hc0, hk _ _ _ (by omega) hc1, hk _ _ _ (by omega) hc2, (HS4.out.only hO57).1, (HA4.out.only hO57).1, (HB4.out.only hO57).1, (HTA.out.only hO7).1, hOb.ri⟩)
    have HGA := Lib.hid (show Gnd a.flat from fun x hx => by have := ga x hx; omega)
    have HGB := Lib.hid (show Gnd b.flat from fun x hx => by have := gb x hx; omega)
    have hna7 : na ≤ 7 := hna
    have hnb7 : nb ≤ 7 := hnb
    have HPA := Lib.hid (term3 oka (by omega) (fun x hx => by have := ga x hx; omega))
    have HPB := Lib.hid (term3 okb (by omega) (fun x hx => by have := gb x hx; omega))
    have HOA := Lib.hid oka
    have HOB := Lib.hid okb
    have HLA := Lib.hid hlenA
    have HLB := Lib.hid hlenB
    obtain ⟨sp, hsp⟩ : ∃ sp, sp = w3.heap.size := ⟨_, rfl⟩
    obtain ⟨qp, hqp⟩ : ∃ qp, qp = w4.heap.size := ⟨_, rfl⟩
    obtain ⟨s0, s1, s2, hsy, hp0', hp1', hp2', hp3', hu0, hu1, hu2⟩ := wt3_sym HW.out
    have HSY := Lib.hid hsy
    clear ga gb oka okb hlenA hlenB hOb hk hO57 hsy
    go_wp2_with fail
    rw [← hsp, ← hqp] at HT ⊢
    clear hsp hqp hb5 hc0 hc1 hc2 hb4 hb3 HS4 HA4 HB4 HTA HD4 HD6 HS3 HD3 hO4 hO6 hO7
    -- behind the throws
    obtain ⟨b1, hb1⟩ : ∃ x, kboLess ar3 W a.flat b.flat = x := ⟨_, rfl⟩
    have HB1 := Lib.hid hb1
    obtain ⟨b2, hb2⟩ : ∃ x, kboLess ar3 W b.flat a.flat = x := ⟨_, rfl⟩
    have HB2 := Lib.hid hb2
    clear hb1 hb2
    refine wp_only (R := fun (a0 : Act) (a8 : Act) (w9 : World) => ∃ (v32 : Value) (v33 : Value) (v34 : Value) (v35 : Value) (v36 : Value) (v37 : Value), a8 = (((((((((((((((((a0.put (some 22) (.agg #[.slice AS 3 cS])).put (some 23) (.agg #[.int .i64 W.var, .slice SA 3 3, .slice SB 3 3])).put (some 24) (.slice TA na ca)).put (some 25) (.slice TB nb cb)).put (some 27) (.agg #[.slice AS 3 cS])).put (some 28) (.agg #[.int .i64 W.var, .slice SA 3 3, .slice SB 3 3])).put (some 29) (.slice TB nb cb)).put (some 30) (.slice TA na ca)).put (some 26) (.bool b1)).put (some 31) (.bool b2)).put (some 32) (v32)).put (some 33) (v33)).put (some 34) (v34)).put (some 35) (v35)).put (some 36) (v36)).put (some 37) (v37)).put (some 38) (.bool false)) ∧ (fun w' => w'.cell? ⟨sp, 0, none⟩ = some (.slice AS 3 cS) ∧ w'.cell? ⟨qp, 0, none⟩ = some (.int .i64 W.var) ∧ w'.cell? ⟨qp, 1, none⟩ = some (.slice SA 3 3) ∧ w'.cell? ⟨qp, 2, none⟩ = some (.slice SB 3 3) ∧ Ext w7 w') w9) ?_ (fun a8 w8 hR => ?_)
    · by_cases hab : a.flat = b.flat
      · have hbe : (b1 == b2) = true := by rw [← HB1.out, ← HB2.out, hab]; simp
        have HEQ := Lib.hid (show (a.flat == b.flat) = true by simpa using hab)
        refine wp_region_held_drew (S := (fun w' => w'.cell? ⟨sp, 0, none⟩ = some (.slice AS 3 cS) ∧ w'.cell? ⟨qp, 0, none⟩ = some (.int .i64 W.var) ∧ w'.cell? ⟨qp, 1, none⟩ = some (.slice SA 3 3) ∧ w'.cell? ⟨qp, 2, none⟩ = some (.slice SB 3 3) ∧ Ext w7 w')) (by kernel_rfl) ?_ (fun hH => ?_)
        · exact ⟨HT.out.s0, HT.out.q0, HT.out.q1, HT.out.q2, (Ext.refl w7).drew⟩
        refine wpAnyH_take_dst (i := 0) (v := .agg #[.slice AS 3 cS]) (d := some 22) rfl rfl (by kernel_rfl) (by kernel_rfl) (by kernel_rfl) (fun _ _ _ h => h) (Or.inl ⟨by rfl, ?_⟩) hH ?_
        · (intro w hSw; (try dsimp only at hSw); go_split_ands; go_simp; try with_reducible rfl)
        try simp only [Act.put, List.setIfInBounds_toArray, List.set_cons_zero, List.set_cons_succ]
        refine wpAnyH_take_dst (i := 1) (v := .agg #[.int .i64 W.var, .slice SA 3 3, .slice SB 3 3]) (d := some 23) rfl rfl (by kernel_rfl) (by kernel_rfl) (by kernel_rfl) (fun _ _ _ h => h) (Or.inl ⟨by rfl, ?_⟩) hH ?_
        · (intro w hSw; (try dsimp only at hSw); go_split_ands; go_simp; try with_reducible rfl)
        try simp only [Act.put, List.setIfInBounds_toArray, List.set_cons_zero, List.set_cons_succ]
        refine wpAnyH_take_dst (i := 2) (v := .slice TA na ca) (d := some 24) rfl rfl (by kernel_rfl) (by kernel_rfl) (by kernel_rfl) (fun _ _ _ h => h) (Or.inl ⟨by rfl, ?_⟩) hH ?_
        · (intro w hSw; (try dsimp only at hSw); go_split_ands; go_simp; try with_reducible rfl)
        try simp only [Act.put, List.setIfInBounds_toArray, List.set_cons_zero, List.set_cons_succ]
        refine wpAnyH_take_dst (i := 3) (v := .slice TB nb cb) (d := some 25) rfl rfl (by kernel_rfl) (by kernel_rfl) (by kernel_rfl) (fun _ _ _ h => h) (Or.inl ⟨by rfl, ?_⟩) hH ?_
        · (intro w hSw; (try dsimp only at hSw); go_split_ands; go_simp; try with_reducible rfl)
        try simp only [Act.put, List.setIfInBounds_toArray, List.set_cons_zero, List.set_cons_succ]
        refine wpAnyH_take_dst (i := 5) (v := .agg #[.slice AS 3 cS]) (d := some 27) rfl rfl (by kernel_rfl) (by kernel_rfl) (by kernel_rfl) (fun _ _ _ h => h) (Or.inl ⟨by rfl, ?_⟩) hH ?_
        · (intro w hSw; (try dsimp only at hSw); go_split_ands; go_simp; try with_reducible rfl)
        try simp only [Act.put, List.setIfInBounds_toArray, List.set_cons_zero, List.set_cons_succ]
        refine wpAnyH_take_dst (i := 6) (v := .agg #[.int .i64 W.var, .slice SA 3 3, .slice SB 3 3]) (d := some 28) rfl rfl (by kernel_rfl) (by kernel_rfl) (by kernel_rfl) (fun _ _ _ h => h) (Or.inl ⟨by rfl, ?_⟩) hH ?_
        · (intro w hSw; (try dsimp only at hSw); go_split_ands; go_simp; try with_reducible rfl)
        try simp only [Act.put, List.setIfInBounds_toArray, List.set_cons_zero, List.set_cons_succ]
        refine wpAnyH_take_dst (i := 7) (v := .slice TB nb cb) (d := some 29) rfl rfl (by kernel_rfl) (by kernel_rfl) (by kernel_rfl) (fun _ _ _ h => h) (Or.inl ⟨by rfl, ?_⟩) hH ?_
        · (intro w hSw; (try dsimp only at hSw); go_split_ands; go_simp; try with_reducible rfl)
        try simp only [Act.put, List.setIfInBounds_toArray, List.set_cons_zero, List.set_cons_succ]
        refine wpAnyH_take_dst (i := 8) (v := .slice TA na ca) (d := some 30) rfl rfl (by kernel_rfl) (by kernel_rfl) (by kernel_rfl) (fun _ _ _ h => h) (Or.inl ⟨by rfl, ?_⟩) hH ?_
        · (intro w hSw; (try dsimp only at hSw); go_split_ands; go_simp; try with_reducible rfl)
        try simp only [Act.put, List.setIfInBounds_toArray, List.set_cons_zero, List.set_cons_succ]
        refine wpAnyH_ready (rs := [4]) (by kernel_rfl) (by simp) ?_
        refine AllReadyH.cons rfl (fun K hK => ?_) AllReadyH.nil
        rw [if_pos (by rfl)]
        go_wp2_with (go_at_call 37; (with_reducible refine ((c_kboLessB HB1.out (RdSig.mk (HT.out.ext hH.2.2.2.2).sg) (RdWt.mk (HT.out.ext hH.2.2.2.2).sy (HT.out.ext hH.2.2.2.2).rk) (RdIc.mk hcapA (HT.out.ext hH.2.2.2.2).ta) (RdIc.mk hcapB (HT.out.ext hH.2.2.2.2).tb))).mono ?_); rintro e w9 ⟨rfl, hE9⟩)
        refine hK.out _ _ ⟨Ext.keep hE9 hH.1, Ext.keep hE9 hH.2.1, Ext.keep hE9 hH.2.2.1, Ext.keep hE9 hH.2.2.2.1, Ext.trans hH.2.2.2.2 hE9⟩ (fun hH9 => ?_)
        clear hK hH; have hH := hH9; clear hH9
        try simp only [Act.put, List.setIfInBounds_toArray, List.set_cons_zero, List.set_cons_succ]
        refine wpAnyH_ready (rs := [9]) (by kernel_rfl) (by simp) ?_
        refine AllReadyH.cons rfl (fun K hK => ?_) AllReadyH.nil
        rw [if_pos (by rfl)]
        go_wp2_with (go_at_call 37; (with_reducible refine ((c_kboLessB HB2.out (RdSig.mk (HT.out.ext hH.2.2.2.2).sg) (RdWt.mk (HT.out.ext hH.2.2.2.2).sy (HT.out.ext hH.2.2.2.2).rk) (RdIc.mk hcapB (HT.out.ext hH.2.2.2.2).tb) (RdIc.mk hcapA (HT.out.ext hH.2.2.2.2).ta))).mono ?_); rintro e w9 ⟨rfl, hE9⟩)
        refine hK.out _ _ ⟨Ext.keep hE9 hH.1, Ext.keep hE9 hH.2.1, Ext.keep hE9 hH.2.2.1, Ext.keep hE9 hH.2.2.2.1, Ext.trans hH.2.2.2.2 hE9⟩ (fun hH9 => ?_)
        clear hK hH; have hH := hH9; clear hH9
        try simp only [Act.put, List.setIfInBounds_toArray, List.set_cons_zero, List.set_cons_succ]
        refine wpAnyH_take_dst (i := 10) (v := .bool true) (d := some 32) rfl rfl (by kernel_rfl) (by kernel_rfl) (by kernel_rfl) (fun _ _ _ h => h) (Or.inl ⟨by rfl, ?_⟩) hH ?_
        · (intro w hSw; (try dsimp only at hSw); go_split_ands; go_simp; try with_reducible rfl)
        try simp only [Act.put, List.setIfInBounds_toArray, List.set_cons_zero, List.set_cons_succ]
        refine wpAnyH_take_dst (i := 11) (v := .bool true) (d := some 33) rfl rfl (by kernel_rfl) (by kernel_rfl) (by kernel_rfl) (fun _ _ _ h => h) (Or.inl ⟨by rfl, ?_⟩) hH ?_
        · (intro w hSw; (try dsimp only at hSw); go_split_ands; go_simp; try with_reducible rfl)
        try simp only [Act.put, List.setIfInBounds_toArray, List.set_cons_zero, List.set_cons_succ]
        refine wpAnyH_take_dst (i := 12) (v := .slice TA na ca) (d := some 34) rfl rfl (by kernel_rfl) (by kernel_rfl) (by kernel_rfl) (fun _ _ _ h => h) (Or.inl ⟨by rfl, ?_⟩) hH ?_
        · (intro w hSw; (try dsimp only at hSw); go_split_ands; go_simp; try with_reducible rfl)
        try simp only [Act.put, List.setIfInBounds_toArray, List.set_cons_zero, List.set_cons_succ]
        refine wpAnyH_take_dst (i := 13) (v := .slice TB nb cb) (d := some 35) rfl rfl (by kernel_rfl) (by kernel_rfl) (by kernel_rfl) (fun _ _ _ h => h) (Or.inl ⟨by rfl, ?_⟩) hH ?_
        · (intro w hSw; (try dsimp only at hSw); go_split_ands; go_simp; try with_reducible rfl)
        try simp only [Act.put, List.setIfInBounds_toArray, List.set_cons_zero, List.set_cons_succ]
        refine wpAnyH_ready (rs := [14]) (by kernel_rfl) (by simp) ?_
        refine AllReadyH.cons rfl (fun K hK => ?_) AllReadyH.nil
        rw [if_pos (by rfl)]
        go_wp2_with (go_at_call 38; (with_reducible refine ((c_likeInts HEQ.out (RdI.mk (HT.out.ext hH.2.2.2.2).ta) (RdI.mk (HT.out.ext hH.2.2.2.2).tb))).mono ?_); rintro e w9 ⟨rfl, hE9⟩)
        refine hK.out _ _ ⟨Ext.keep hE9 hH.1, Ext.keep hE9 hH.2.1, Ext.keep hE9 hH.2.2.1, Ext.keep hE9 hH.2.2.2.1, Ext.trans hH.2.2.2.2 hE9⟩ (fun hH9 => ?_)
        clear hK hH; have hH := hH9; clear hH9
        try simp only [Act.put, List.setIfInBounds_toArray, List.set_cons_zero, List.set_cons_succ]
        refine wpAnyH_take_dst (i := 15) (v := .bool false) (d := some 37) rfl rfl (by kernel_rfl) (by kernel_rfl) (by kernel_rfl) (fun _ _ _ h => h) (Or.inl ⟨by rfl, ?_⟩) hH ?_
        · (intro w hSw; (try dsimp only at hSw); go_split_ands; go_simp; try with_reducible rfl)
        try simp only [Act.put, List.setIfInBounds_toArray, List.set_cons_zero, List.set_cons_succ]
        refine wpAnyH_take_dst (i := 16) (v := .bool false) (d := some 38) rfl rfl (by kernel_rfl) (by kernel_rfl) (by kernel_rfl) (fun _ _ _ h => h) (Or.inl ⟨by rfl, ?_⟩) hH ?_
        · (intro w hSw; (try dsimp only at hSw); go_split_ands; go_simp; try with_reducible rfl)
        try simp only [Act.put, List.setIfInBounds_toArray, List.set_cons_zero, List.set_cons_succ]
        refine wpAnyH_done (by kernel_rfl) ?_ _
        exact ⟨_, _, _, _, _, _, by rfl, hH⟩
      · have hbe : (b1 == b2) = false := by
          have h1 := kbo_tot (ar := ar3) (rkInj_of HW.out.1) a b HOA.out HOB.out HGA.out HGB.out hab
          rw [← HB1.out, ← HB2.out, kboLess3 HW.out HPA.out HPB.out HOA.out HOB.out, kboLess3 HW.out HPB.out HPA.out HOB.out HOA.out]
          by_cases h2 : 0 < kbo ar3 W a b
          · have h3 := h1.1 h2
            simp [h2, h3]
          · have h3 : 0 < kbo ar3 W b a := by
              rcases Int.lt_or_le 0 (kbo ar3 W b a) with h | h
              · exact h
              · exact absurd (h1.2 (by omega)) h2
            simp [h2, h3]
        refine wp_region_held_drew (S := (fun w' => w'.cell? ⟨sp, 0, none⟩ = some (.slice AS 3 cS) ∧ w'.cell? ⟨qp, 0, none⟩ = some (.int .i64 W.var) ∧ w'.cell? ⟨qp, 1, none⟩ = some (.slice SA 3 3) ∧ w'.cell? ⟨qp, 2, none⟩ = some (.slice SB 3 3) ∧ Ext w7 w')) (by kernel_rfl) ?_ (fun hH => ?_)
        · exact ⟨HT.out.s0, HT.out.q0, HT.out.q1, HT.out.q2, (Ext.refl w7).drew⟩
        refine wpAnyH_take_dst (i := 0) (v := .agg #[.slice AS 3 cS]) (d := some 22) rfl rfl (by kernel_rfl) (by kernel_rfl) (by kernel_rfl) (fun _ _ _ h => h) (Or.inl ⟨by rfl, ?_⟩) hH ?_
        · (intro w hSw; (try dsimp only at hSw); go_split_ands; go_simp; try with_reducible rfl)
        try simp only [Act.put, List.setIfInBounds_toArray, List.set_cons_zero, List.set_cons_succ]
        refine wpAnyH_take_dst (i := 1) (v := .agg #[.int .i64 W.var, .slice SA 3 3, .slice SB 3 3]) (d := some 23) rfl rfl (by kernel_rfl) (by kernel_rfl) (by kernel_rfl) (fun _ _ _ h => h) (Or.inl ⟨by rfl, ?_⟩) hH ?_
        · (intro w hSw; (try dsimp only at hSw); go_split_ands; go_simp; try with_reducible rfl)
        try simp only [Act.put, List.setIfInBounds_toArray, List.set_cons_zero, List.set_cons_succ]
        refine wpAnyH_take_dst (i := 2) (v := .slice TA na ca) (d := some 24) rfl rfl (by kernel_rfl) (by kernel_rfl) (by kernel_rfl) (fun _ _ _ h => h) (Or.inl ⟨by rfl, ?_⟩) hH ?_
        · (intro w hSw; (try dsimp only at hSw); go_split_ands; go_simp; try with_reducible rfl)
        try simp only [Act.put, List.setIfInBounds_toArray, List.set_cons_zero, List.set_cons_succ]
        refine wpAnyH_take_dst (i := 3) (v := .slice TB nb cb) (d := some 25) rfl rfl (by kernel_rfl) (by kernel_rfl) (by kernel_rfl) (fun _ _ _ h => h) (Or.inl ⟨by rfl, ?_⟩) hH ?_
        · (intro w hSw; (try dsimp only at hSw); go_split_ands; go_simp; try with_reducible rfl)
        try simp only [Act.put, List.setIfInBounds_toArray, List.set_cons_zero, List.set_cons_succ]
        refine wpAnyH_take_dst (i := 5) (v := .agg #[.slice AS 3 cS]) (d := some 27) rfl rfl (by kernel_rfl) (by kernel_rfl) (by kernel_rfl) (fun _ _ _ h => h) (Or.inl ⟨by rfl, ?_⟩) hH ?_
        · (intro w hSw; (try dsimp only at hSw); go_split_ands; go_simp; try with_reducible rfl)
        try simp only [Act.put, List.setIfInBounds_toArray, List.set_cons_zero, List.set_cons_succ]
        refine wpAnyH_take_dst (i := 6) (v := .agg #[.int .i64 W.var, .slice SA 3 3, .slice SB 3 3]) (d := some 28) rfl rfl (by kernel_rfl) (by kernel_rfl) (by kernel_rfl) (fun _ _ _ h => h) (Or.inl ⟨by rfl, ?_⟩) hH ?_
        · (intro w hSw; (try dsimp only at hSw); go_split_ands; go_simp; try with_reducible rfl)
        try simp only [Act.put, List.setIfInBounds_toArray, List.set_cons_zero, List.set_cons_succ]
        refine wpAnyH_take_dst (i := 7) (v := .slice TB nb cb) (d := some 29) rfl rfl (by kernel_rfl) (by kernel_rfl) (by kernel_rfl) (fun _ _ _ h => h) (Or.inl ⟨by rfl, ?_⟩) hH ?_
        · (intro w hSw; (try dsimp only at hSw); go_split_ands; go_simp; try with_reducible rfl)
        try simp only [Act.put, List.setIfInBounds_toArray, List.set_cons_zero, List.set_cons_succ]
        refine wpAnyH_take_dst (i := 8) (v := .slice TA na ca) (d := some 30) rfl rfl (by kernel_rfl) (by kernel_rfl) (by kernel_rfl) (fun _ _ _ h => h) (Or.inl ⟨by rfl, ?_⟩) hH ?_
        · (intro w hSw; (try dsimp only at hSw); go_split_ands; go_simp; try with_reducible rfl)
        try simp only [Act.put, List.setIfInBounds_toArray, List.set_cons_zero, List.set_cons_succ]
        refine wpAnyH_ready (rs := [4]) (by kernel_rfl) (by simp) ?_
        refine AllReadyH.cons rfl (fun K hK => ?_) AllReadyH.nil
        rw [if_pos (by rfl)]
        go_wp2_with (go_at_call 37; (with_reducible refine ((c_kboLessB HB1.out (RdSig.mk (HT.out.ext hH.2.2.2.2).sg) (RdWt.mk (HT.out.ext hH.2.2.2.2).sy (HT.out.ext hH.2.2.2.2).rk) (RdIc.mk hcapA (HT.out.ext hH.2.2.2.2).ta) (RdIc.mk hcapB (HT.out.ext hH.2.2.2.2).tb))).mono ?_); rintro e w9 ⟨rfl, hE9⟩)
        refine hK.out _ _ ⟨Ext.keep hE9 hH.1, Ext.keep hE9 hH.2.1, Ext.keep hE9 hH.2.2.1, Ext.keep hE9 hH.2.2.2.1, Ext.trans hH.2.2.2.2 hE9⟩ (fun hH9 => ?_)
        clear hK hH; have hH := hH9; clear hH9
        try simp only [Act.put, List.setIfInBounds_toArray, List.set_cons_zero, List.set_cons_succ]
        refine wpAnyH_ready (rs := [9]) (by kernel_rfl) (by simp) ?_
        refine AllReadyH.cons rfl (fun K hK => ?_) AllReadyH.nil
        rw [if_pos (by rfl)]
        go_wp2_with (go_at_call 37; (with_reducible refine ((c_kboLessB HB2.out (RdSig.mk (HT.out.ext hH.2.2.2.2).sg) (RdWt.mk (HT.out.ext hH.2.2.2.2).sy (HT.out.ext hH.2.2.2.2).rk) (RdIc.mk hcapB (HT.out.ext hH.2.2.2.2).tb) (RdIc.mk hcapA (HT.out.ext hH.2.2.2.2).ta))).mono ?_); rintro e w9 ⟨rfl, hE9⟩)
        refine hK.out _ _ ⟨Ext.keep hE9 hH.1, Ext.keep hE9 hH.2.1, Ext.keep hE9 hH.2.2.1, Ext.keep hE9 hH.2.2.2.1, Ext.trans hH.2.2.2.2 hE9⟩ (fun hH9 => ?_)
        clear hK hH; have hH := hH9; clear hH9
        try simp only [Act.put, List.setIfInBounds_toArray, List.set_cons_zero, List.set_cons_succ]
        refine wpAnyH_take_dst (i := 10) (v := .bool false) (d := some 32) rfl rfl (by kernel_rfl) (by kernel_rfl) (by kernel_rfl) (fun _ _ _ h => h) (Or.inl ⟨by rfl, ?_⟩) hH ?_
        · (intro w hSw; (try dsimp only at hSw); go_split_ands; go_simp; try with_reducible rfl)
        try simp only [Act.put, List.setIfInBounds_toArray, List.set_cons_zero, List.set_cons_succ]
        refine wpAnyH_take_dst (i := 11) (v := .bool false) (d := some 33) rfl rfl (by kernel_rfl) (by kernel_rfl) (by kernel_rfl) (fun _ _ _ h => h) (Or.inl ⟨by rfl, ?_⟩) hH ?_
        · (intro w hSw; (try dsimp only at hSw); go_split_ands; go_simp; try with_reducible rfl)
        try simp only [Act.put, List.setIfInBounds_toArray, List.set_cons_zero, List.set_cons_succ]
        refine wpAnyH_take_dst (i := 12) (v := undef) (d := some 34) rfl rfl (by kernel_rfl) (by kernel_rfl) (by kernel_rfl) (fun _ _ _ h => h) (Or.inr ⟨by rfl, rfl⟩) hH ?_
        try simp only [Act.put, List.setIfInBounds_toArray, List.set_cons_zero, List.set_cons_succ]
        refine wpAnyH_take_dst (i := 13) (v := undef) (d := some 35) rfl rfl (by kernel_rfl) (by kernel_rfl) (by kernel_rfl) (fun _ _ _ h => h) (Or.inr ⟨by rfl, rfl⟩) hH ?_
        try simp only [Act.put, List.setIfInBounds_toArray, List.set_cons_zero, List.set_cons_succ]
        refine wpAnyH_take_dst (i := 14) (v := undef) (d := some 36) rfl rfl (by kernel_rfl) (by kernel_rfl) (by kernel_rfl) (fun _ _ _ h => h) (Or.inr ⟨by rfl, rfl⟩) hH ?_
        try simp only [Act.put, List.setIfInBounds_toArray, List.set_cons_zero, List.set_cons_succ]
        refine wpAnyH_take_dst (i := 15) (v := undef) (d := some 37) rfl rfl (by kernel_rfl) (by kernel_rfl) (by kernel_rfl) (fun _ _ _ h => h) (Or.inr ⟨by rfl, rfl⟩) hH ?_
        try simp only [Act.put, List.setIfInBounds_toArray, List.set_cons_zero, List.set_cons_succ]
        refine wpAnyH_take_dst (i := 16) (v := .bool false) (d := some 38) rfl rfl (by kernel_rfl) (by kernel_rfl) (by kernel_rfl) (fun _ _ _ h => h) (Or.inl ⟨by rfl, ?_⟩) hH ?_
        · (intro w hSw; (try dsimp only at hSw); go_split_ands; go_simp; try with_reducible rfl)
        try simp only [Act.put, List.setIfInBounds_toArray, List.set_cons_zero, List.set_cons_succ]
        refine wpAnyH_done (by kernel_rfl) ?_ _
        exact ⟨_, _, _, _, _, _, by rfl, hH⟩
    obtain ⟨v32, v33, v34, v35, v36, v37, ha, hk0, hk1, hk2, hk3, hE8⟩ := hR
    simp only [Act.put, List.setIfInBounds_toArray, List.set_cons_zero, List.set_cons_succ] at ha
    subst ha
    have HX8 := Lib.hid (HT.out.ext hE8)
    obtain ⟨X, hX⟩ : ∃ X, weightOf ar3 W a.flat = X := ⟨_, rfl⟩
    obtain ⟨Y, hY⟩ : ∃ Y, weightOf ar3 W b.flat = Y := ⟨_, rfl⟩
    have HWX := Lib.hid hX
    have HWY := Lib.hid hY
    have hXw : X = wtOf W a.flat := by rw [← hX]; exact weight3 HW.out HPA.out
    have hYw : Y = wtOf W b.flat := by rw [← hY]; exact weight3 HW.out HPB.out
    have HXW := Lib.hid hXw
    have HYW := Lib.hid hYw
    have hXs : s2 ≤ X := by rw [hXw]; exact wt_ge3 HSY.out hp0' hp1' (by omega) HOA.out HGA.out
    have HL := Lib.hid (light3 HW.out HSY.out)
    clear hX hY hXw hYw
    go_wp2_with fail
    (with_reducible refine (c_weightOfB HWX.out (RdSig.mk HX8.out.sg) (RdWt.mk HX8.out.sy HX8.out.rk) (RdI.mk HX8.out.ta)).mono ?_)
    rintro e w10 ⟨rfl, hE10⟩
    have HX10 := Lib.hid (HX8.out.ext hE10)
    have hr0 := HX10.out.s0
    have hr1 := HX10.out.q0
    have hr2 := HX10.out.q1
    have hr3 := HX10.out.q2
    go_wp2_with fail
    (with_reducible refine (c_weightOfB HWY.out (RdSig.mk HX10.out.sg) (RdWt.mk HX10.out.sy HX10.out.rk) (RdI.mk HX10.out.tb)).mono ?_)
    rintro e w11 ⟨rfl, hE11⟩
    have HX := Lib.hid (HX10.out.ext hE11)
    have hE711 : Ext w7 w11 := Ext.trans (Ext.trans hE8 hE10) hE11
    clear hr0 hr1 hr2 hr3 hk0 hk1 hk2 hk3
    have hlt1 : decide (X < s2) = false := by simp; omega
    have hlt2 : decide (s2 < W.var) = false := by simp; omega
    go_wp2_with fail
    refine wp_only (R := fun (a0 : Act) (a8 : Act) (w9 : World) => ∃ (v63 : Value) (v64 : Value) (v65 : Value) (v66 : Value) (v67 : Value) (v68 : Value) (v69 : Value) (v70 : Value), a8 = ((((((((((((((((((((((((((a0.put (some 47) (.int .i64 X)).put (some 48) (.agg #[.slice AS 3 cS])).put (some 49) (.agg #[.int .i64 W.var, .slice SA 3 3, .slice SB 3 3])).put (some 50) (.int .i64 s2)).put (some 51) (.bool false)).put (some 52) (.bool false)).put (some 53) (.agg #[.slice AS 3 cS])).put (some 54) (.agg #[.int .i64 W.var, .slice SA 3 3, .slice SB 3 3])).put (some 56) (.pointer (some ⟨qp, 0, none⟩))).put (some 57) (.int .i64 W.var)).put (some 55) (.int .i64 s2)).put (some 58) (.bool false)).put (some 59) (.bool false)).put (some 60) (.bool false)).put (some 61) (.int .i64 X)).put (some 62) (.int .i64 Y)).put (some 63) (v63)).put (some 64) (v64)).put (some 65) (v65)).put (some 66) (v66)).put (some 67) (v67)).put (some 68) (v68)).put (some 69) (v69)).put (some 70) (v70)).put (some 71) (.bool false)).put (some 72) (.bool false)) ∧ (fun w' => w'.cell? ⟨sp, 0, none⟩ = some (.slice AS 3 cS) ∧ w'.cell? ⟨qp, 0, none⟩ = some (.int .i64 W.var) ∧ w'.cell? ⟨qp, 1, none⟩ = some (.slice SA 3 3) ∧ w'.cell? ⟨qp, 2, none⟩ = some (.slice SB 3 3) ∧ Ext w11 w') w9) ?_ (fun a8 w12 hR => ?_)
    · by_cases hXY : X < Y
      · have hd : decide (X < Y) = true := by simpa using hXY
        have HLT := Lib.hid (show kboLess ar3 W a.flat b.flat = true by rw [kboLess3 HW.out HPA.out HPB.out HOA.out HOB.out]; have := kbo_light (ar := ar3) HGA.out HGB.out (by rw [← HXW.out, ← HYW.out]; exact hXY); simpa using this)
        refine wp_region_held_drew (S := (fun w' => w'.cell? ⟨sp, 0, none⟩ = some (.slice AS 3 cS) ∧ w'.cell? ⟨qp, 0, none⟩ = some (.int .i64 W.var) ∧ w'.cell? ⟨qp, 1, none⟩ = some (.slice SA 3 3) ∧ w'.cell? ⟨qp, 2, none⟩ = some (.slice SB 3 3) ∧ Ext w11 w')) (by kernel_rfl) ?_ (fun hH => ?_)
        · exact ⟨HX.out.s0, HX.out.q0, HX.out.q1, HX.out.q2, (Ext.refl w11).drew⟩
        refine wpAnyH_take_dst (i := 0) (v := .int .i64 X) (d := some 47) rfl rfl (by kernel_rfl) (by kernel_rfl) (by kernel_rfl) (fun _ _ _ h => h) (Or.inl ⟨by rfl, ?_⟩) hH ?_
        · (intro w hSw; (try dsimp only at hSw); go_split_ands; go_simp; try with_reducible rfl)
        try simp only [Act.put, List.setIfInBounds_toArray, List.set_cons_zero, List.set_cons_succ]
        refine wpAnyH_take_dst (i := 1) (v := .agg #[.slice AS 3 cS]) (d := some 48) rfl rfl (by kernel_rfl) (by kernel_rfl) (by kernel_rfl) (fun _ _ _ h => h) (Or.inl ⟨by rfl, ?_⟩) hH ?_
        · (intro w hSw; (try dsimp only at hSw); go_split_ands; go_simp; try with_reducible rfl)
        try simp only [Act.put, List.setIfInBounds_toArray, List.set_cons_zero, List.set_cons_succ]
        refine wpAnyH_take_dst (i := 2) (v := .agg #[.int .i64 W.var, .slice SA 3 3, .slice SB 3 3]) (d := some 49) rfl rfl (by kernel_rfl) (by kernel_rfl) (by kernel_rfl) (fun _ _ _ h => h) (Or.inl ⟨by rfl, ?_⟩) hH ?_
        · (intro w hSw; (try dsimp only at hSw); go_split_ands; go_simp; try with_reducible rfl)
        try simp only [Act.put, List.setIfInBounds_toArray, List.set_cons_zero, List.set_cons_succ]
        refine wpAnyH_ready (rs := [3]) (by kernel_rfl) (by simp) ?_
        refine AllReadyH.cons rfl (fun K hK => ?_) AllReadyH.nil
        rw [if_pos (by rfl)]
        go_wp2_with (go_at_call 40; (with_reducible refine ((c_lightestB HL.out (RdSig.mk (HX.out.ext hH.2.2.2.2).sg) (RdWt.mk (HX.out.ext hH.2.2.2.2).sy (HX.out.ext hH.2.2.2.2).rk))).mono ?_); rintro e w9 ⟨rfl, hE9⟩)
        refine hK.out _ _ ⟨Ext.keep hE9 hH.1, Ext.keep hE9 hH.2.1, Ext.keep hE9 hH.2.2.1, Ext.keep hE9 hH.2.2.2.1, Ext.trans hH.2.2.2.2 hE9⟩ (fun hH9 => ?_)
        clear hK hH; have hH := hH9; clear hH9
        try simp only [Act.put, List.setIfInBounds_toArray, List.set_cons_zero, List.set_cons_succ]
        refine wpAnyH_take_dst (i := 4) (v := .bool false) (d := some 51) rfl rfl (by kernel_rfl) (by kernel_rfl) (by kernel_rfl) (fun _ _ _ h => h) (Or.inl ⟨by rfl, ?_⟩) hH ?_
        · (intro w hSw; (try dsimp only at hSw); go_split_ands; go_simp; try with_reducible rfl)
        try simp only [Act.put, List.setIfInBounds_toArray, List.set_cons_zero, List.set_cons_succ]
        refine wpAnyH_take_dst (i := 5) (v := .bool false) (d := some 52) rfl rfl (by kernel_rfl) (by kernel_rfl) (by kernel_rfl) (fun _ _ _ h => h) (Or.inl ⟨by rfl, ?_⟩) hH ?_
        · (intro w hSw; (try dsimp only at hSw); go_split_ands; go_simp; try with_reducible rfl)
        try simp only [Act.put, List.setIfInBounds_toArray, List.set_cons_zero, List.set_cons_succ]
        refine wpAnyH_take_dst (i := 6) (v := .agg #[.slice AS 3 cS]) (d := some 53) rfl rfl (by kernel_rfl) (by kernel_rfl) (by kernel_rfl) (fun _ _ _ h => h) (Or.inl ⟨by rfl, ?_⟩) hH ?_
        · (intro w hSw; (try dsimp only at hSw); go_split_ands; go_simp; try with_reducible rfl)
        try simp only [Act.put, List.setIfInBounds_toArray, List.set_cons_zero, List.set_cons_succ]
        refine wpAnyH_take_dst (i := 7) (v := .agg #[.int .i64 W.var, .slice SA 3 3, .slice SB 3 3]) (d := some 54) rfl rfl (by kernel_rfl) (by kernel_rfl) (by kernel_rfl) (fun _ _ _ h => h) (Or.inl ⟨by rfl, ?_⟩) hH ?_
        · (intro w hSw; (try dsimp only at hSw); go_split_ands; go_simp; try with_reducible rfl)
        try simp only [Act.put, List.setIfInBounds_toArray, List.set_cons_zero, List.set_cons_succ]
        refine wpAnyH_take_dst (i := 9) (v := .pointer (some ⟨qp, 0, none⟩)) (d := some 56) rfl rfl (by kernel_rfl) (by kernel_rfl) (by kernel_rfl) (fun _ _ _ h => h) (Or.inl ⟨by rfl, ?_⟩) hH ?_
        · (intro w hSw; (try dsimp only at hSw); go_split_ands; go_simp; try with_reducible rfl)
        try simp only [Act.put, List.setIfInBounds_toArray, List.set_cons_zero, List.set_cons_succ]
        refine wpAnyH_take_dst (i := 10) (v := .int .i64 W.var) (d := some 57) rfl rfl (by kernel_rfl) (by kernel_rfl) (by kernel_rfl) (fun _ _ _ h => h) (Or.inl ⟨by rfl, ?_⟩) hH ?_
        · (intro w hSw; (try dsimp only at hSw); go_split_ands; go_simp; try with_reducible rfl)
        try simp only [Act.put, List.setIfInBounds_toArray, List.set_cons_zero, List.set_cons_succ]
        refine wpAnyH_ready (rs := [8]) (by kernel_rfl) (by simp) ?_
        refine AllReadyH.cons rfl (fun K hK => ?_) AllReadyH.nil
        rw [if_pos (by rfl)]
        go_wp2_with (go_at_call 40; (with_reducible refine ((c_lightestB HL.out (RdSig.mk (HX.out.ext hH.2.2.2.2).sg) (RdWt.mk (HX.out.ext hH.2.2.2.2).sy (HX.out.ext hH.2.2.2.2).rk))).mono ?_); rintro e w9 ⟨rfl, hE9⟩)
        refine hK.out _ _ ⟨Ext.keep hE9 hH.1, Ext.keep hE9 hH.2.1, Ext.keep hE9 hH.2.2.1, Ext.keep hE9 hH.2.2.2.1, Ext.trans hH.2.2.2.2 hE9⟩ (fun hH9 => ?_)
        clear hK hH; have hH := hH9; clear hH9
        try simp only [Act.put, List.setIfInBounds_toArray, List.set_cons_zero, List.set_cons_succ]
        refine wpAnyH_take_dst (i := 11) (v := .bool false) (d := some 58) rfl rfl (by kernel_rfl) (by kernel_rfl) (by kernel_rfl) (fun _ _ _ h => h) (Or.inl ⟨by rfl, ?_⟩) hH ?_
        · (intro w hSw; (try dsimp only at hSw); go_split_ands; go_simp; try with_reducible rfl)
        try simp only [Act.put, List.setIfInBounds_toArray, List.set_cons_zero, List.set_cons_succ]
        refine wpAnyH_take_dst (i := 12) (v := .bool false) (d := some 59) rfl rfl (by kernel_rfl) (by kernel_rfl) (by kernel_rfl) (fun _ _ _ h => h) (Or.inl ⟨by rfl, ?_⟩) hH ?_
        · (intro w hSw; (try dsimp only at hSw); go_split_ands; go_simp; try with_reducible rfl)
        try simp only [Act.put, List.setIfInBounds_toArray, List.set_cons_zero, List.set_cons_succ]
        refine wpAnyH_take_dst (i := 13) (v := .bool false) (d := some 60) rfl rfl (by kernel_rfl) (by kernel_rfl) (by kernel_rfl) (fun _ _ _ h => h) (Or.inl ⟨by rfl, ?_⟩) hH ?_
        · (intro w hSw; (try dsimp only at hSw); go_split_ands; go_simp; try with_reducible rfl)
        try simp only [Act.put, List.setIfInBounds_toArray, List.set_cons_zero, List.set_cons_succ]
        refine wpAnyH_take_dst (i := 14) (v := .int .i64 X) (d := some 61) rfl rfl (by kernel_rfl) (by kernel_rfl) (by kernel_rfl) (fun _ _ _ h => h) (Or.inl ⟨by rfl, ?_⟩) hH ?_
        · (intro w hSw; (try dsimp only at hSw); go_split_ands; go_simp; try with_reducible rfl)
        try simp only [Act.put, List.setIfInBounds_toArray, List.set_cons_zero, List.set_cons_succ]
        refine wpAnyH_take_dst (i := 15) (v := .int .i64 Y) (d := some 62) rfl rfl (by kernel_rfl) (by kernel_rfl) (by kernel_rfl) (fun _ _ _ h => h) (Or.inl ⟨by rfl, ?_⟩) hH ?_
        · (intro w hSw; (try dsimp only at hSw); go_split_ands; go_simp; try with_reducible rfl)
        try simp only [Act.put, List.setIfInBounds_toArray, List.set_cons_zero, List.set_cons_succ]
        refine wpAnyH_take_dst (i := 16) (v := .bool true) (d := some 63) rfl rfl (by kernel_rfl) (by kernel_rfl) (by kernel_rfl) (fun _ _ _ h => h) (Or.inl ⟨by rfl, ?_⟩) hH ?_
        · (intro w hSw; (try dsimp only at hSw); go_split_ands; go_simp; try with_reducible rfl)
        try simp only [Act.put, List.setIfInBounds_toArray, List.set_cons_zero, List.set_cons_succ]
        refine wpAnyH_take_dst (i := 17) (v := .bool true) (d := some 64) rfl rfl (by kernel_rfl) (by kernel_rfl) (by kernel_rfl) (fun _ _ _ h => h) (Or.inl ⟨by rfl, ?_⟩) hH ?_
        · (intro w hSw; (try dsimp only at hSw); go_split_ands; go_simp; try with_reducible rfl)
        try simp only [Act.put, List.setIfInBounds_toArray, List.set_cons_zero, List.set_cons_succ]
        refine wpAnyH_take_dst (i := 18) (v := .agg #[.slice AS 3 cS]) (d := some 65) rfl rfl (by kernel_rfl) (by kernel_rfl) (by kernel_rfl) (fun _ _ _ h => h) (Or.inl ⟨by rfl, ?_⟩) hH ?_
        · (intro w hSw; (try dsimp only at hSw); go_split_ands; go_simp; try with_reducible rfl)
        try simp only [Act.put, List.setIfInBounds_toArray, List.set_cons_zero, List.set_cons_succ]
        refine wpAnyH_take_dst (i := 19) (v := .agg #[.int .i64 W.var, .slice SA 3 3, .slice SB 3 3]) (d := some 66) rfl rfl (by kernel_rfl) (by kernel_rfl) (by kernel_rfl) (fun _ _ _ h => h) (Or.inl ⟨by rfl, ?_⟩) hH ?_
        · (intro w hSw; (try dsimp only at hSw); go_split_ands; go_simp; try with_reducible rfl)
        try simp only [Act.put, List.setIfInBounds_toArray, List.set_cons_zero, List.set_cons_succ]
        refine wpAnyH_take_dst (i := 20) (v := .slice TA na ca) (d := some 67) rfl rfl (by kernel_rfl) (by kernel_rfl) (by kernel_rfl) (fun _ _ _ h => h) (Or.inl ⟨by rfl, ?_⟩) hH ?_
        · (intro w hSw; (try dsimp only at hSw); go_split_ands; go_simp; try with_reducible rfl)
        try simp only [Act.put, List.setIfInBounds_toArray, List.set_cons_zero, List.set_cons_succ]
        refine wpAnyH_take_dst (i := 21) (v := .slice TB nb cb) (d := some 68) rfl rfl (by kernel_rfl) (by kernel_rfl) (by kernel_rfl) (fun _ _ _ h => h) (Or.inl ⟨by rfl, ?_⟩) hH ?_
        · (intro w hSw; (try dsimp only at hSw); go_split_ands; go_simp; try with_reducible rfl)
        try simp only [Act.put, List.setIfInBounds_toArray, List.set_cons_zero, List.set_cons_succ]
        refine wpAnyH_ready (rs := [22]) (by kernel_rfl) (by simp) ?_
        refine AllReadyH.cons rfl (fun K hK => ?_) AllReadyH.nil
        rw [if_pos (by rfl)]
        go_wp2_with (go_at_call 37; (with_reducible refine ((c_kboLessB HLT.out (RdSig.mk (HX.out.ext hH.2.2.2.2).sg) (RdWt.mk (HX.out.ext hH.2.2.2.2).sy (HX.out.ext hH.2.2.2.2).rk) (RdIc.mk hcapA (HX.out.ext hH.2.2.2.2).ta) (RdIc.mk hcapB (HX.out.ext hH.2.2.2.2).tb))).mono ?_); rintro e w9 ⟨rfl, hE9⟩)
        refine hK.out _ _ ⟨Ext.keep hE9 hH.1, Ext.keep hE9 hH.2.1, Ext.keep hE9 hH.2.2.1, Ext.keep hE9 hH.2.2.2.1, Ext.trans hH.2.2.2.2 hE9⟩ (fun hH9 => ?_)
        clear hK hH; have hH := hH9; clear hH9
        try simp only [Act.put, List.setIfInBounds_toArray, List.set_cons_zero, List.set_cons_succ]
        refine wpAnyH_take_dst (i := 23) (v := .bool false) (d := some 70) rfl rfl (by kernel_rfl) (by kernel_rfl) (by kernel_rfl) (fun _ _ _ h => h) (Or.inl ⟨by rfl, ?_⟩) hH ?_
        · (intro w hSw; (try dsimp only at hSw); go_split_ands; go_simp; try with_reducible rfl)
        try simp only [Act.put, List.setIfInBounds_toArray, List.set_cons_zero, List.set_cons_succ]
        refine wpAnyH_take_dst (i := 24) (v := .bool false) (d := some 71) rfl rfl (by kernel_rfl) (by kernel_rfl) (by kernel_rfl) (fun _ _ _ h => h) (Or.inl ⟨by rfl, ?_⟩) hH ?_
        · (intro w hSw; (try dsimp only at hSw); go_split_ands; go_simp; try with_reducible rfl)
        try simp only [Act.put, List.setIfInBounds_toArray, List.set_cons_zero, List.set_cons_succ]
        refine wpAnyH_take_dst (i := 25) (v := .bool false) (d := some 72) rfl rfl (by kernel_rfl) (by kernel_rfl) (by kernel_rfl) (fun _ _ _ h => h) (Or.inl ⟨by rfl, ?_⟩) hH ?_
        · (intro w hSw; (try dsimp only at hSw); go_split_ands; go_simp; try with_reducible rfl)
        try simp only [Act.put, List.setIfInBounds_toArray, List.set_cons_zero, List.set_cons_succ]
        refine wpAnyH_done (by kernel_rfl) ?_ _
        exact ⟨_, _, _, _, _, _, _, _, by rfl, hH⟩
      · have hd : decide (X < Y) = false := by simpa using hXY
        refine wp_region_held_drew (S := (fun w' => w'.cell? ⟨sp, 0, none⟩ = some (.slice AS 3 cS) ∧ w'.cell? ⟨qp, 0, none⟩ = some (.int .i64 W.var) ∧ w'.cell? ⟨qp, 1, none⟩ = some (.slice SA 3 3) ∧ w'.cell? ⟨qp, 2, none⟩ = some (.slice SB 3 3) ∧ Ext w11 w')) (by kernel_rfl) ?_ (fun hH => ?_)
        · exact ⟨HX.out.s0, HX.out.q0, HX.out.q1, HX.out.q2, (Ext.refl w11).drew⟩
        refine wpAnyH_take_dst (i := 0) (v := .int .i64 X) (d := some 47) rfl rfl (by kernel_rfl) (by kernel_rfl) (by kernel_rfl) (fun _ _ _ h => h) (Or.inl ⟨by rfl, ?_⟩) hH ?_
        · (intro w hSw; (try dsimp only at hSw); go_split_ands; go_simp; try with_reducible rfl)
        try simp only [Act.put, List.setIfInBounds_toArray, List.set_cons_zero, List.set_cons_succ]
        refine wpAnyH_take_dst (i := 1) (v := .agg #[.slice AS 3 cS]) (d := some 48) rfl rfl (by kernel_rfl) (by kernel_rfl) (by kernel_rfl) (fun _ _ _ h => h) (Or.inl ⟨by rfl, ?_⟩) hH ?_
        · (intro w hSw; (try dsimp only at hSw); go_split_ands; go_simp; try with_reducible rfl)
        try simp only [Act.put, List.setIfInBounds_toArray, List.set_cons_zero, List.set_cons_succ]
        refine wpAnyH_take_dst (i := 2) (v := .agg #[.int .i64 W.var, .slice SA 3 3, .slice SB 3 3]) (d := some 49) rfl rfl (by kernel_rfl) (by kernel_rfl) (by kernel_rfl) (fun _ _ _ h => h) (Or.inl ⟨by rfl, ?_⟩) hH ?_
        · (intro w hSw; (try dsimp only at hSw); go_split_ands; go_simp; try with_reducible rfl)
        try simp only [Act.put, List.setIfInBounds_toArray, List.set_cons_zero, List.set_cons_succ]
        refine wpAnyH_ready (rs := [3]) (by kernel_rfl) (by simp) ?_
        refine AllReadyH.cons rfl (fun K hK => ?_) AllReadyH.nil
        rw [if_pos (by rfl)]
        go_wp2_with (go_at_call 40; (with_reducible refine ((c_lightestB HL.out (RdSig.mk (HX.out.ext hH.2.2.2.2).sg) (RdWt.mk (HX.out.ext hH.2.2.2.2).sy (HX.out.ext hH.2.2.2.2).rk))).mono ?_); rintro e w9 ⟨rfl, hE9⟩)
        refine hK.out _ _ ⟨Ext.keep hE9 hH.1, Ext.keep hE9 hH.2.1, Ext.keep hE9 hH.2.2.1, Ext.keep hE9 hH.2.2.2.1, Ext.trans hH.2.2.2.2 hE9⟩ (fun hH9 => ?_)
        clear hK hH; have hH := hH9; clear hH9
        try simp only [Act.put, List.setIfInBounds_toArray, List.set_cons_zero, List.set_cons_succ]
        refine wpAnyH_take_dst (i := 4) (v := .bool false) (d := some 51) rfl rfl (by kernel_rfl) (by kernel_rfl) (by kernel_rfl) (fun _ _ _ h => h) (Or.inl ⟨by rfl, ?_⟩) hH ?_
        · (intro w hSw; (try dsimp only at hSw); go_split_ands; go_simp; try with_reducible rfl)
        try simp only [Act.put, List.setIfInBounds_toArray, List.set_cons_zero, List.set_cons_succ]
        refine wpAnyH_take_dst (i := 5) (v := .bool false) (d := some 52) rfl rfl (by kernel_rfl) (by kernel_rfl) (by kernel_rfl) (fun _ _ _ h => h) (Or.inl ⟨by rfl, ?_⟩) hH ?_
        · (intro w hSw; (try dsimp only at hSw); go_split_ands; go_simp; try with_reducible rfl)
        try simp only [Act.put, List.setIfInBounds_toArray, List.set_cons_zero, List.set_cons_succ]
        refine wpAnyH_take_dst (i := 6) (v := .agg #[.slice AS 3 cS]) (d := some 53) rfl rfl (by kernel_rfl) (by kernel_rfl) (by kernel_rfl) (fun _ _ _ h => h) (Or.inl ⟨by rfl, ?_⟩) hH ?_
        · (intro w hSw; (try dsimp only at hSw); go_split_ands; go_simp; try with_reducible rfl)
        try simp only [Act.put, List.setIfInBounds_toArray, List.set_cons_zero, List.set_cons_succ]
        refine wpAnyH_take_dst (i := 7) (v := .agg #[.int .i64 W.var, .slice SA 3 3, .slice SB 3 3]) (d := some 54) rfl rfl (by kernel_rfl) (by kernel_rfl) (by kernel_rfl) (fun _ _ _ h => h) (Or.inl ⟨by rfl, ?_⟩) hH ?_
        · (intro w hSw; (try dsimp only at hSw); go_split_ands; go_simp; try with_reducible rfl)
        try simp only [Act.put, List.setIfInBounds_toArray, List.set_cons_zero, List.set_cons_succ]
        refine wpAnyH_take_dst (i := 9) (v := .pointer (some ⟨qp, 0, none⟩)) (d := some 56) rfl rfl (by kernel_rfl) (by kernel_rfl) (by kernel_rfl) (fun _ _ _ h => h) (Or.inl ⟨by rfl, ?_⟩) hH ?_
        · (intro w hSw; (try dsimp only at hSw); go_split_ands; go_simp; try with_reducible rfl)
        try simp only [Act.put, List.setIfInBounds_toArray, List.set_cons_zero, List.set_cons_succ]
        refine wpAnyH_take_dst (i := 10) (v := .int .i64 W.var) (d := some 57) rfl rfl (by kernel_rfl) (by kernel_rfl) (by kernel_rfl) (fun _ _ _ h => h) (Or.inl ⟨by rfl, ?_⟩) hH ?_
        · (intro w hSw; (try dsimp only at hSw); go_split_ands; go_simp; try with_reducible rfl)
        try simp only [Act.put, List.setIfInBounds_toArray, List.set_cons_zero, List.set_cons_succ]
        refine wpAnyH_ready (rs := [8]) (by kernel_rfl) (by simp) ?_
        refine AllReadyH.cons rfl (fun K hK => ?_) AllReadyH.nil
        rw [if_pos (by rfl)]
        go_wp2_with (go_at_call 40; (with_reducible refine ((c_lightestB HL.out (RdSig.mk (HX.out.ext hH.2.2.2.2).sg) (RdWt.mk (HX.out.ext hH.2.2.2.2).sy (HX.out.ext hH.2.2.2.2).rk))).mono ?_); rintro e w9 ⟨rfl, hE9⟩)
        refine hK.out _ _ ⟨Ext.keep hE9 hH.1, Ext.keep hE9 hH.2.1, Ext.keep hE9 hH.2.2.1, Ext.keep hE9 hH.2.2.2.1, Ext.trans hH.2.2.2.2 hE9⟩ (fun hH9 => ?_)
        clear hK hH; have hH := hH9; clear hH9
        try simp only [Act.put, List.setIfInBounds_toArray, List.set_cons_zero, List.set_cons_succ]
        refine wpAnyH_take_dst (i := 11) (v := .bool false) (d := some 58) rfl rfl (by kernel_rfl) (by kernel_rfl) (by kernel_rfl) (fun _ _ _ h => h) (Or.inl ⟨by rfl, ?_⟩) hH ?_
        · (intro w hSw; (try dsimp only at hSw); go_split_ands; go_simp; try with_reducible rfl)
        try simp only [Act.put, List.setIfInBounds_toArray, List.set_cons_zero, List.set_cons_succ]
        refine wpAnyH_take_dst (i := 12) (v := .bool false) (d := some 59) rfl rfl (by kernel_rfl) (by kernel_rfl) (by kernel_rfl) (fun _ _ _ h => h) (Or.inl ⟨by rfl, ?_⟩) hH ?_
        · (intro w hSw; (try dsimp only at hSw); go_split_ands; go_simp; try with_reducible rfl)
        try simp only [Act.put, List.setIfInBounds_toArray, List.set_cons_zero, List.set_cons_succ]
        refine wpAnyH_take_dst (i := 13) (v := .bool false) (d := some 60) rfl rfl (by kernel_rfl) (by kernel_rfl) (by kernel_rfl) (fun _ _ _ h => h) (Or.inl ⟨by rfl, ?_⟩) hH ?_
        · (intro w hSw; (try dsimp only at hSw); go_split_ands; go_simp; try with_reducible rfl)
        try simp only [Act.put, List.setIfInBounds_toArray, List.set_cons_zero, List.set_cons_succ]
        refine wpAnyH_take_dst (i := 14) (v := .int .i64 X) (d := some 61) rfl rfl (by kernel_rfl) (by kernel_rfl) (by kernel_rfl) (fun _ _ _ h => h) (Or.inl ⟨by rfl, ?_⟩) hH ?_
        · (intro w hSw; (try dsimp only at hSw); go_split_ands; go_simp; try with_reducible rfl)
        try simp only [Act.put, List.setIfInBounds_toArray, List.set_cons_zero, List.set_cons_succ]
        refine wpAnyH_take_dst (i := 15) (v := .int .i64 Y) (d := some 62) rfl rfl (by kernel_rfl) (by kernel_rfl) (by kernel_rfl) (fun _ _ _ h => h) (Or.inl ⟨by rfl, ?_⟩) hH ?_
        · (intro w hSw; (try dsimp only at hSw); go_split_ands; go_simp; try with_reducible rfl)
        try simp only [Act.put, List.setIfInBounds_toArray, List.set_cons_zero, List.set_cons_succ]
        refine wpAnyH_take_dst (i := 16) (v := .bool false) (d := some 63) rfl rfl (by kernel_rfl) (by kernel_rfl) (by kernel_rfl) (fun _ _ _ h => h) (Or.inl ⟨by rfl, ?_⟩) hH ?_
        · (intro w hSw; (try dsimp only at hSw); go_split_ands; go_simp; try with_reducible rfl)
        try simp only [Act.put, List.setIfInBounds_toArray, List.set_cons_zero, List.set_cons_succ]
        refine wpAnyH_take_dst (i := 17) (v := .bool false) (d := some 64) rfl rfl (by kernel_rfl) (by kernel_rfl) (by kernel_rfl) (fun _ _ _ h => h) (Or.inl ⟨by rfl, ?_⟩) hH ?_
        · (intro w hSw; (try dsimp only at hSw); go_split_ands; go_simp; try with_reducible rfl)
        try simp only [Act.put, List.setIfInBounds_toArray, List.set_cons_zero, List.set_cons_succ]
        refine wpAnyH_take_dst (i := 18) (v := undef) (d := some 65) rfl rfl (by kernel_rfl) (by kernel_rfl) (by kernel_rfl) (fun _ _ _ h => h) (Or.inr ⟨by rfl, rfl⟩) hH ?_
        try simp only [Act.put, List.setIfInBounds_toArray, List.set_cons_zero, List.set_cons_succ]
        refine wpAnyH_take_dst (i := 19) (v := undef) (d := some 66) rfl rfl (by kernel_rfl) (by kernel_rfl) (by kernel_rfl) (fun _ _ _ h => h) (Or.inr ⟨by rfl, rfl⟩) hH ?_
        try simp only [Act.put, List.setIfInBounds_toArray, List.set_cons_zero, List.set_cons_succ]
        refine wpAnyH_take_dst (i := 20) (v := undef) (d := some 67) rfl rfl (by kernel_rfl) (by kernel_rfl) (by kernel_rfl) (fun _ _ _ h => h) (Or.inr ⟨by rfl, rfl⟩) hH ?_
        try simp only [Act.put, List.setIfInBounds_toArray, List.set_cons_zero, List.set_cons_succ]
        refine wpAnyH_take_dst (i := 21) (v := undef) (d := some 68) rfl rfl (by kernel_rfl) (by kernel_rfl) (by kernel_rfl) (fun _ _ _ h => h) (Or.inr ⟨by rfl, rfl⟩) hH ?_
        try simp only [Act.put, List.setIfInBounds_toArray, List.set_cons_zero, List.set_cons_succ]
        refine wpAnyH_take_dst (i := 22) (v := undef) (d := some 69) rfl rfl (by kernel_rfl) (by kernel_rfl) (by kernel_rfl) (fun _ _ _ h => h) (Or.inr ⟨by rfl, rfl⟩) hH ?_
        try simp only [Act.put, List.setIfInBounds_toArray, List.set_cons_zero, List.set_cons_succ]
        refine wpAnyH_take_dst (i := 23) (v := undef) (d := some 70) rfl rfl (by kernel_rfl) (by kernel_rfl) (by kernel_rfl) (fun _ _ _ h => h) (Or.inr ⟨by rfl, rfl⟩) hH ?_
        try simp only [Act.put, List.setIfInBounds_toArray, List.set_cons_zero, List.set_cons_succ]
        refine wpAnyH_take_dst (i := 24) (v := .bool false) (d := some 71) rfl rfl (by kernel_rfl) (by kernel_rfl) (by kernel_rfl) (fun _ _ _ h => h) (Or.inl ⟨by rfl, ?_⟩) hH ?_
        · (intro w hSw; (try dsimp only at hSw); go_split_ands; go_simp; try with_reducible rfl)
        try simp only [Act.put, List.setIfInBounds_toArray, List.set_cons_zero, List.set_cons_succ]
        refine wpAnyH_take_dst (i := 25) (v := .bool false) (d := some 72) rfl rfl (by kernel_rfl) (by kernel_rfl) (by kernel_rfl) (fun _ _ _ h => h) (Or.inl ⟨by rfl, ?_⟩) hH ?_
        · (intro w hSw; (try dsimp only at hSw); go_split_ands; go_simp; try with_reducible rfl)
        try simp only [Act.put, List.setIfInBounds_toArray, List.set_cons_zero, List.set_cons_succ]
        refine wpAnyH_done (by kernel_rfl) ?_ _
        exact ⟨_, _, _, _, _, _, _, _, by rfl, hH⟩
    obtain ⟨v63, v64, v65, v66, v67, v68, v69, v70, ha, hk0, hk1, hk2, hk3, hE12⟩ := hR
    simp only [Act.put, List.setIfInBounds_toArray, List.set_cons_zero, List.set_cons_succ] at ha
    subst ha
    have HX12 := Lib.hid (HX.out.ext hE12)
    have hE712 : Ext w7 w12 := Ext.trans hE711 hE12
    have hO0 : OwI (w12.alloc (.cells #[.int .i64 0] 2)) w12.heap.size (some ⟨w12.heap.size, 0, none⟩) 1 1 [0] := OwI.fresh (w := w12) [0] (by simp)
    have HO0 := Lib.hid hO0
    obtain ⟨i0, hii, hiz, his, hib⟩ := info_parts int64_info
    clear hO0
    go_wp2_with (at_builtin; go_loud (refine wpList_append_ints rfl (.tmp 73) (.tmp 74) 22 rfl i0 Try.underlying22 hii hiz his hib (D := w12.heap.size) rfl HO0.out rfl (RI.ext HX12.out.ta (by (repeat' (first | (with_reducible exact Ext.refl _) | (with_reducible assumption) | (with_reducible refine Ext.alloc ?_ _) | (with_reducible refine Ext.set ?_ ?_ _) | (with_reducible refine Ext.drewN ?_ _) | (with_reducible refine Ext.drew ?_) | (with_reducible refine Ext.trans ?_ (by with_reducible assumption)) | go_size)))) (by omega) (by go_size) (by omega) ?_))
    intro A13 c13 w13 hO13 hg13 hat13
    have HO13 := Lib.hid hO13
    have hob13 := OwI.ob2 HO0.out
    have hE13 : Ext w12 w13 := Ext.grown ((Ext.refl w12).alloc _) hg13 (fun b hb => (hob13 b hb).1)
    have hs13 := hE13.size
    have hc13 := HO13.out.cap
    clear hO13 hg13 hat13 hob13
    go_wp2_with (at_builtin; go_loud (refine wpList_append_ints rfl (.tmp 75) (.tmp 76) 22 rfl i0 Try.underlying22 hii hiz his hib (D := w12.heap.size) rfl HO13.out rfl (RI.ext HX12.out.tb hE13) (by omega) hs13 hc13.1 ?_))
    intro A14 c14 w14 hO14 hg14 hat14
    have HO14 := Lib.hid hO14
    have hob14 := OwI.ob2 HO13.out
    have hE14 : Ext w12 w14 := Ext.grown hE13 hg14 (fun b hb => (hob14 b hb).1)
    clear hO14 hg14 hat14 hob14
    have HBO := Lib.hid (both_ok HOA.out HOB.out)
    have HXB := Lib.hid (HX12.out.ext hE14)
    have hlb : (Tm.node 0 [a, b]).flat.length = 1 + na + nb := by rw [HBO.out.2]; simp [HLA.out, HLB.out]; omega
    have HRB := Lib.hid (show RI w14 A14 (1 + na + nb) (Tm.node 0 [a, b]).flat by rw [HBO.out.2]; simpa using HO14.out.ri)
    have HGB2 := Lib.hid (show Gnd (Tm.node 0 [a, b]).flat by rw [HBO.out.2]; exact fun x hx => (List.mem_cons.1 hx).elim (fun e => by omega) (fun hx => (List.mem_append.1 hx).elim (HGA.out x) (HGB.out x)))
    have HPB2 := Lib.hid (term3 HBO.out.1 (by omega) (fun x hx => by have := HGB2.out x hx; omega))
    have HZ := Lib.hid (show weightOf ar3 W (Tm.node 0 [a, b]).flat = s0 + X + Y by
      rw [weight3 HW.out HPB2.out, HBO.out.2, wtOf_cons, wtOf_append, ← HXW.out, ← HYW.out, wt1_sym (s := s0) (by omega) (by rw [HSY.out]; rfl)]; omega)
    have HPL := Lib.hid (show weightOf ar3 (plainWt ar3) (Tm.node 0 [a, b]).flat = ((1 + na + nb : Nat) : Int) by rw [plain_len HPB2.out HBO.out.1 HGB2.out, hlb])
    have HP3 := Lib.hid (show wtOk ar3 (plainWt ar3) = true from wtOk_iff.2 plain3)
    obtain ⟨bsa, osa, x0a, esa, hxa, hca⟩ := RI.at_ HXB.out.sy (show 0 < 3 by omega)
    rw [Nat.add_zero] at hca
    subst esa
    have hx0a : x0a = s0 := by have h1 := hxa; rw [HSY.out] at h1; cases h1; rfl
    subst hx0a
    have hXb1 : X ≤ 20 * na := by rw [HXW.out, ← HLA.out]; exact wt_le3 HSY.out hu0 hu1 hu2 HOA.out HGA.out
    have hXb2 : Y ≤ 20 * nb := by rw [HYW.out, ← HLB.out]; exact wt_le3 HSY.out hu0 hu1 hu2 HOB.out HGB.out
    have hXb3 : s2 ≤ Y := by rw [HYW.out]; exact wt_ge3 HSY.out hp0' hp1' (by omega) HOB.out HGB.out
    have hw1 : IntKind.i64.wrap (x0a + X) = x0a + X := IntWalk.i64_in _ (by omega)
    have hw2 : IntKind.i64.wrap (x0a + X + Y) = x0a + X + Y := IntWalk.i64_in _ (by omega)
    have heq1 : (x0a + X + Y == x0a + X + Y) = true := by simp
    have heq2 : (((1 + na + nb : Nat) : Int) == ((1 + na + nb : Nat) : Int)) = true := by simp
    go_wp2_with fail
    refine wp_region_held_drew (S := (fun w' => w'.cell? ⟨sp, 0, none⟩ = some (.slice AS 3 cS) ∧ w'.cell? ⟨qp, 0, none⟩ = some (.int .i64 W.var) ∧ w'.cell? ⟨qp, 1, none⟩ = some (.slice (some ⟨bsa, osa, none⟩) 3 3) ∧ w'.cell? ⟨qp, 2, none⟩ = some (.slice SB 3 3) ∧ w'.cell? ⟨bsa, osa, none⟩ = some (.int .i64 x0a) ∧ Ext w14 w')) (by kernel_rfl) ?_ (fun hH => ?_)
    · exact ⟨HXB.out.s0, HXB.out.q0, HXB.out.q1, HXB.out.q2, Ext.keep (Ext.refl w14).drew hca, (Ext.refl w14).drew⟩
    refine wpAnyH_take_dst (i := 0) (v := .agg #[.slice AS 3 cS]) (d := some 78) rfl rfl (by kernel_rfl) (by kernel_rfl) (by kernel_rfl) (fun _ _ _ h => h) (Or.inl ⟨by rfl, ?_⟩) hH ?_
    · (intro w hSw; (try dsimp only at hSw); go_split_ands; go_simp; try with_reducible rfl)
    try simp only [Act.put, List.setIfInBounds_toArray, List.set_cons_zero, List.set_cons_succ]
    refine wpAnyH_take_dst (i := 1) (v := .agg #[.int .i64 W.var, .slice (some ⟨bsa, osa, none⟩) 3 3, .slice SB 3 3]) (d := some 79) rfl rfl (by kernel_rfl) (by kernel_rfl) (by kernel_rfl) (fun _ _ _ h => h) (Or.inl ⟨by rfl, ?_⟩) hH ?_
    · (intro w hSw; (try dsimp only at hSw); go_split_ands; go_simp; try with_reducible rfl)
    try simp only [Act.put, List.setIfInBounds_toArray, List.set_cons_zero, List.set_cons_succ]
    refine wpAnyH_take_dst (i := 2) (v := .slice A14 (1 + na + nb) c14) (d := some 80) rfl rfl (by kernel_rfl) (by kernel_rfl) (by kernel_rfl) (fun _ _ _ h => h) (Or.inl ⟨by rfl, ?_⟩) hH ?_
    · (intro w hSw; (try dsimp only at hSw); go_split_ands; go_simp; try with_reducible rfl)
    try simp only [Act.put, List.setIfInBounds_toArray, List.set_cons_zero, List.set_cons_succ]
    refine wpAnyH_take_dst (i := 4) (v := .pointer (some ⟨qp, 1, none⟩)) (d := some 82) rfl rfl (by kernel_rfl) (by kernel_rfl) (by kernel_rfl) (fun _ _ _ h => h) (Or.inl ⟨by rfl, ?_⟩) hH ?_
    · (intro w hSw; (try dsimp only at hSw); go_split_ands; go_simp; try with_reducible rfl)
    try simp only [Act.put, List.setIfInBounds_toArray, List.set_cons_zero, List.set_cons_succ]
    refine wpAnyH_take_dst (i := 5) (v := .slice (some ⟨bsa, osa, none⟩) 3 3) (d := some 83) rfl rfl (by kernel_rfl) (by kernel_rfl) (by kernel_rfl) (fun _ _ _ h => h) (Or.inl ⟨by rfl, ?_⟩) hH ?_
    · (intro w hSw; (try dsimp only at hSw); go_split_ands; go_simp; try with_reducible rfl)
    try simp only [Act.put, List.setIfInBounds_toArray, List.set_cons_zero, List.set_cons_succ]
    refine wpAnyH_take_dst (i := 6) (v := .pointer (some ⟨bsa, osa, none⟩)) (d := some 84) rfl rfl (by kernel_rfl) (by kernel_rfl) (by kernel_rfl) (fun _ _ _ h => h) (Or.inl ⟨by rfl, ?_⟩) hH ?_
    · (intro w hSw; (try dsimp only at hSw); go_split_ands; go_simp; try with_reducible rfl)
    try simp only [Act.put, List.setIfInBounds_toArray, List.set_cons_zero, List.set_cons_succ]
    refine wpAnyH_take_dst (i := 7) (v := .int .i64 x0a) (d := some 85) rfl rfl (by kernel_rfl) (by kernel_rfl) (by kernel_rfl) (fun _ _ _ h => h) (Or.inl ⟨by rfl, ?_⟩) hH ?_
    · (intro w hSw; (try dsimp only at hSw); go_split_ands; go_simp; try with_reducible rfl)
    try simp only [Act.put, List.setIfInBounds_toArray, List.set_cons_zero, List.set_cons_succ]
    refine wpAnyH_take_dst (i := 8) (v := .int .i64 X) (d := some 86) rfl rfl (by kernel_rfl) (by kernel_rfl) (by kernel_rfl) (fun _ _ _ h => h) (Or.inl ⟨by rfl, ?_⟩) hH ?_
    · (intro w hSw; (try dsimp only at hSw); go_split_ands; go_simp; try with_reducible rfl)
    try simp only [Act.put, List.setIfInBounds_toArray, List.set_cons_zero, List.set_cons_succ]
    refine wpAnyH_take_dst (i := 9) (v := .int .i64 (x0a + X)) (d := some 87) rfl rfl (by kernel_rfl) (by kernel_rfl) (by kernel_rfl) (fun _ _ _ h => h) (Or.inl ⟨by rfl, ?_⟩) hH ?_
    · (intro w hSw; (try dsimp only at hSw); go_split_ands; go_simp; try with_reducible rfl)
    try simp only [Act.put, List.setIfInBounds_toArray, List.set_cons_zero, List.set_cons_succ]
    refine wpAnyH_take_dst (i := 10) (v := .int .i64 Y) (d := some 88) rfl rfl (by kernel_rfl) (by kernel_rfl) (by kernel_rfl) (fun _ _ _ h => h) (Or.inl ⟨by rfl, ?_⟩) hH ?_
    · (intro w hSw; (try dsimp only at hSw); go_split_ands; go_simp; try with_reducible rfl)
    try simp only [Act.put, List.setIfInBounds_toArray, List.set_cons_zero, List.set_cons_succ]
    refine wpAnyH_take_dst (i := 11) (v := .int .i64 (x0a + X + Y)) (d := some 89) rfl rfl (by kernel_rfl) (by kernel_rfl) (by kernel_rfl) (fun _ _ _ h => h) (Or.inl ⟨by rfl, ?_⟩) hH ?_
    · (intro w hSw; (try dsimp only at hSw); go_split_ands; go_simp; try with_reducible rfl)
    try simp only [Act.put, List.setIfInBounds_toArray, List.set_cons_zero, List.set_cons_succ]
    refine wpAnyH_ready (rs := [3]) (by kernel_rfl) (by simp) ?_
    refine AllReadyH.cons rfl (fun K hK => ?_) AllReadyH.nil
    rw [if_pos (by rfl)]
    go_wp2_with (go_at_call 39; (with_reducible refine ((c_weightOfB HZ.out (RdSig.mk (HXB.out.ext hH.2.2.2.2.2).sg) (RdWt.mk (HXB.out.ext hH.2.2.2.2.2).sy (HXB.out.ext hH.2.2.2.2.2).rk) (RdI.mk (RI.ext HRB.out hH.2.2.2.2.2)))).mono ?_); rintro e w9 ⟨rfl, hE9⟩)
    refine hK.out _ _ ⟨Ext.keep hE9 hH.1, Ext.keep hE9 hH.2.1, Ext.keep hE9 hH.2.2.1, Ext.keep hE9 hH.2.2.2.1, Ext.keep hE9 hH.2.2.2.2.1, Ext.trans hH.2.2.2.2.2 hE9⟩ (fun hH9 => ?_)
    clear hK hH; have hH := hH9; clear hH9
    try simp only [Act.put, List.setIfInBounds_toArray, List.set_cons_zero, List.set_cons_succ]
    refine wpAnyH_take_dst (i := 12) (v := .bool true) (d := some 90) rfl rfl (by kernel_rfl) (by kernel_rfl) (by kernel_rfl) (fun _ _ _ h => h) (Or.inl ⟨by rfl, ?_⟩) hH ?_
    · (intro w hSw; (try dsimp only at hSw); go_split_ands; go_simp; try with_reducible rfl)
    try simp only [Act.put, List.setIfInBounds_toArray, List.set_cons_zero, List.set_cons_succ]
    refine wpAnyH_take_dst (i := 13) (v := .bool true) (d := some 91) rfl rfl (by kernel_rfl) (by kernel_rfl) (by kernel_rfl) (fun _ _ _ h => h) (Or.inl ⟨by rfl, ?_⟩) hH ?_
    · (intro w hSw; (try dsimp only at hSw); go_split_ands; go_simp; try with_reducible rfl)
    try simp only [Act.put, List.setIfInBounds_toArray, List.set_cons_zero, List.set_cons_succ]
    refine wpAnyH_take_dst (i := 14) (v := .agg #[.slice AS 3 cS]) (d := some 92) rfl rfl (by kernel_rfl) (by kernel_rfl) (by kernel_rfl) (fun _ _ _ h => h) (Or.inl ⟨by rfl, ?_⟩) hH ?_
    · (intro w hSw; (try dsimp only at hSw); go_split_ands; go_simp; try with_reducible rfl)
    try simp only [Act.put, List.setIfInBounds_toArray, List.set_cons_zero, List.set_cons_succ]
    refine wpAnyH_take_dst (i := 15) (v := .agg #[.slice AS 3 cS]) (d := some 93) rfl rfl (by kernel_rfl) (by kernel_rfl) (by kernel_rfl) (fun _ _ _ h => h) (Or.inl ⟨by rfl, ?_⟩) hH ?_
    · (intro w hSw; (try dsimp only at hSw); go_split_ands; go_simp; try with_reducible rfl)
    try simp only [Act.put, List.setIfInBounds_toArray, List.set_cons_zero, List.set_cons_succ]
    refine wpAnyH_ready (rs := [16]) (by kernel_rfl) (by simp) ?_
    refine AllReadyH.cons rfl (fun K hK => ?_) AllReadyH.nil
    rw [if_pos (by rfl)]
    go_wp2_with fail
    (with_reducible refine ((c_iPlainWeights (RdSig.mk (HXB.out.ext hH.2.2.2.2.2).sg))).mono ?_)
    rintro e w15 ⟨A5, n5, c5, B5, m5, d5, rfl, hO5, hP5, hN5, hE9⟩
    refine hK.out _ _ ⟨Ext.keep hE9 hH.1, Ext.keep hE9 hH.2.1, Ext.keep hE9 hH.2.2.1, Ext.keep hE9 hH.2.2.2.1, Ext.keep hE9 hH.2.2.2.2.1, Ext.trans hH.2.2.2.2.2 hE9⟩ (fun hH9 => ?_)
    clear hK hH; have hH := hH9; clear hH9
    try simp only [Act.put, List.setIfInBounds_toArray, List.set_cons_zero, List.set_cons_succ]
    refine wpAnyH_ready (rs := [17]) (by kernel_rfl) (by simp) ?_
    refine AllReadyH.cons rfl (fun K hK => ?_) AllReadyH.nil
    rw [if_pos (by rfl)]
    go_wp2_with (go_at_call 41; (with_reducible refine ((c_weightsOkB HP3.out (RdSig.mk (HXB.out.ext hH.2.2.2.2.2).sg) (RdWt.mk (OwI.ri hO5) (OwI.ri hP5)))).mono ?_); rintro e w9 ⟨rfl, hE9⟩)
    refine hK.out _ _ ⟨Ext.keep hE9 hH.1, Ext.keep hE9 hH.2.1, Ext.keep hE9 hH.2.2.1, Ext.keep hE9 hH.2.2.2.1, Ext.keep hE9 hH.2.2.2.2.1, Ext.trans hH.2.2.2.2.2 hE9⟩ (fun hH9 => ?_)
    clear hK hH; have hH := hH9; clear hH9
    try simp only [Act.put, List.setIfInBounds_toArray, List.set_cons_zero, List.set_cons_succ]
    refine wpAnyH_take_dst (i := 18) (v := .bool true) (d := some 96) rfl rfl (by kernel_rfl) (by kernel_rfl) (by kernel_rfl) (fun _ _ _ h => h) (Or.inl ⟨by rfl, ?_⟩) hH ?_
    · (intro w hSw; (try dsimp only at hSw); go_split_ands; go_simp; try with_reducible rfl)
    try simp only [Act.put, List.setIfInBounds_toArray, List.set_cons_zero, List.set_cons_succ]
    refine wpAnyH_take_dst (i := 19) (v := .bool true) (d := some 97) rfl rfl (by kernel_rfl) (by kernel_rfl) (by kernel_rfl) (fun _ _ _ h => h) (Or.inl ⟨by rfl, ?_⟩) hH ?_
    · (intro w hSw; (try dsimp only at hSw); go_split_ands; go_simp; try with_reducible rfl)
    try simp only [Act.put, List.setIfInBounds_toArray, List.set_cons_zero, List.set_cons_succ]
    refine wpAnyH_take_dst (i := 20) (v := .agg #[.slice AS 3 cS]) (d := some 98) rfl rfl (by kernel_rfl) (by kernel_rfl) (by kernel_rfl) (fun _ _ _ h => h) (Or.inl ⟨by rfl, ?_⟩) hH ?_
    · (intro w hSw; (try dsimp only at hSw); go_split_ands; go_simp; try with_reducible rfl)
    try simp only [Act.put, List.setIfInBounds_toArray, List.set_cons_zero, List.set_cons_succ]
    refine wpAnyH_take_dst (i := 21) (v := .agg #[.slice AS 3 cS]) (d := some 99) rfl rfl (by kernel_rfl) (by kernel_rfl) (by kernel_rfl) (fun _ _ _ h => h) (Or.inl ⟨by rfl, ?_⟩) hH ?_
    · (intro w hSw; (try dsimp only at hSw); go_split_ands; go_simp; try with_reducible rfl)
    try simp only [Act.put, List.setIfInBounds_toArray, List.set_cons_zero, List.set_cons_succ]
    refine wpAnyH_take_dst (i := 23) (v := .slice A14 (1 + na + nb) c14) (d := some 101) rfl rfl (by kernel_rfl) (by kernel_rfl) (by kernel_rfl) (fun _ _ _ h => h) (Or.inl ⟨by rfl, ?_⟩) hH ?_
    · (intro w hSw; (try dsimp only at hSw); go_split_ands; go_simp; try with_reducible rfl)
    try simp only [Act.put, List.setIfInBounds_toArray, List.set_cons_zero, List.set_cons_succ]
    refine wpAnyH_take_dst (i := 25) (v := .slice A14 (1 + na + nb) c14) (d := some 103) rfl rfl (by kernel_rfl) (by kernel_rfl) (by kernel_rfl) (fun _ _ _ h => h) (Or.inl ⟨by rfl, ?_⟩) hH ?_
    · (intro w hSw; (try dsimp only at hSw); go_split_ands; go_simp; try with_reducible rfl)
    try simp only [Act.put, List.setIfInBounds_toArray, List.set_cons_zero, List.set_cons_succ]
    refine wpAnyH_take_dst (i := 26) (v := .int .i64 ((1 + na + nb : Nat) : Int)) (d := some 104) rfl rfl (by kernel_rfl) (by kernel_rfl) (by kernel_rfl) (fun _ _ _ h => h) (Or.inl ⟨by rfl, ?_⟩) hH ?_
    · (intro w hSw; (try dsimp only at hSw); go_split_ands; go_simp; try with_reducible rfl)
    try simp only [Act.put, List.setIfInBounds_toArray, List.set_cons_zero, List.set_cons_succ]
    refine wpAnyH_ready (rs := [22]) (by kernel_rfl) (by simp) ?_
    refine AllReadyH.cons rfl (fun K hK => ?_) AllReadyH.nil
    rw [if_pos (by rfl)]
    go_wp2_with fail
    (with_reducible refine ((c_iPlainWeights (RdSig.mk (HXB.out.ext hH.2.2.2.2.2).sg))).mono ?_)
    rintro e w16 ⟨A6, n6, c6, B6, m6, d6, rfl, hO6, hP6, hN6, hE9⟩
    refine hK.out _ _ ⟨Ext.keep hE9 hH.1, Ext.keep hE9 hH.2.1, Ext.keep hE9 hH.2.2.1, Ext.keep hE9 hH.2.2.2.1, Ext.keep hE9 hH.2.2.2.2.1, Ext.trans hH.2.2.2.2.2 hE9⟩ (fun hH9 => ?_)
    clear hK hH; have hH := hH9; clear hH9
    try simp only [Act.put, List.setIfInBounds_toArray, List.set_cons_zero, List.set_cons_succ]
    refine wpAnyH_ready (rs := [24]) (by kernel_rfl) (by simp) ?_
    refine AllReadyH.cons rfl (fun K hK => ?_) AllReadyH.nil
    rw [if_pos (by rfl)]
    go_wp2_with (go_at_call 39; (with_reducible refine ((c_weightOfB HPL.out (RdSig.mk (HXB.out.ext hH.2.2.2.2.2).sg) (RdWt.mk (OwI.ri hO6) (OwI.ri hP6)) (RdI.mk (RI.ext HRB.out hH.2.2.2.2.2)))).mono ?_); rintro e w9 ⟨rfl, hE9⟩)
    refine hK.out _ _ ⟨Ext.keep hE9 hH.1, Ext.keep hE9 hH.2.1, Ext.keep hE9 hH.2.2.1, Ext.keep hE9 hH.2.2.2.1, Ext.keep hE9 hH.2.2.2.2.1, Ext.trans hH.2.2.2.2.2 hE9⟩ (fun hH9 => ?_)
    clear hK hH; have hH := hH9; clear hH9
    try simp only [Act.put, List.setIfInBounds_toArray, List.set_cons_zero, List.set_cons_succ]
    refine wpAnyH_take_dst (i := 27) (v := .bool true) (d := some 105) rfl rfl (by kernel_rfl) (by kernel_rfl) (by kernel_rfl) (fun _ _ _ h => h) (Or.inl ⟨by rfl, ?_⟩) hH ?_
    · (intro w hSw; (try dsimp only at hSw); go_split_ands; go_simp; try with_reducible rfl)
    try simp only [Act.put, List.setIfInBounds_toArray, List.set_cons_zero, List.set_cons_succ]
    refine wpAnyH_take_dst (i := 28) (v := .bool true) (d := some 106) rfl rfl (by kernel_rfl) (by kernel_rfl) (by kernel_rfl) (fun _ _ _ h => h) (Or.inl ⟨by rfl, ?_⟩) hH ?_
    · (intro w hSw; (try dsimp only at hSw); go_split_ands; go_simp; try with_reducible rfl)
    try simp only [Act.put, List.setIfInBounds_toArray, List.set_cons_zero, List.set_cons_succ]
    refine wpAnyH_take_dst (i := 29) (v := .bool true) (d := some 2) rfl rfl (by kernel_rfl) (by kernel_rfl) (by kernel_rfl) (fun _ _ _ h => h) (Or.inl ⟨by rfl, ?_⟩) hH ?_
    · (intro w hSw; (try dsimp only at hSw); go_split_ands; go_simp; try with_reducible rfl)
    try simp only [Act.put, List.setIfInBounds_toArray, List.set_cons_zero, List.set_cons_succ]
    refine wpAnyH_done (by kernel_rfl) ?_ _
    have hE15 := hH.2.2.2.2.2
    have hEnd : Ext w w14 := Ext.trans hE07 (Ext.trans hE712 hE14)
    clear hH
    go_wp2_with fail
    go_ret
    exact ⟨rfl, Ext.trans hEnd hE15⟩

set_option maxRecDepth 100000 in
theorem lifted (os : Os) (started : os.Started) (H : Type) (enc : TypeId × Value → H) :
    ReturnsInHanded {} Try.checked os 6 .any (Rows.fnKboTotalSpec.pre6 enc Try.prog Try.f6 Rows.fnKboTotalRow.domain false) (Rows.fnKboTotalSpec.post enc Try.prog Try.f6 false true false false) := by
  refine returnsInHanded_of_change (C := Try.checked) own started (by kernel_rfl) Try.func6
    (ChangeSpec.witness6 (enc := enc) (C := Try.checked) false ⟨#[], #[.slice none 0 0], []⟩ 8 (by kernel_rfl) (by kernel_rfl) (by kernel_rfl) (by kernel_rfl)) ?_
  intro W base args ds gs before hval0 hW hcnd _
  have hval : ∀ (j : Nat) t v, Try.f6.params[j]? = some t → args[j]? = some v → Value.okWide Try.prog W .any base t v := hval0
  have hW' := hW
  obtain ⟨p, q, hA0, hV, rfl, hfz, hnd⟩ := hW
  have hA : DataW.TrodAll enc Try.prog W 0 (fun _ => true) true Try.f6.params.toList args.toList ds p := hA0
  rw [Try.params6] at hA hval
  obtain ⟨v0, vs0, d0, ds0, p0, q0, hargs, rfl, rfl, h0, r0⟩ := trodAll_cons hA
  obtain ⟨rfl, rfl, rfl⟩ := trodAll_nil r0
  obtain rfl : args = #[v0] := by cases args; simp_all
  obtain ⟨rfl, rfl⟩ := trodVars_none hV
  have k0 := h0
  have lt0 : ∀ x ∈ p0, x.block < W.heap.size := by obtain ⟨m, hm⟩ := k0; exact DataW.trod_lt m _ _ _ hm
  obtain ⟨x0, w0⟩ := raw_By (hval 0 57 v0 rfl rfl) h0
  clear hA0 hval0
  refine (walk w0).mono fun e W' ⟨he, bel⟩ => ?_
  subst he
  exact ⟨_, rfl, _, _, _, [], _, [], hW', trodAll_mk1 (shut_bool Try.underlying4 _), (trodAll_cons_mk (Below.trod laidOut (by kernel_rfl) (of_decide_eq_true (by kernel_rfl)) k0 bel lt0) trodAll_mk0), rfl, bel.frame _, fun h => by cases h⟩

theorem over : Rows.fnKboTotalRow.holds Try.pinned (OpenSpec.ofChange Rows.fnKboTotalSpec) :=
  OpenClaim.holds_of_wide 6 Try.f6 rfl rfl rfl rfl rfl rfl rfl ⟨rfl, rfl, rfl, rfl, rfl⟩ rfl rfl rfl rfl rfl (by kernel_rfl) Try.func6 (by kernel_rfl)
    (of_decide_eq_true (by kernel_rfl)) (by unfold Func.isWrapper; first | (rw [if_pos (by decide +kernel)]; kernel_rfl) | (rw [if_neg (by decide +kernel)]; exact ⟨rfl, rfl⟩))
    (fun os started H enc _ => lifted os started H enc)

theorem proved : Rows.FnKboTotalSaid := over

end Go.Proofs.Ythbfngobdnknjaa.FnKboTotal
