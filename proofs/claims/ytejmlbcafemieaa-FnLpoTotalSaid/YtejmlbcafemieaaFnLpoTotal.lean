/- Proved: for every input the law FnLpoTotal returns true, does not panic, and its argument reads afterwards as it read before. Conditions: none. -/
import Derived.Test.YtejmlbcafemieaaHeld
import Derived.Test.YtejmlbcafemieaaOpenBy
import Derived.Test.YtejmlbcafemieaaLpoTot
namespace Go.Proofs.Ytejmlbcafemieaa.FnLpoTotal
open Go.ChangeShapes Go.WideShapes Go.ChangeAt Go.RowKit
set_option linter.unusedSimpArgs false
set_option linter.unusedVariables false
set_option linter.constructorNameAsVariable false

theorem cell_onlyL {w w' : World} {g b o : Nat} {v : Value} (k : Only w w' g) (hb : b ≠ g) (hc : w.cell? ⟨b, o, none⟩ = some v) : w'.cell? ⟨b, o, none⟩ = some v := by
  rw [World.cell?_of_block (w := w) (w' := w') (a := ⟨b, o, none⟩) (k.block _ (World.block_lt_of_cell? w _ hc) (fun e => by cases e; exact hb rfl))]; exact hc
/-- What is there when the dice have been thrown. -/
structure There (w : World) (s : Nat) (AS AR TA TB TC : Option Addr) (cS na nb nc : Nat) (rk : List Int) (a b c : Tm) : Prop where
  s0 : w.cell? ⟨s, 0, none⟩ = some (.slice AS 3 cS)
  sg : RI w AS 3 arL
  rr : RI w AR 3 rk
  ta : RI w TA na a.flat
  tb : RI w TB nb b.flat
  tc : RI w TC nc c.flat
theorem There.ext {w w' : World} {s : Nat} {AS AR TA TB TC : Option Addr} {cS na nb nc : Nat} {rk : List Int} {a b c : Tm} (h : There w s AS AR TA TB TC cS na nb nc rk a b c) (k : Ext w w') : There w' s AS AR TA TB TC cS na nb nc rk a b c :=
  ⟨Ext.keep k h.s0, h.sg.ext k, h.rr.ext k, h.ta.ext k, h.tb.ext k, h.tc.ext k⟩

set_option maxRecDepth 100000 in
set_option maxHeartbeats 8000000 in
theorem walk {v0 : Value} {x0 : Nat} {w : World} (h0 : RawBy w v0 x0) :
    Calls Try.prog 5 #[v0] w fun e w' => e = .returned (.bool true) ∧ Ext w w' := by
  have H0 := Lib.hid h0
  obtain ⟨bb, hbb⟩ : ∃ bb, decide (4096 < x0) = bb := ⟨_, rfl⟩
  have HBB := Lib.hid hbb
  clear h0 hbb
  go_enter Try.func5, Try.ntmps5
  go_wp2_with fail
  (with_reducible refine (c_big HBB.out H0.out).mono ?_)
  rintro e w1 ⟨rfl, hE1⟩
  cases bb with
  | true =>
    go_wp2
    go_ret
    exact ⟨rfl, hE1⟩
  | false =>
    have hx : x0 ≤ 4096 := by have := HBB.out; simpa using this
    have H1 := Lib.hid (show RawBy w1 v0 x0 from by
      obtain ⟨A, c, e, h1, h2⟩ := H0.out
      refine ⟨A, c, e, h1, fun h => ?_⟩
      obtain ⟨b, o, e2, h3⟩ := h2 h
      exact ⟨b, o, e2, fun j hj => by obtain ⟨y, h4, h5⟩ := h3 j hj; exact ⟨y, Ext.keep hE1 h4, h5⟩⟩)
    go_wp2_with fail
    (with_reducible refine (c_roll H1.out hx).mono ?_)
    rintro e w2 ⟨g, rfl, hD2, hg2, hE2⟩
    have hE02 : Ext w w2 := Ext.trans hE1 hE2
    have hgw : w.heap.size ≤ g := by have := hE1.size; omega
    go_wp2_with fail
    (with_reducible refine (c_w9Sig).mono ?_)
    rintro e w3 ⟨AS, nS, cS, rfl, hO3, hE3⟩
    have hnS : nS = 3 := hO3.len.symm
    subst hnS
    have hg3 := hD2.lt
    have hs3 := hE3.size
    have HD3 := Lib.hid ((hD2.ext hE3).ext ((Ext.refl w3).alloc (.cells #[.slice AS 3 cS] 29)))
    have HS3 := Lib.hid (show RIg (w3.alloc (.cells #[.slice AS 3 cS] 29)) g AS 3 arL from RIg.ext (RIg.of hO3 hg3) ((Ext.refl w3).alloc _))
    have hb3 : (w3.alloc (.cells #[.slice AS 3 cS] 29)).cell? ⟨w3.heap.size, 0, none⟩ = some (.slice AS 3 cS) := by simp [go_sem]
    have hsg : w3.heap.size ≠ g := by omega
    have hE03 : Ext w (w3.alloc (.cells #[.slice AS 3 cS] 29)) := (Ext.trans hE02 hE3).alloc _
    clear hO3
    go_wp2_with fail
    (with_reducible refine (c_w9Rank HD3.out).mono ?_)
    rintro e w4 ⟨AR, rk, rfl, hR4, hperm, hD4, hO4⟩
    have hs4 := hO4.size
    simp only [World.size_alloc] at hs4
    have hE04 : Ext w w4 := hO4.ext hE03 hgw
    have HS4 := Lib.hid (HS3.out.only hO4)
    have hb4 := cell_onlyL hO4 hsg hb3
    have HRK := Lib.hid (permR_ok hperm)
    have hg4 := hD4.lt
    go_wp2_with fail
    (with_reducible refine (c_w9Term (g := g) (vars := 0) (by omega) (by omega) 2 (by omega) 3 (by omega) hD4).mono ?_)
    rintro e w5 ⟨TA, na, ca, a, rfl, hOx5, oka, ga, hna, hD5, hO5⟩
    have hs5 := hO5.size
    have hcapa := hOx5.cap
    have hlena := hOx5.len
    have HTA := Lib.hid (RIg.of hOx5 hg4)
    have hE05 : Ext w w5 := hO5.ext hE04 hgw
    have hg5 := hD5.lt
    have hna7 : na ≤ 7 := hna
    have HMa := Lib.hid (show TmL a from ⟨⟨oka, fun x hx => by have := ga x hx; omega⟩, termL oka (by omega) (fun x hx => by have := ga x hx; omega)⟩)
    clear hOx5
    go_wp2_with fail
    (with_reducible refine (c_w9Term (g := g) (vars := 0) (by omega) (by omega) 2 (by omega) 3 (by omega) hD5).mono ?_)
    rintro e w6 ⟨TB, nb, cb, b, rfl, hOx6, okb, gb, hnb, hD6, hO6⟩
    have hs6 := hO6.size
    have hcapb := hOx6.cap
    have hlenb := hOx6.len
    have HTB := Lib.hid (RIg.of hOx6 hg5)
    have hE06 : Ext w w6 := hO6.ext hE05 hgw
    have hg6 := hD6.lt
    have hnb7 : nb ≤ 7 := hnb
    have HMb := Lib.hid (show TmL b from ⟨⟨okb, fun x hx => by have := gb x hx; omega⟩, termL okb (by omega) (fun x hx => by have := gb x hx; omega)⟩)
    clear hOx6
    go_wp2_with fail
    (with_reducible refine (c_w9Term (g := g) (vars := 0) (by omega) (by omega) 2 (by omega) 3 (by omega) hD6).mono ?_)
    rintro e w7 ⟨TC, nc, cc, c, rfl, hOx7, okc, gc, hnc, hD7, hO7⟩
    have hs7 := hO7.size
    have hcapc := hOx7.cap
    have hlenc := hOx7.len
    have HTC := Lib.hid (RIg.of hOx7 hg6)
    have hE07 : Ext w w7 := hO7.ext hE06 hgw
    have hg7 := hD7.lt
    have hnc7 : nc ≤ 7 := hnc
    have HMc := Lib.hid (show TmL c from ⟨⟨okc, fun x hx => by have := gc x hx; omega⟩, termL okc (by omega) (fun x hx => by have := gc x hx; omega)⟩)
    clear hOx7
    have hO47 : Only w4 w7 g := hO5.trans (hO6.trans hO7)
    have hO57 : Only w5 w7 g := hO6.trans hO7
    have HT := Lib.hid (show There w7 w3.heap.size AS AR TA TB TC cS na nb nc rk a b c from
      ⟨cell_onlyL hO47 hsg hb4, (HS4.out.only hO47).1, (hR4.only hO47).1, (HTA.out.only hO57).1, (HTB.out.only hO7).1, HTC.out.1⟩)
    obtain ⟨sp, hsp⟩ : ∃ sp, sp = w3.heap.size := ⟨_, rfl⟩
    have HE7 := Lib.hid hE07
    have hc7 := HT.out.s0
    -- numbers
    obtain ⟨q1, q2, q3, q4⟩ := cmp_L HRK.out HMa.out HMb.out
    obtain ⟨X, hX⟩ : ∃ X, lpoCmpV arL rk a.flat b.flat = X := ⟨_, rfl⟩
    rw [hX] at q1 q2 q3 q4
    have HX := Lib.hid hX
    have HY := Lib.hid q3
    obtain ⟨ee, hee⟩ : ∃ z, (a.flat == b.flat) = z := ⟨_, rfl⟩
    have HEE := Lib.hid hee
    have hx0 : (X == 0) = ee := by rw [← hee]; rw [Bool.eq_iff_iff]; simp [q1]
    have hxe : (ee != ee) = false := by simp
    have hx2 : (X == 2) = false := by simp; omega
    have hxn : IntKind.i64.wrap (-X) = -X := IntWalk.i64_in _ (by omega)
    have hxx : (-X != -X) = false := by simp
    obtain ⟨X2, hX2⟩ : ∃ X, lpoCmpV arL rk b.flat c.flat = X := ⟨_, rfl⟩
    have HX2 := Lib.hid hX2
    have HXT := Lib.hid (show X = -1 → X2 = -1 → lpoCmpV arL rk a.flat c.flat = -1 from fun e1 e2 => by
      have k1 := q4.1 e1
      have k2 := (cmp_L HRK.out HMb.out HMc.out).2.2.2.1 (by rw [hX2]; exact e2)
      exact (cmp_L HRK.out HMa.out HMc.out).2.2.2.2 (G_trans HMc.out.inD HMb.out.inD HMa.out.inD k2 k1))
    obtain ⟨k, tp, hk1, hk2, hk3, hk4, hk5, hk6⟩ := great_L HRK.out HMa.out HMb.out HMc.out
    have HK := Lib.hid hk1
    clear hX hX2 hee hk1 q1 q3 q4 okb okc gb gc hlenb hlenc HTB HTC HTA HS3 HS4 HD3 hb3 hb4 hD4 hD5 hD6 hD7 hO4 hO5 hO6 hO7 hO47 hO57 hR4 hperm
    go_wp2_with fail
    rw [← hsp] at HT hc7 ⊢
    clear hsp
    (with_reducible refine (c_cmpB HX.out (RdSig.mk HT.out.sg) (RdI.mk HT.out.rr) (RdIc.mk hcapa HT.out.ta) (RdIc.mk hcapb HT.out.tb)).mono ?_)
    rintro e w8 ⟨rfl, hE8⟩
    have HT8 := Lib.hid (HT.out.ext hE8)
    have hc8 := HT8.out.s0
    go_wp2_with fail
    (with_reducible refine (c_likeInts HEE.out (RdI.mk HT8.out.ta) (RdI.mk HT8.out.tb)).mono ?_)
    rintro e w9 ⟨rfl, hE9⟩
    have HT9 := Lib.hid (HT8.out.ext hE9)
    have hc9 := HT9.out.s0
    go_wp2_with fail
    (with_reducible refine (c_cmpB HY.out (RdSig.mk HT9.out.sg) (RdI.mk HT9.out.rr) (RdIc.mk hcapb HT9.out.tb) (RdIc.mk hcapa HT9.out.ta)).mono ?_)
    rintro e w10 ⟨rfl, hE10⟩
    have HT10 := Lib.hid (HT9.out.ext hE10)
    have hc10 := HT10.out.s0
    have hE710 : Ext w7 w10 := Ext.trans (Ext.trans hE8 hE9) hE10
    have hc3 : X ≠ -1 ∨ (X = -1 ∧ X2 ≠ -1) ∨ (X = -1 ∧ X2 = -1) := by omega
    rcases hc3 with h1 | ⟨h1, h2⟩ | ⟨h1, h2⟩
    have hd : (X == -1) = false := by simpa using h1
    have HTt := HT10
    have hEt := hE710
    go_wp2_with fail
    rotate_left 1
    have hd : (X == -1) = true := by simpa using h1
    have hd2 : (X2 == -1) = false := by simpa using h2
    go_wp2_with fail
    (with_reducible refine (c_cmpB HX2.out (RdSig.mk HT10.out.sg) (RdI.mk HT10.out.rr) (RdIc.mk hcapb HT10.out.tb) (RdIc.mk hcapc HT10.out.tc)).mono ?_)
    rintro e w11 ⟨rfl, hE11⟩
    have HTt := Lib.hid (HT10.out.ext hE11)
    have hct := HTt.out.s0
    have hEt : Ext w7 w11 := Ext.trans hE710 hE11
    go_wp2_with fail
    rotate_left 1
    have hd : (X == -1) = true := by simpa using h1
    have hd2 : (X2 == -1) = true := by simpa using h2
    have HX3 := Lib.hid (HXT.out h1 h2)
    go_wp2_with fail
    (with_reducible refine (c_cmpB HX2.out (RdSig.mk HT10.out.sg) (RdI.mk HT10.out.rr) (RdIc.mk hcapb HT10.out.tb) (RdIc.mk hcapc HT10.out.tc)).mono ?_)
    rintro e w11 ⟨rfl, hE11⟩
    have HT11 := Lib.hid (HT10.out.ext hE11)
    have hc11 := HT11.out.s0
    go_wp2_with fail
    (with_reducible refine (c_cmpB HX3.out (RdSig.mk HT11.out.sg) (RdI.mk HT11.out.rr) (RdIc.mk hcapa HT11.out.ta) (RdIc.mk hcapc HT11.out.tc)).mono ?_)
    rintro e w12 ⟨rfl, hE12⟩
    have HTt := Lib.hid (HT11.out.ext hE12)
    have hct := HTt.out.s0
    have hEt : Ext w7 w12 := Ext.trans (Ext.trans hE710 hE11) hE12
    go_wp2_with fail
    rotate_left 1
    all_goals
      (with_reducible refine (c_greatB HK.out (RdSig.mk (RI.ext HTt.out.sg ((Ext.refl _).alloc _))) (RdI.mk (RI.ext HTt.out.rr ((Ext.refl _).alloc _))) (RdSc.mk (by omega) (RS.three (heap_alloc_new _ _) (RdIc.mk hcapa (RI.ext HTt.out.ta ((Ext.refl _).alloc _))) (RdIc.mk hcapb (RI.ext HTt.out.tb ((Ext.refl _).alloc _))) (RdIc.mk hcapc (RI.ext HTt.out.tc ((Ext.refl _).alloc _)))))).mono ?_)
      rintro e w13 ⟨rfl, hE13⟩
      have HT13 := Lib.hid ((HTt.out.ext ((Ext.refl _).alloc _)).ext hE13)
      have hE713 : Ext w7 w13 := Ext.trans (hEt.alloc _) hE13
      have hc13 := HT13.out.s0
      have hsl13 : sp < w13.heap.size := World.block_lt_of_cell? w13 _ hc13
      obtain ⟨TX, nx, cx, hax, hcx, hrx, htx⟩ : ∃ TX nx cx, (#[Value.slice TA na ca, .slice TB nb cb, .slice TC nc cc] : Array Value)[k]? = some (.slice TX nx cx) ∧ (nx ≤ cx ∧ cx ≤ 9223372036854775807) ∧ RI w13 TX nx tp.flat ∧ TmL tp := by
        match k, hk2, hk3 with
        | 0, _, hk3 => cases hk3; exact ⟨_, _, _, rfl, hcapa, HT13.out.ta, HMa.out⟩
        | 1, _, hk3 => cases hk3; exact ⟨_, _, _, rfl, hcapb, HT13.out.tb, HMb.out⟩
        | 2, _, hk3 => cases hk3; exact ⟨_, _, _, rfl, hcapc, HT13.out.tc, HMc.out⟩
        | n + 3, h, _ => exact absurd h (by omega)
      have HRX := Lib.hid hrx
      have HL1 := Lib.hid (show lpoLessV arL rk tp.flat a.flat = false by rw [Bool.eq_false_iff]; exact fun h => hk4 ((less_L HRK.out htx HMa.out).1 h))
      have HL2 := Lib.hid (show lpoLessV arL rk tp.flat b.flat = false by rw [Bool.eq_false_iff]; exact fun h => hk5 ((less_L HRK.out htx HMb.out).1 h))
      have HL3 := Lib.hid (show lpoLessV arL rk tp.flat c.flat = false by rw [Bool.eq_false_iff]; exact fun h => hk6 ((less_L HRK.out htx HMc.out).1 h))
      have hkn : ¬ (k : Int) < 0 := by omega
      have hkm : ¬ (2 : Int) < (k : Int) := by omega
      have hkz : (0 : Int) ≤ (k : Int) := by omega
      have hk33 : (k : Int) < 3 := by omega
      have hcl : (w13.alloc (.cells #[.slice TA na ca, .slice TB nb cb, .slice TC nc cc] 22)).cell? ⟨w13.heap.size, k, none⟩ = some (.slice TX nx cx) := by rw [cell_of_row _ _ _ _ _ (0, 0) (heap_alloc_new w13 _)]; exact hax
      clear hrx htx
      go_wp2_with fail
      (with_reducible refine (c_lessB HL1.out (RdSig.mk (RI.ext HT13.out.sg ((Ext.refl _).alloc _))) (RdI.mk (RI.ext HT13.out.rr ((Ext.refl _).alloc _))) (RdIc.mk hcx (RI.ext HRX.out ((Ext.refl _).alloc _))) (RdIc.mk hcapa (RI.ext HT13.out.ta ((Ext.refl _).alloc _)))).mono ?_)
      rintro e w15 ⟨rfl, hE15⟩
      have hE1315 : Ext w13 w15 := Ext.trans ((Ext.refl _).alloc _) hE15
      have HT15 := Lib.hid (HT13.out.ext hE1315)
      have HRX15 := Lib.hid (RI.ext HRX.out hE1315)
      have hc15 := HT15.out.s0
      clear hcl
      go_wp2_with fail
      (with_reducible refine (c_lessB HL2.out (RdSig.mk HT15.out.sg) (RdI.mk HT15.out.rr) (RdIc.mk hcx HRX15.out) (RdIc.mk hcapb HT15.out.tb)).mono ?_)
      rintro e w16 ⟨rfl, hE16⟩
      have HT16 := Lib.hid (HT15.out.ext hE16)
      have HRX16 := Lib.hid (RI.ext HRX15.out hE16)
      have hc16 := HT16.out.s0
      go_wp2_with fail
      (with_reducible refine (c_lessB HL3.out (RdSig.mk HT16.out.sg) (RdI.mk HT16.out.rr) (RdIc.mk hcx HRX16.out) (RdIc.mk hcapc HT16.out.tc)).mono ?_)
      rintro e w17 ⟨rfl, hE17⟩
      have HT17 := Lib.hid (HT16.out.ext hE17)
      have HRX17 := Lib.hid (RI.ext HRX16.out hE17)
      have hc17 := HT17.out.s0
      have hE717 : Ext w7 w17 := Ext.trans (Ext.trans (Ext.trans hE713 hE1315) hE16) hE17
      go_wp2_with fail
      by_cases hn1 : na = 1
      · have hd1 : ((na : Int) == 1) = true := by rw [hn1]; rfl
        refine wp_region_held_drew (S := (fun w' => w'.cell? ⟨sp, 0, none⟩ = some (.slice AS 3 cS) ∧ Ext w17 w')) (by kernel_rfl) ?_ (fun hH => ?_)
        · exact ⟨HT17.out.s0, (Ext.refl w17).drew⟩
        refine wpAnyH_take_dst (i := 0) (v := .slice TA na ca) (d := some 107) rfl rfl (by kernel_rfl) (by kernel_rfl) (by kernel_rfl) (fun _ _ _ h => h) (Or.inl ⟨by rfl, ?_⟩) hH ?_
        · (intro w hSw; (try dsimp only at hSw); go_split_ands; go_simp; try with_reducible rfl)
        try simp only [Act.put, List.setIfInBounds_toArray, List.set_cons_zero, List.set_cons_succ]
        refine wpAnyH_take_dst (i := 1) (v := .int .i64 (na : Int)) (d := some 108) rfl rfl (by kernel_rfl) (by kernel_rfl) (by kernel_rfl) (fun _ _ _ h => h) (Or.inl ⟨by rfl, ?_⟩) hH ?_
        · (intro w hSw; (try dsimp only at hSw); go_split_ands; go_simp; try with_reducible rfl)
        try simp only [Act.put, List.setIfInBounds_toArray, List.set_cons_zero, List.set_cons_succ]
        refine wpAnyH_take_dst (i := 2) (v := .bool true) (d := some 109) rfl rfl (by kernel_rfl) (by kernel_rfl) (by kernel_rfl) (fun _ _ _ h => h) (Or.inl ⟨by rfl, ?_⟩) hH ?_
        · (intro w hSw; (try dsimp only at hSw); go_split_ands; go_simp; try with_reducible rfl)
        try simp only [Act.put, List.setIfInBounds_toArray, List.set_cons_zero, List.set_cons_succ]
        refine wpAnyH_take_dst (i := 3) (v := .bool true) (d := some 110) rfl rfl (by kernel_rfl) (by kernel_rfl) (by kernel_rfl) (fun _ _ _ h => h) (Or.inl ⟨by rfl, ?_⟩) hH ?_
        · (intro w hSw; (try dsimp only at hSw); go_split_ands; go_simp; try with_reducible rfl)
        try simp only [Act.put, List.setIfInBounds_toArray, List.set_cons_zero, List.set_cons_succ]
        refine wpAnyH_take_dst (i := 4) (v := undef) (d := some 111) rfl rfl (by kernel_rfl) (by kernel_rfl) (by kernel_rfl) (fun _ _ _ h => h) (Or.inr ⟨by rfl, rfl⟩) hH ?_
        try simp only [Act.put, List.setIfInBounds_toArray, List.set_cons_zero, List.set_cons_succ]
        refine wpAnyH_take_dst (i := 5) (v := undef) (d := some 112) rfl rfl (by kernel_rfl) (by kernel_rfl) (by kernel_rfl) (fun _ _ _ h => h) (Or.inr ⟨by rfl, rfl⟩) hH ?_
        try simp only [Act.put, List.setIfInBounds_toArray, List.set_cons_zero, List.set_cons_succ]
        refine wpAnyH_take_dst (i := 6) (v := undef) (d := some 113) rfl rfl (by kernel_rfl) (by kernel_rfl) (by kernel_rfl) (fun _ _ _ h => h) (Or.inr ⟨by rfl, rfl⟩) hH ?_
        try simp only [Act.put, List.setIfInBounds_toArray, List.set_cons_zero, List.set_cons_succ]
        refine wpAnyH_take_dst (i := 7) (v := undef) (d := some 114) rfl rfl (by kernel_rfl) (by kernel_rfl) (by kernel_rfl) (fun _ _ _ h => h) (Or.inr ⟨by rfl, rfl⟩) hH ?_
        try simp only [Act.put, List.setIfInBounds_toArray, List.set_cons_zero, List.set_cons_succ]
        refine wpAnyH_take_dst (i := 8) (v := undef) (d := some 115) rfl rfl (by kernel_rfl) (by kernel_rfl) (by kernel_rfl) (fun _ _ _ h => h) (Or.inr ⟨by rfl, rfl⟩) hH ?_
        try simp only [Act.put, List.setIfInBounds_toArray, List.set_cons_zero, List.set_cons_succ]
        refine wpAnyH_take_dst (i := 9) (v := undef) (d := some 116) rfl rfl (by kernel_rfl) (by kernel_rfl) (by kernel_rfl) (fun _ _ _ h => h) (Or.inr ⟨by rfl, rfl⟩) hH ?_
        try simp only [Act.put, List.setIfInBounds_toArray, List.set_cons_zero, List.set_cons_succ]
        refine wpAnyH_take_dst (i := 10) (v := undef) (d := some 117) rfl rfl (by kernel_rfl) (by kernel_rfl) (by kernel_rfl) (fun _ _ _ h => h) (Or.inr ⟨by rfl, rfl⟩) hH ?_
        try simp only [Act.put, List.setIfInBounds_toArray, List.set_cons_zero, List.set_cons_succ]
        refine wpAnyH_take_dst (i := 11) (v := undef) (d := some 118) rfl rfl (by kernel_rfl) (by kernel_rfl) (by kernel_rfl) (fun _ _ _ h => h) (Or.inr ⟨by rfl, rfl⟩) hH ?_
        try simp only [Act.put, List.setIfInBounds_toArray, List.set_cons_zero, List.set_cons_succ]
        refine wpAnyH_take_dst (i := 12) (v := undef) (d := some 119) rfl rfl (by kernel_rfl) (by kernel_rfl) (by kernel_rfl) (fun _ _ _ h => h) (Or.inr ⟨by rfl, rfl⟩) hH ?_
        try simp only [Act.put, List.setIfInBounds_toArray, List.set_cons_zero, List.set_cons_succ]
        refine wpAnyH_take_dst (i := 13) (v := undef) (d := some 120) rfl rfl (by kernel_rfl) (by kernel_rfl) (by kernel_rfl) (fun _ _ _ h => h) (Or.inr ⟨by rfl, rfl⟩) hH ?_
        try simp only [Act.put, List.setIfInBounds_toArray, List.set_cons_zero, List.set_cons_succ]
        refine wpAnyH_take_dst (i := 14) (v := undef) (d := some 121) rfl rfl (by kernel_rfl) (by kernel_rfl) (by kernel_rfl) (fun _ _ _ h => h) (Or.inr ⟨by rfl, rfl⟩) hH ?_
        try simp only [Act.put, List.setIfInBounds_toArray, List.set_cons_zero, List.set_cons_succ]
        refine wpAnyH_take_dst (i := 15) (v := undef) (d := some 122) rfl rfl (by kernel_rfl) (by kernel_rfl) (by kernel_rfl) (fun _ _ _ h => h) (Or.inr ⟨by rfl, rfl⟩) hH ?_
        try simp only [Act.put, List.setIfInBounds_toArray, List.set_cons_zero, List.set_cons_succ]
        refine wpAnyH_take_dst (i := 16) (v := undef) (d := some 123) rfl rfl (by kernel_rfl) (by kernel_rfl) (by kernel_rfl) (fun _ _ _ h => h) (Or.inr ⟨by rfl, rfl⟩) hH ?_
        try simp only [Act.put, List.setIfInBounds_toArray, List.set_cons_zero, List.set_cons_succ]
        refine wpAnyH_take_dst (i := 17) (v := undef) (d := some 124) rfl rfl (by kernel_rfl) (by kernel_rfl) (by kernel_rfl) (fun _ _ _ h => h) (Or.inr ⟨by rfl, rfl⟩) hH ?_
        try simp only [Act.put, List.setIfInBounds_toArray, List.set_cons_zero, List.set_cons_succ]
        refine wpAnyH_take_dst (i := 18) (v := undef) (d := some 125) rfl rfl (by kernel_rfl) (by kernel_rfl) (by kernel_rfl) (fun _ _ _ h => h) (Or.inr ⟨by rfl, rfl⟩) hH ?_
        try simp only [Act.put, List.setIfInBounds_toArray, List.set_cons_zero, List.set_cons_succ]
        refine wpAnyH_take_dst (i := 19) (v := undef) (d := some 126) rfl rfl (by kernel_rfl) (by kernel_rfl) (by kernel_rfl) (fun _ _ _ h => h) (Or.inr ⟨by rfl, rfl⟩) hH ?_
        try simp only [Act.put, List.setIfInBounds_toArray, List.set_cons_zero, List.set_cons_succ]
        refine wpAnyH_take_dst (i := 20) (v := undef) (d := some 127) rfl rfl (by kernel_rfl) (by kernel_rfl) (by kernel_rfl) (fun _ _ _ h => h) (Or.inr ⟨by rfl, rfl⟩) hH ?_
        try simp only [Act.put, List.setIfInBounds_toArray, List.set_cons_zero, List.set_cons_succ]
        refine wpAnyH_take_dst (i := 21) (v := .bool true) (d := some 128) rfl rfl (by kernel_rfl) (by kernel_rfl) (by kernel_rfl) (fun _ _ _ h => h) (Or.inl ⟨by rfl, ?_⟩) hH ?_
        · (intro w hSw; (try dsimp only at hSw); go_split_ands; go_simp; try with_reducible rfl)
        try simp only [Act.put, List.setIfInBounds_toArray, List.set_cons_zero, List.set_cons_succ]
        refine wpAnyH_take_dst (i := 22) (v := .bool true) (d := some 2) rfl rfl (by kernel_rfl) (by kernel_rfl) (by kernel_rfl) (fun _ _ _ h => h) (Or.inl ⟨by rfl, ?_⟩) hH ?_
        · (intro w hSw; (try dsimp only at hSw); go_split_ands; go_simp; try with_reducible rfl)
        try simp only [Act.put, List.setIfInBounds_toArray, List.set_cons_zero, List.set_cons_succ]
        refine wpAnyH_done (by kernel_rfl) ?_ _
        have hEnd := hH.2
        go_wp2_with fail
        go_ret
        exact ⟨rfl, Ext.trans HE7.out (Ext.trans hE717 hEnd)⟩
      · have hd1 : ((na : Int) == 1) = false := by simp; omega
        obtain ⟨x, us0, hau⟩ : ∃ x us0, a = .node x us0 := by cases a; exact ⟨_, _, rfl⟩
        cases us0 with
        | nil => subst hau; rw [flat_node, flatL_nil] at hlena; exact absurd hlena.symm (by simpa using hn1)
        | cons a1 us =>
          subst hau
          have HWY := Lib.hid (why_L HRK.out HMa.out)
          have HA1 := Lib.hid HMa.out.arg.inD.1
          have HGA := Lib.hid HMa.out.inD.2
          refine wp_region_held_drew (S := (fun w' => w'.cell? ⟨sp, 0, none⟩ = some (.slice AS 3 cS) ∧ Ext w17 w')) (by kernel_rfl) ?_ (fun hH => ?_)
          · exact ⟨HT17.out.s0, (Ext.refl w17).drew⟩
          refine wpAnyH_take_dst (i := 0) (v := .slice TA na ca) (d := some 107) rfl rfl (by kernel_rfl) (by kernel_rfl) (by kernel_rfl) (fun _ _ _ h => h) (Or.inl ⟨by rfl, ?_⟩) hH ?_
          · (intro w hSw; (try dsimp only at hSw); go_split_ands; go_simp; try with_reducible rfl)
          try simp only [Act.put, List.setIfInBounds_toArray, List.set_cons_zero, List.set_cons_succ]
          refine wpAnyH_take_dst (i := 1) (v := .int .i64 (na : Int)) (d := some 108) rfl rfl (by kernel_rfl) (by kernel_rfl) (by kernel_rfl) (fun _ _ _ h => h) (Or.inl ⟨by rfl, ?_⟩) hH ?_
          · (intro w hSw; (try dsimp only at hSw); go_split_ands; go_simp; try with_reducible rfl)
          try simp only [Act.put, List.setIfInBounds_toArray, List.set_cons_zero, List.set_cons_succ]
          refine wpAnyH_take_dst (i := 2) (v := .bool false) (d := some 109) rfl rfl (by kernel_rfl) (by kernel_rfl) (by kernel_rfl) (fun _ _ _ h => h) (Or.inl ⟨by rfl, ?_⟩) hH ?_
          · (intro w hSw; (try dsimp only at hSw); go_split_ands; go_simp; try with_reducible rfl)
          try simp only [Act.put, List.setIfInBounds_toArray, List.set_cons_zero, List.set_cons_succ]
          refine wpAnyH_take_dst (i := 3) (v := .bool false) (d := some 110) rfl rfl (by kernel_rfl) (by kernel_rfl) (by kernel_rfl) (fun _ _ _ h => h) (Or.inl ⟨by rfl, ?_⟩) hH ?_
          · (intro w hSw; (try dsimp only at hSw); go_split_ands; go_simp; try with_reducible rfl)
          try simp only [Act.put, List.setIfInBounds_toArray, List.set_cons_zero, List.set_cons_succ]
          refine wpAnyH_take_dst (i := 4) (v := .agg #[.slice AS 3 cS]) (d := some 111) rfl rfl (by kernel_rfl) (by kernel_rfl) (by kernel_rfl) (fun _ _ _ h => h) (Or.inl ⟨by rfl, ?_⟩) hH ?_
          · (intro w hSw; (try dsimp only at hSw); go_split_ands; go_simp; try with_reducible rfl)
          try simp only [Act.put, List.setIfInBounds_toArray, List.set_cons_zero, List.set_cons_succ]
          refine wpAnyH_take_dst (i := 5) (v := .slice AR 3 3) (d := some 112) rfl rfl (by kernel_rfl) (by kernel_rfl) (by kernel_rfl) (fun _ _ _ h => h) (Or.inl ⟨by rfl, ?_⟩) hH ?_
          · (intro w hSw; (try dsimp only at hSw); go_split_ands; go_simp; try with_reducible rfl)
          try simp only [Act.put, List.setIfInBounds_toArray, List.set_cons_zero, List.set_cons_succ]
          refine wpAnyH_take_dst (i := 6) (v := .agg #[.slice AS 3 cS]) (d := some 113) rfl rfl (by kernel_rfl) (by kernel_rfl) (by kernel_rfl) (fun _ _ _ h => h) (Or.inl ⟨by rfl, ?_⟩) hH ?_
          · (intro w hSw; (try dsimp only at hSw); go_split_ands; go_simp; try with_reducible rfl)
          try simp only [Act.put, List.setIfInBounds_toArray, List.set_cons_zero, List.set_cons_succ]
          refine wpAnyH_take_dst (i := 7) (v := .slice TA na ca) (d := some 114) rfl rfl (by kernel_rfl) (by kernel_rfl) (by kernel_rfl) (fun _ _ _ h => h) (Or.inl ⟨by rfl, ?_⟩) hH ?_
          · (intro w hSw; (try dsimp only at hSw); go_split_ands; go_simp; try with_reducible rfl)
          try simp only [Act.put, List.setIfInBounds_toArray, List.set_cons_zero, List.set_cons_succ]
          refine wpAnyH_take_dst (i := 9) (v := .slice TA na ca) (d := some 116) rfl rfl (by kernel_rfl) (by kernel_rfl) (by kernel_rfl) (fun _ _ _ h => h) (Or.inl ⟨by rfl, ?_⟩) hH ?_
          · (intro w hSw; (try dsimp only at hSw); go_split_ands; go_simp; try with_reducible rfl)
          try simp only [Act.put, List.setIfInBounds_toArray, List.set_cons_zero, List.set_cons_succ]
          refine wpAnyH_ready (rs := [8]) (by kernel_rfl) (by simp) ?_
          refine AllReadyH.cons rfl (fun K hK => ?_) AllReadyH.nil
          rw [if_pos (by rfl)]
          go_wp2_with fail
          (with_reducible refine ((c_subAt1 (RdSig.mk (HT17.out.ext hH.2).sg) (HT17.out.ext hH.2).ta hcapa HMa.out.ok HA1.out HGA.out)).mono ?_)
          rintro e w18 ⟨A9, n9, c9, rfl, hO9, hE9⟩
          refine hK.out _ _ ⟨Ext.keep hE9 hH.1, Ext.trans hH.2 hE9⟩ (fun hH9 => ?_)
          clear hK hH; have hH := hH9; clear hH9
          try simp only [Act.put, List.setIfInBounds_toArray, List.set_cons_zero, List.set_cons_succ]
          refine wpAnyH_ready (rs := [10]) (by kernel_rfl) (by simp) ?_
          refine AllReadyH.cons rfl (fun K hK => ?_) AllReadyH.nil
          rw [if_pos (by rfl)]
          go_wp2_with (go_at_call 28; (with_reducible refine ((c_lessB HWY.out.2 (RdSig.mk (HT17.out.ext hH.2).sg) (RdI.mk (HT17.out.ext hH.2).rr) (RdIc.mk (OwI.cap hO9) (OwI.ri hO9)) (RdIc.mk hcapa (HT17.out.ext hH.2).ta))).mono ?_); rintro e w9 ⟨rfl, hE9⟩)
          refine hK.out _ _ ⟨Ext.keep hE9 hH.1, Ext.trans hH.2 hE9⟩ (fun hH9 => ?_)
          clear hK hH; have hH := hH9; clear hH9
          try simp only [Act.put, List.setIfInBounds_toArray, List.set_cons_zero, List.set_cons_succ]
          refine wpAnyH_take_dst (i := 11) (v := .bool true) (d := some 118) rfl rfl (by kernel_rfl) (by kernel_rfl) (by kernel_rfl) (fun _ _ _ h => h) (Or.inl ⟨by rfl, ?_⟩) hH ?_
          · (intro w hSw; (try dsimp only at hSw); go_split_ands; go_simp; try with_reducible rfl)
          try simp only [Act.put, List.setIfInBounds_toArray, List.set_cons_zero, List.set_cons_succ]
          refine wpAnyH_take_dst (i := 12) (v := .agg #[.slice AS 3 cS]) (d := some 119) rfl rfl (by kernel_rfl) (by kernel_rfl) (by kernel_rfl) (fun _ _ _ h => h) (Or.inl ⟨by rfl, ?_⟩) hH ?_
          · (intro w hSw; (try dsimp only at hSw); go_split_ands; go_simp; try with_reducible rfl)
          try simp only [Act.put, List.setIfInBounds_toArray, List.set_cons_zero, List.set_cons_succ]
          refine wpAnyH_take_dst (i := 13) (v := .slice AR 3 3) (d := some 120) rfl rfl (by kernel_rfl) (by kernel_rfl) (by kernel_rfl) (fun _ _ _ h => h) (Or.inl ⟨by rfl, ?_⟩) hH ?_
          · (intro w hSw; (try dsimp only at hSw); go_split_ands; go_simp; try with_reducible rfl)
          try simp only [Act.put, List.setIfInBounds_toArray, List.set_cons_zero, List.set_cons_succ]
          refine wpAnyH_take_dst (i := 14) (v := .agg #[.slice AS 3 cS]) (d := some 121) rfl rfl (by kernel_rfl) (by kernel_rfl) (by kernel_rfl) (fun _ _ _ h => h) (Or.inl ⟨by rfl, ?_⟩) hH ?_
          · (intro w hSw; (try dsimp only at hSw); go_split_ands; go_simp; try with_reducible rfl)
          try simp only [Act.put, List.setIfInBounds_toArray, List.set_cons_zero, List.set_cons_succ]
          refine wpAnyH_take_dst (i := 15) (v := .slice TA na ca) (d := some 122) rfl rfl (by kernel_rfl) (by kernel_rfl) (by kernel_rfl) (fun _ _ _ h => h) (Or.inl ⟨by rfl, ?_⟩) hH ?_
          · (intro w hSw; (try dsimp only at hSw); go_split_ands; go_simp; try with_reducible rfl)
          try simp only [Act.put, List.setIfInBounds_toArray, List.set_cons_zero, List.set_cons_succ]
          refine wpAnyH_take_dst (i := 17) (v := .slice TA na ca) (d := some 124) rfl rfl (by kernel_rfl) (by kernel_rfl) (by kernel_rfl) (fun _ _ _ h => h) (Or.inl ⟨by rfl, ?_⟩) hH ?_
          · (intro w hSw; (try dsimp only at hSw); go_split_ands; go_simp; try with_reducible rfl)
          try simp only [Act.put, List.setIfInBounds_toArray, List.set_cons_zero, List.set_cons_succ]
          refine wpAnyH_ready (rs := [16]) (by kernel_rfl) (by simp) ?_
          refine AllReadyH.cons rfl (fun K hK => ?_) AllReadyH.nil
          rw [if_pos (by rfl)]
          go_wp2_with fail
          (with_reducible refine ((c_subAt1 (RdSig.mk (HT17.out.ext hH.2).sg) (HT17.out.ext hH.2).ta hcapa HMa.out.ok HA1.out HGA.out)).mono ?_)
          rintro e w19 ⟨A8, n8, c8, rfl, hO8, hE9⟩
          refine hK.out _ _ ⟨Ext.keep hE9 hH.1, Ext.trans hH.2 hE9⟩ (fun hH9 => ?_)
          clear hK hH; have hH := hH9; clear hH9
          try simp only [Act.put, List.setIfInBounds_toArray, List.set_cons_zero, List.set_cons_succ]
          refine wpAnyH_ready (rs := [18]) (by kernel_rfl) (by simp) ?_
          refine AllReadyH.cons rfl (fun K hK => ?_) AllReadyH.nil
          rw [if_pos (by rfl)]
          go_wp2_with (go_at_call 30; (with_reducible refine ((c_whyB HWY.out.1 (RdSig.mk (HT17.out.ext hH.2).sg) (RdI.mk (HT17.out.ext hH.2).rr) (RdIc.mk (OwI.cap hO8) (OwI.ri hO8)) (RdIc.mk hcapa (HT17.out.ext hH.2).ta))).mono ?_); rintro e w9 ⟨rfl, hE9⟩)
          refine hK.out _ _ ⟨Ext.keep hE9 hH.1, Ext.trans hH.2 hE9⟩ (fun hH9 => ?_)
          clear hK hH; have hH := hH9; clear hH9
          try simp only [Act.put, List.setIfInBounds_toArray, List.set_cons_zero, List.set_cons_succ]
          refine wpAnyH_take_dst (i := 19) (v := .bool true) (d := some 126) rfl rfl (by kernel_rfl) (by kernel_rfl) (by kernel_rfl) (fun _ _ _ h => h) (Or.inl ⟨by rfl, ?_⟩) hH ?_
          · (intro w hSw; (try dsimp only at hSw); go_split_ands; go_simp; try with_reducible rfl)
          try simp only [Act.put, List.setIfInBounds_toArray, List.set_cons_zero, List.set_cons_succ]
          refine wpAnyH_take_dst (i := 20) (v := .bool true) (d := some 127) rfl rfl (by kernel_rfl) (by kernel_rfl) (by kernel_rfl) (fun _ _ _ h => h) (Or.inl ⟨by rfl, ?_⟩) hH ?_
          · (intro w hSw; (try dsimp only at hSw); go_split_ands; go_simp; try with_reducible rfl)
          try simp only [Act.put, List.setIfInBounds_toArray, List.set_cons_zero, List.set_cons_succ]
          refine wpAnyH_take_dst (i := 21) (v := .bool true) (d := some 128) rfl rfl (by kernel_rfl) (by kernel_rfl) (by kernel_rfl) (fun _ _ _ h => h) (Or.inl ⟨by rfl, ?_⟩) hH ?_
          · (intro w hSw; (try dsimp only at hSw); go_split_ands; go_simp; try with_reducible rfl)
          try simp only [Act.put, List.setIfInBounds_toArray, List.set_cons_zero, List.set_cons_succ]
          refine wpAnyH_take_dst (i := 22) (v := .bool true) (d := some 2) rfl rfl (by kernel_rfl) (by kernel_rfl) (by kernel_rfl) (fun _ _ _ h => h) (Or.inl ⟨by rfl, ?_⟩) hH ?_
          · (intro w hSw; (try dsimp only at hSw); go_split_ands; go_simp; try with_reducible rfl)
          try simp only [Act.put, List.setIfInBounds_toArray, List.set_cons_zero, List.set_cons_succ]
          refine wpAnyH_done (by kernel_rfl) ?_ _
          have hEnd := hH.2
          go_wp2_with fail
          go_ret
          exact ⟨rfl, Ext.trans HE7.out (Ext.trans hE717 hEnd)⟩

set_option maxRecDepth 100000 in
theorem lifted (os : Os) (started : os.Started) (H : Type) (enc : TypeId × Value → H) :
    ReturnsInHanded {} Try.checked os 5 .any (Rows.fnLpoTotalSpec.pre6 enc Try.prog Try.f5 Rows.fnLpoTotalRow.domain false) (Rows.fnLpoTotalSpec.post enc Try.prog Try.f5 false true false false) := by
  refine returnsInHanded_of_change (C := Try.checked) own started (by kernel_rfl) Try.func5
    (ChangeSpec.witness6 (enc := enc) (C := Try.checked) false ⟨#[], #[.slice none 0 0], []⟩ 8 (by kernel_rfl) (by kernel_rfl) (by kernel_rfl) (by kernel_rfl)) ?_
  intro W base args ds gs before hval0 hW hcnd _
  have hval : ∀ (j : Nat) t v, Try.f5.params[j]? = some t → args[j]? = some v → Value.okWide Try.prog W .any base t v := hval0
  have hW' := hW
  obtain ⟨p, q, hA0, hV, rfl, hfz, hnd⟩ := hW
  have hA : DataW.TrodAll enc Try.prog W 0 (fun _ => true) true Try.f5.params.toList args.toList ds p := hA0
  rw [Try.params5] at hA hval
  obtain ⟨v0, vs0, d0, ds0, p0, q0, hargs, rfl, rfl, h0, r0⟩ := trodAll_cons hA
  obtain ⟨rfl, rfl, rfl⟩ := trodAll_nil r0
  obtain rfl : args = #[v0] := by cases args; simp_all
  obtain ⟨rfl, rfl⟩ := trodVars_none hV
  have k0 := h0
  have lt0 : ∀ x ∈ p0, x.block < W.heap.size := by obtain ⟨m, hm⟩ := k0; exact DataW.trod_lt m _ _ _ hm
  obtain ⟨x0, w0⟩ := raw_By (hval 0 39 v0 rfl rfl) h0
  clear hA0 hval0
  refine (walk w0).mono fun e W' ⟨he, bel⟩ => ?_
  subst he
  exact ⟨_, rfl, _, _, _, [], _, [], hW', trodAll_mk1 (shut_bool Try.underlying4 _), (trodAll_cons_mk (Below.trod laidOut (by kernel_rfl) (of_decide_eq_true (by kernel_rfl)) k0 bel lt0) trodAll_mk0), rfl, bel.frame _, fun h => by cases h⟩

theorem over : Rows.fnLpoTotalRow.holds Try.pinned (OpenSpec.ofChange Rows.fnLpoTotalSpec) :=
  OpenClaim.holds_of_wide 5 Try.f5 rfl rfl rfl rfl rfl rfl rfl ⟨rfl, rfl, rfl, rfl, rfl⟩ rfl rfl rfl rfl rfl (by kernel_rfl) Try.func5 (by kernel_rfl)
    (of_decide_eq_true (by kernel_rfl)) (by unfold Func.isWrapper; first | (rw [if_pos (by decide +kernel)]; kernel_rfl) | (rw [if_neg (by decide +kernel)]; exact ⟨rfl, rfl⟩))
    (fun os started H enc _ => lifted os started H enc)

theorem proved : Rows.FnLpoTotalSaid := over

end Go.Proofs.Ytejmlbcafemieaa.FnLpoTotal
