/- Proved: for every input the law FnPolyValues returns true, does not panic, and its argument reads afterwards as it read before. Conditions: none. -/
import Derived.Test.YtafjlimmahcpmaaHeld
import Derived.Test.YtafjlimmahcpmaaOpenBy
import Derived.Test.YtafjlimmahcpmaaPolyVal
-- rd: RdPs
namespace Go.Proofs.Ytafjlimmahcpmaa.FnPolyValues
open Go.ChangeShapes Go.WideShapes Go.ChangeAt Go.RowKit
set_option linter.unusedSimpArgs false
set_option linter.unusedVariables false
set_option linter.constructorNameAsVariable false

theorem c_polyLessB {v0 v1 v2 v3 : Value} {ar : List Int} {ps : List Pl} {s t : List Int} {b : Bool} {w : World} (hb : cmpLess (formO ar ps s) (formO ar ps t) = b) (h0 : RdSig w v0 ar) (h1 : RdPs w v1 ps) (h2 : RdI w v2 s) (h3 : RdI w v3 t) :
    Calls Try.prog 15 #[v0, v1, v2, v3] w fun e w' => e = .returned (.bool b) ∧ Ext w w' := by subst hb; rw [← cmpLess_O]; exact c_iPolyLess h0 h1 h2 h3
theorem c_polyMostB {v0 v1 v2 v3 : Value} {ar : List Int} {ps : List Pl} {s t : List Int} {b : Bool} {w : World} (hb : cmpMost (formO ar ps s) (formO ar ps t) = b) (h0 : RdSig w v0 ar) (h1 : RdPs w v1 ps) (h2 : RdI w v2 s) (h3 : RdI w v3 t) :
    Calls Try.prog 16 #[v0, v1, v2, v3] w fun e w' => e = .returned (.bool b) ∧ Ext w w' := by subst hb; rw [← cmpMost_O]; exact c_iPolyAtMost h0 h1 h2 h3
/-- What is there when the dice have been thrown. -/
structure There (w : World) (s : Nat) (AS AP TA TB AV : Option Addr) (cS na nb : Nat) (ps : List Pl) (a b : Tm) (x y : Int) : Prop where
  s0 : w.cell? ⟨s, 0, none⟩ = some (.slice AS 3 cS)
  sg : RI w AS 3 arD
  pl : RP w AP 3 ps
  ta : RI w TA na a.flat
  tb : RI w TB nb b.flat
  va : RI w AV 2 [x, y]
theorem There.ext {w w' : World} {s : Nat} {AS AP TA TB AV : Option Addr} {cS na nb : Nat} {ps : List Pl} {a b : Tm} {x y : Int} (h : There w s AS AP TA TB AV cS na nb ps a b x y) (k : Ext w w') : There w' s AS AP TA TB AV cS na nb ps a b x y :=
  ⟨Ext.keep k h.s0, h.sg.ext k, h.pl.ext k, h.ta.ext k, h.tb.ext k, h.va.ext k⟩

set_option maxRecDepth 100000 in
set_option maxHeartbeats 8000000 in
theorem walk {v0 : Value} {x0 : Nat} {w : World} (h0 : RawBy w v0 x0) :
    Calls Try.prog 3 #[v0] w fun e w' => e = .returned (.bool true) ∧ Ext w w' := by
  have H0 := Lib.hid h0
  obtain ⟨bb, hbb⟩ : ∃ bb, decide (4096 < x0) = bb := ⟨_, rfl⟩
  have HBB := Lib.hid hbb
  clear h0 hbb
  go_enter Try.func3, Try.ntmps3
  go_wp2_with fail
  (with_reducible refine (c_big HBB.out H0.out).mono ?_)
  rintro e w1 ⟨rfl, hE1⟩
  cases bb with
  | true =>
    go_wp2
    go_ret
    exact ⟨rfl, hE1⟩
  | false =>
    have hx : x0 ≤ 4096 := by have := HBB.out; simpa using this
    have H1 := Lib.hid (show RawBy w1 v0 x0 from by
      obtain ⟨A, c, e, h1, h2⟩ := H0.out
      refine ⟨A, c, e, h1, fun h => ?_⟩
      obtain ⟨b, o, e2, h3⟩ := h2 h
      exact ⟨b, o, e2, fun j hj => by obtain ⟨y, h4, h5⟩ := h3 j hj; exact ⟨y, Ext.keep hE1 h4, h5⟩⟩)
    go_wp2_with fail
    (with_reducible refine (c_roll H1.out hx).mono ?_)
    rintro e w2 ⟨g, rfl, hD2, hg2, hE2⟩
    have hE02 : Ext w w2 := Ext.trans hE1 hE2
    have hgw : w.heap.size ≤ g := by have := hE1.size; omega
    go_wp2_with fail
    (with_reducible refine (c_w9Sig).mono ?_)
    rintro e w3 ⟨AS, nS, cS, rfl, hO3, hE3⟩
    have hnS : nS = 3 := hO3.len.symm
    subst hnS
    have hg3 := hD2.lt
    have hs3 := hE3.size
    have HD3 := Lib.hid ((hD2.ext hE3).ext ((Ext.refl w3).alloc (.cells #[.slice AS 3 cS] 29)))
    have HS3 := Lib.hid (show RIg (w3.alloc (.cells #[.slice AS 3 cS] 29)) g AS 3 arD from RIg.ext (RIg.of hO3 hg3) ((Ext.refl w3).alloc _))
    have hb3 : (w3.alloc (.cells #[.slice AS 3 cS] 29)).cell? ⟨w3.heap.size, 0, none⟩ = some (.slice AS 3 cS) := by simp [go_sem]
    have hsg : w3.heap.size ≠ g := by omega
    have hE03 : Ext w (w3.alloc (.cells #[.slice AS 3 cS] 29)) := (Ext.trans hE02 hE3).alloc _
    clear hO3
    go_wp2_with fail
    (with_reducible refine (c_w9Polys HD3.out (by omega)).mono ?_)
    rintro e w4 ⟨AP, ps, rfl, hP4, hps, hD4, hO4, _⟩
    have hs4 := hO4.size
    simp only [World.size_alloc] at hs4
    have hE04 : Ext w w4 := hO4.ext hE03 hgw
    have HS4 := Lib.hid (HS3.out.only hO4)
    have hb4 := cell_only hO4 hsg hb3
    have HPS := Lib.hid hps
    have hg4 := hD4.lt
    go_wp2_with fail
    (with_reducible refine (c_w9Term (g := g) (vars := 2) (by omega) (by omega) 2 (by omega) 3 (by omega) hD4).mono ?_)
    rintro e w5 ⟨TA, na, ca, a, rfl, hOa, oka, ga, hna, hD5, hO5⟩
    have hs5 := hO5.size
    have hcapA := hOa.cap
    have hlenA := hOa.len
    have HTA := Lib.hid (RIg.of hOa hg4)
    have hE05 : Ext w w5 := hO5.ext hE04 hgw
    have hg5 := hD5.lt
    clear hOa
    go_wp2_with fail
    (with_reducible refine (c_w9Term (g := g) (vars := 2) (by omega) (by omega) 2 (by omega) 3 (by omega) hD5).mono ?_)
    rintro e w6 ⟨TB, nb, cb, b, rfl, hOb, okb, gb, hnb, hD6, hO6⟩
    have hs6 := hO6.size
    have hcapB := hOb.cap
    have hlenB := hOb.len
    have HTB := Lib.hid (RIg.of hOb hg5)
    have hE06 : Ext w w6 := hO6.ext hE05 hgw
    clear hOb
    go_wp2_with fail
    (with_reducible refine (c_below hD6 (by omega) (by omega)).mono ?_)
    rintro e w7 ⟨x, rfl, hxb, hD7, hO7⟩
    go_wp2_with fail
    (with_reducible refine (c_below hD7 (by omega) (by omega)).mono ?_)
    rintro e w8 ⟨y, rfl, hyb, hD8, hO8⟩
    have hO48 : Only w4 w8 g := (hO5.trans hO6).trans (hO7.trans hO8)
    have hO58 : Only w5 w8 g := hO6.trans (hO7.trans hO8)
    have hO68 : Only w6 w8 g := hO7.trans hO8
    have hE08 : Ext w w8 := hO68.ext hE06 hgw
    obtain ⟨w9, hw9⟩ : ∃ w9, w9 = w8.alloc (.cells #[.int .i64 x, .int .i64 y] 2) := ⟨_, rfl⟩
    have hE89 : Ext w8 w9 := by rw [hw9]; exact (Ext.refl w8).alloc _
    have hV9 : RI w9 (some ⟨w8.heap.size, 0, none⟩) 2 [x, y] := by rw [hw9]; exact (OwI.fresh (w := w8) [x, y] (by simp)).ri
    have HT := Lib.hid (show There w9 w3.heap.size AS AP TA TB (some ⟨w8.heap.size, 0, none⟩) cS na nb ps a b x y from
      ⟨Ext.keep hE89 (cell_only hO48 hsg hb4), ((HS4.out.only hO48).1).ext hE89, ((hP4.only hO48).rp).ext hE89, ((HTA.out.only hO58).1).ext hE89, ((HTB.out.only hO68).1).ext hE89, hV9⟩)
    have hE09 : Ext w w9 := Ext.trans hE08 hE89
    have HRP := Lib.hid (hP4.only hO48)
    have hna7 : na ≤ 7 := hna
    have hnb7 : nb ≤ 7 := hnb
    have HLA := Lib.hid hlenA
    have HLB := Lib.hid hlenB
    have HOA := Lib.hid oka
    have HOB := Lib.hid okb
    have HGA := Lib.hid ga
    have HGB := Lib.hid gb
    have hc8 := cell_only hO48 hsg hb4
    have hl8 : w3.heap.size < w8.heap.size := World.block_lt_of_cell? w8 _ hc8
    go_wp2_with fail
    rw [← hw9]
    clear hw9 hc8 hl8
    obtain ⟨sp, hsp⟩ : ∃ sp, sp = w3.heap.size := ⟨_, rfl⟩
    obtain ⟨vp, hvp⟩ : ∃ vp, vp = w8.heap.size := ⟨_, rfl⟩
    rw [← hsp, ← hvp] at HT ⊢
    have HE9 := Lib.hid hE09
    have HE89 := Lib.hid hE89
    clear hsp hvp hb3 hb4 HS3 HS4 HTA HTB HD3 hP4 hD4 hD5 hD6 hD7 hD8 hO4 hO5 hO6 hO7 hO8 hO58 hO68 hO48 hV9 hlenA hlenB oka okb ga gb hps hE89
    -- the law on numbers
    obtain ⟨c0, a0, a1, c1, b0, c2, hpe, q0, q1, q2, q3, q4, q5⟩ := HPS.out
    have hSm := ps3_sm HPS.out (by omega)
    have hPk := ps3_ok HPS.out (by omega)
    have hTA : TermP arD a.flat := termD HOA.out (by rw [HLA.out]; omega) (fun z hz => by have := HGA.out z hz; omega)
    have hTB : TermP arD b.flat := termD HOB.out (by rw [HLB.out]; omega) (fun z hz => by have := HGB.out z hz; omega)
    have hBO := bothD HOA.out HOB.out
    have hlb : (Tm.node 0 [a, b]).flat.length = 1 + na + nb := by rw [hBO.2, List.length_cons, List.length_append, HLA.out, HLB.out]; omega
    have hTC : TermP arD (Tm.node 0 [a, b]).flat := termD hBO.1 (by omega) (fun z hz => by
      rw [hBO.2] at hz
      rcases List.mem_cons.1 hz with rfl | hz
      · omega
      · rcases List.mem_append.1 hz with hz | hz
        · have := HGA.out z hz; omega
        · have := HGB.out z hz; omega)
    obtain ⟨f, ef, uf, of, kf, vf⟩ := val_at (v0 := x) (v1 := y) hSm hPk hTA HOA.out (by rw [HLA.out]; omega) (by omega) (by omega)
    obtain ⟨h, eh, uh, oh, kh, vh⟩ := val_at (v0 := x) (v1 := y) hSm hPk hTB HOB.out (by rw [HLB.out]; omega) (by omega) (by omega)
    obtain ⟨k, ek, uk, ok, kk, vk⟩ := val_at (v0 := x) (v1 := y) hSm hPk hTC hBO.1 (by omega) (by omega) (by omega)
    have hp15 : p4 15 = 1073741824 := p4_15
    have bf := vsum2_bd uf (by omega) (show 0 ≤ x ∧ x ≤ 49 by omega) (show 0 ≤ y ∧ y ≤ 49 by omega)
    have bh := vsum2_bd uh (by omega) (show 0 ≤ x ∧ x ≤ 49 by omega) (show 0 ≤ y ∧ y ≤ 49 by omega)
    have hsum : vsum k [x, y] 2 = c0 + a0 * vsum f [x, y] 2 + a1 * vsum h [x, y] 2 := by
      rw [hpe] at ef eh ek
      exact both_val ef eh ek 2
    have hlv := less_val uf uh (by omega) (show 0 ≤ x by omega) (show 0 ≤ y by omega)
    obtain ⟨X, hX⟩ : ∃ X, vsum f [x, y] 2 = X := ⟨_, rfl⟩
    obtain ⟨Y, hY⟩ : ∃ Y, vsum h [x, y] 2 = Y := ⟨_, rfl⟩
    obtain ⟨Z, hZ⟩ : ∃ Z, vsum k [x, y] 2 = Z := ⟨_, rfl⟩
    obtain ⟨lt, hlt⟩ : ∃ z, cmpLess (formO arD ps a.flat) (formO arD ps b.flat) = z := ⟨_, rfl⟩
    obtain ⟨mo, hmo⟩ : ∃ z, cmpMost (formO arD ps a.flat) (formO arD ps b.flat) = z := ⟨_, rfl⟩
    rw [hX] at vf bf hsum hlv
    rw [hY] at vh bh hsum hlv
    rw [hZ] at vk hsum
    have hL1 : mo = true → X ≤ Y := fun e => hlv.1 (by rw [← of, ← oh, hmo]; exact e)
    have hL2 : lt = true → X < Y ∧ mo = true := fun e => by
      have := hlv.2 (by rw [← of, ← oh, hlt]; exact e)
      exact ⟨this.1, by rw [← hmo, of, oh]; exact this.2⟩
    have HKF := Lib.hid kf
    have HKH := Lib.hid kh
    have HKK := Lib.hid kk
    have HVF := Lib.hid vf
    have HVH := Lib.hid vh
    have HVK := Lib.hid vk
    have HLT := Lib.hid hlt
    have HMO := Lib.hid hmo
    have hma : 0 ≤ a0 * X ∧ a0 * X ≤ 106300440576 := by
      have ha : a0 = 0 ∨ a0 = 1 := by omega
      rcases ha with rfl | rfl <;> omega
    have hmb : 0 ≤ a1 * Y ∧ a1 * Y ≤ 106300440576 := by
      have ha : a1 = 0 ∨ a1 = 1 := by omega
      rcases ha with rfl | rfl <;> omega
    have hm1 : IntKind.i64.wrap (a0 * X) = a0 * X := IntWalk.i64_in _ (by omega)
    have hm2 : IntKind.i64.wrap (a1 * Y) = a1 * Y := IntWalk.i64_in _ (by omega)
    have hm3 : IntKind.i64.wrap (c0 + a0 * X) = c0 + a0 * X := IntWalk.i64_in _ (by omega)
    have hm4 : IntKind.i64.wrap (c0 + a0 * X + a1 * Y) = c0 + a0 * X + a1 * Y := IntWalk.i64_in _ (by omega)
    have hne : (Z != c0 + a0 * X + a1 * Y) = false := by rw [← hsum]; simp
    have HRB := Lib.hid (show ∀ (w : World) (A : Option Addr), RI w A (1 + na + nb) (0 :: (a.flat ++ b.flat)) → RI w A (1 + na + nb) (Tm.node 0 [a, b]).flat from fun w A h => by rw [hBO.2]; exact h)
    clear ef uf of kf vf eh uh oh kh vh ek uk ok kk vk bf bh hlv hX hY hZ hlt hmo hTA hTB hTC hSm hPk hBO hlb
    have hc9 := HT.out.s0
    have hlv0 := HPS.out
    (with_reducible refine (c_valueB HVF.out HKF.out (RdSig.mk HT.out.sg) (RdPs.mk HT.out.pl) (RdI.mk HT.out.ta) (RdI.mk HT.out.va)).mono ?_)
    rintro e w10 ⟨rfl, hE10⟩
    have HT10 := Lib.hid (HT.out.ext hE10)
    have hc10 := HT10.out.s0
    go_wp2_with fail
    (with_reducible refine (c_valueB HVH.out HKH.out (RdSig.mk HT10.out.sg) (RdPs.mk HT10.out.pl) (RdI.mk HT10.out.tb) (RdI.mk HT10.out.va)).mono ?_)
    rintro e w11 ⟨rfl, hE11⟩
    have HT11 := Lib.hid (HT10.out.ext hE11)
    have hE911 : Ext w9 w11 := Ext.trans hE10 hE11
    clear hc9 hc10 hlv0
    go_wp2_with fail
    obtain ⟨i0, hii, hiz, his, hib⟩ := info_parts int64_info
    refine wp_only (R := fun (a0 : Act) (a8 : Act) (w9 : World) => ∃ (A3 : Option Addr) (c3 : Nat) (A4 : Option Addr) (c4 : Nat) (q : Nat), a8 = ((((((((((((((a0.put (some 48) (.agg #[.slice AS 3 cS])).put (some 49) (.slice AP 3 3)).put (some 51) (.slice TA na ca)).put (some 53) (.slice TB nb cb)).put (some 55) (.slice (some ⟨vp, 0, none⟩) 2 2)).put (some 50) (.slice (some ⟨q, 0, none⟩) 1 1)).put (some 52) (.slice A3 (1 + na) c3)).put (some 54) (.slice A4 (1 + na + nb) c4)).put (some 56) (.tuple #[.int .i64 Z, .bool true])).put (some 47) (.tuple #[.int .i64 Z, .bool true])).put (some 57) (.int .i64 Z)).put (some 13) (.int .i64 Z)).put (some 58) (.bool true)).put (some 14) (.bool true)) ∧ w9.cell? ⟨sp, 0, none⟩ = some (.slice AS 3 cS) ∧ Ext w11 w9) ?_ (fun a8 w13 hR => ?_)
    · refine wp_region_held_drew (S := (fun w' => w'.cell? ⟨sp, 0, none⟩ = some (.slice AS 3 cS) ∧ Ext w11 w')) (by kernel_rfl) (⟨HT11.out.s0, (Ext.refl w11).drew⟩) (fun hH => ?_)
      refine wpAnyH_take_dst (i := 0) (v := .agg #[.slice AS 3 cS]) (d := some 48) rfl rfl (by kernel_rfl) (by kernel_rfl) (by kernel_rfl) (fun _ _ _ h => h) (Or.inl ⟨by rfl, ?_⟩) hH ?_
      · (intro w' hE'; (try dsimp only at hE'); obtain ⟨y0, y1⟩ := hE'; go_simp; try with_reducible rfl)
      try simp only [Act.put, List.setIfInBounds_toArray, List.set_cons_zero, List.set_cons_succ]
      refine wpAnyH_take_dst (i := 1) (v := .slice AP 3 3) (d := some 49) rfl rfl (by kernel_rfl) (by kernel_rfl) (by kernel_rfl) (fun _ _ _ h => h) (Or.inl ⟨by rfl, ?_⟩) hH ?_
      · (intro w' hE'; (try dsimp only at hE'); obtain ⟨y0, y1⟩ := hE'; go_simp; try with_reducible rfl)
      try simp only [Act.put, List.setIfInBounds_toArray, List.set_cons_zero, List.set_cons_succ]
      refine wpAnyH_take_dst (i := 3) (v := .slice TA na ca) (d := some 51) rfl rfl (by kernel_rfl) (by kernel_rfl) (by kernel_rfl) (fun _ _ _ h => h) (Or.inl ⟨by rfl, ?_⟩) hH ?_
      · (intro w' hE'; (try dsimp only at hE'); obtain ⟨y0, y1⟩ := hE'; go_simp; try with_reducible rfl)
      try simp only [Act.put, List.setIfInBounds_toArray, List.set_cons_zero, List.set_cons_succ]
      refine wpAnyH_take_dst (i := 5) (v := .slice TB nb cb) (d := some 53) rfl rfl (by kernel_rfl) (by kernel_rfl) (by kernel_rfl) (fun _ _ _ h => h) (Or.inl ⟨by rfl, ?_⟩) hH ?_
      · (intro w' hE'; (try dsimp only at hE'); obtain ⟨y0, y1⟩ := hE'; go_simp; try with_reducible rfl)
      try simp only [Act.put, List.setIfInBounds_toArray, List.set_cons_zero, List.set_cons_succ]
      refine wpAnyH_take_dst (i := 7) (v := .slice (some ⟨vp, 0, none⟩) 2 2) (d := some 55) rfl rfl (by kernel_rfl) (by kernel_rfl) (by kernel_rfl) (fun _ _ _ h => h) (Or.inl ⟨by rfl, ?_⟩) hH ?_
      · (intro w' hE'; (try dsimp only at hE'); obtain ⟨y0, y1⟩ := hE'; go_simp; try with_reducible rfl)
      try simp only [Act.put, List.setIfInBounds_toArray, List.set_cons_zero, List.set_cons_succ]
      refine wpAnyH_ready (rs := [2]) (by kernel_rfl) (by simp) ?_
      refine AllReadyH.cons rfl (fun K hK => ?_) AllReadyH.nil
      rw [if_pos (by rfl)]
      go_wp2_with fail
      refine hK.out _ _ (⟨Ext.keep ((Ext.refl _).alloc _) hH.1, hH.2.alloc _⟩) (fun hH9 => ?_)
      clear hK; have hH0 := hH; clear hH; have hH := hH9; clear hH9
      try simp only [Act.put, List.setIfInBounds_toArray, List.set_cons_zero, List.set_cons_succ]
      refine wpAnyH_ready (rs := [4]) (by kernel_rfl) (by simp) ?_
      refine AllReadyH.cons rfl (fun K hK => ?_) AllReadyH.nil
      rw [if_pos (by rfl)]
      refine wp_append_ints (.tmp 50) (.tmp 51) 27 rfl i0 Try.underlying27 hii hiz his hib (D := w11.heap.size) rfl (by first | exact OwI.fresh (w := w11.drew) [0] (by simp) | exact (OwI.fresh (w := w11) [0] (by simp)).ext ((Ext.refl _).drew)) rfl (RI.ext HT11.out.ta hH.2) (by omega) (by go_size) (by omega) (fun A2 c2' w92 hO92 hg92 hat92 => ?_)
      refine hK.out _ _ (⟨Ext.keep (Ext.grown hH.2 hg92 (fun b hb => by cases hb; simp)) HT11.out.s0, Ext.grown hH.2 hg92 (fun b hb => by cases hb; simp)⟩) (fun hH9 => ?_)
      clear hK; have hH0 := hH; clear hH; have hH := hH9; clear hH9
      try simp only [Act.put, List.setIfInBounds_toArray, List.set_cons_zero, List.set_cons_succ]
      refine wpAnyH_ready (rs := [6]) (by kernel_rfl) (by simp) ?_
      refine AllReadyH.cons rfl (fun K hK => ?_) AllReadyH.nil
      rw [if_pos (by rfl)]
      have hcp92 := hO92.cap; have hs92 := hH.2.size; refine wp_append_ints (.tmp 52) (.tmp 53) 27 rfl i0 Try.underlying27 hii hiz his hib (D := w11.heap.size) rfl hO92 rfl (RI.ext HT11.out.tb hH.2) (by omega) hs92 hcp92.1 (fun A3 c3 w93 hO93 hg93 hat93 => ?_)
      refine hK.out _ _ (⟨Ext.keep (Ext.grown hH.2 hg93 (fun b hb => (OwI.ob2 hO92 b hb).1)) HT11.out.s0, Ext.grown hH.2 hg93 (fun b hb => (OwI.ob2 hO92 b hb).1)⟩) (fun hH9 => ?_)
      clear hK; have hH0 := hH; clear hH; have hH := hH9; clear hH9
      try simp only [Act.put, List.setIfInBounds_toArray, List.set_cons_zero, List.set_cons_succ]
      refine wpAnyH_ready (rs := [8]) (by kernel_rfl) (by simp) ?_
      refine AllReadyH.cons rfl (fun K hK => ?_) AllReadyH.nil
      rw [if_pos (by rfl)]
      go_wp2_with fail
      (with_reducible refine (c_valueB HVK.out HKK.out (RdSig.mk (RI.ext HT11.out.sg hH.2)) (RdPs.mk (HT11.out.ext hH.2).pl) (RdI.mk (HRB.out _ _ (by simpa using hO93.ri))) (RdI.mk (HT11.out.ext hH.2).va)).mono ?_)
      rintro e w9 ⟨rfl, hE9⟩
      refine hK.out _ _ (⟨Ext.keep hE9 hH.1, Ext.trans hH.2 hE9⟩) (fun hH9 => ?_)
      clear hK; have hH0 := hH; clear hH; have hH := hH9; clear hH9
      try simp only [Act.put, List.setIfInBounds_toArray, List.set_cons_zero, List.set_cons_succ]
      refine wpAnyH_take_dst (i := 9) (v := .tuple #[.int .i64 Z, .bool true]) (d := some 47) rfl rfl (by kernel_rfl) (by kernel_rfl) (by kernel_rfl) (fun _ _ _ h => h) (Or.inl ⟨by rfl, ?_⟩) hH ?_
      · (intro w' hE'; (try dsimp only at hE'); obtain ⟨y0, y1⟩ := hE'; go_simp; try with_reducible rfl)
      try simp only [Act.put, List.setIfInBounds_toArray, List.set_cons_zero, List.set_cons_succ]
      refine wpAnyH_take_dst (i := 10) (v := .int .i64 Z) (d := some 57) rfl rfl (by kernel_rfl) (by kernel_rfl) (by kernel_rfl) (fun _ _ _ h => h) (Or.inl ⟨by rfl, ?_⟩) hH ?_
      · (intro w' hE'; (try dsimp only at hE'); obtain ⟨y0, y1⟩ := hE'; go_simp; try with_reducible rfl)
      try simp only [Act.put, List.setIfInBounds_toArray, List.set_cons_zero, List.set_cons_succ]
      refine wpAnyH_take_dst (i := 12) (v := .int .i64 Z) (d := some 13) rfl rfl (by kernel_rfl) (by kernel_rfl) (by kernel_rfl) (fun _ _ _ h => h) (Or.inl ⟨by rfl, ?_⟩) hH ?_
      · (intro w' hE'; (try dsimp only at hE'); obtain ⟨y0, y1⟩ := hE'; go_simp; try with_reducible rfl)
      try simp only [Act.put, List.setIfInBounds_toArray, List.set_cons_zero, List.set_cons_succ]
      refine wpAnyH_take_dst (i := 11) (v := .bool true) (d := some 58) rfl rfl (by kernel_rfl) (by kernel_rfl) (by kernel_rfl) (fun _ _ _ h => h) (Or.inl ⟨by rfl, ?_⟩) hH ?_
      · (intro w' hE'; (try dsimp only at hE'); obtain ⟨y0, y1⟩ := hE'; go_simp; try with_reducible rfl)
      try simp only [Act.put, List.setIfInBounds_toArray, List.set_cons_zero, List.set_cons_succ]
      refine wpAnyH_take_dst (i := 13) (v := .bool true) (d := some 14) rfl rfl (by kernel_rfl) (by kernel_rfl) (by kernel_rfl) (fun _ _ _ h => h) (Or.inl ⟨by rfl, ?_⟩) hH ?_
      · (intro w' hE'; (try dsimp only at hE'); obtain ⟨y0, y1⟩ := hE'; go_simp; try with_reducible rfl)
      try simp only [Act.put, List.setIfInBounds_toArray, List.set_cons_zero, List.set_cons_succ]
      refine wpAnyH_done (by kernel_rfl) ?_ _
      exact ⟨_, _, _, _, _, by rfl, hH⟩
    obtain ⟨A3, c3, A4, c4, q, ha, ⟨hc13, hE13⟩⟩ := hR
    simp only [Act.put, List.setIfInBounds_toArray, List.set_cons_zero, List.set_cons_succ] at ha
    subst ha
    have HT13 := Lib.hid (HT11.out.ext hE13)
    obtain ⟨rb, ro, p0, A0, m0, d0, eAP, hp0, hr0, hr1, hri⟩ := RP.at_ HT13.out.pl (show 0 < 3 by omega)
    have hpp : p0 = ⟨c0, [a0, a1]⟩ := by rw [hpe] at hp0; cases hp0; rfl
    subst hpp
    have hm0 : m0 = 2 := hri.len.symm
    subst hm0
    obtain ⟨qb, qo, z0, eA0, hz0, hq0⟩ := RI.at_ hri (show 0 < 2 by omega)
    obtain ⟨_, _, z1, eA1, hz1, hq1⟩ := RI.at_ hri (show 1 < 2 by omega)
    rw [eA0] at eA1
    cases eA1
    cases hz0
    cases hz1
    subst eA0
    rw [Nat.zero_mul, Nat.add_zero] at hr0 hr1
    rw [Nat.add_zero] at hq0
    subst eAP
    clear hri hp0
    go_wp2_with fail
    go_quiet (fail)
    obtain ⟨wq, hwq⟩ : ∃ wq, wq = w13.drewN nq := ⟨_, rfl⟩
    have hEq : Ext w13 wq := by rw [hwq]; exact (Ext.refl w13).drewN nq
    rw [← hwq]
    clear hwq
    have HT14 := Lib.hid (HT13.out.ext hEq)
    have hc14 := HT14.out.s0
    have hEnd : Ext w wq := Ext.trans (Ext.trans (Ext.trans HE9.out hE911) hE13) hEq
    clear hr0 hr1 hq0 hq1
    go_wp2_with fail
    (with_reducible refine (c_polyLessB HLT.out (RdSig.mk HT14.out.sg) (RdPs.mk HT14.out.pl) (RdI.mk HT14.out.ta) (RdI.mk HT14.out.tb)).mono ?_)
    rintro e w15 ⟨rfl, hE15⟩
    have HT15 := Lib.hid (HT14.out.ext hE15)
    have hc15 := HT15.out.s0
    have hEnd15 := Ext.trans hEnd hE15
    cases lt with
    | true =>
      obtain ⟨hXY, hmo1⟩ := hL2 rfl
      subst hmo1
      have hd1 : ¬ Y ≤ X := by omega
      have hd2 : X ≤ Y := by omega
      go_wp2_with fail
      (with_reducible refine (c_polyMostB HMO.out (RdSig.mk HT15.out.sg) (RdPs.mk HT15.out.pl) (RdI.mk HT15.out.ta) (RdI.mk HT15.out.tb)).mono ?_)
      rintro e w16 ⟨rfl, hE16⟩
      have HT16 := Lib.hid (HT15.out.ext hE16)
      have hc16 := HT16.out.s0
      go_wp2_with fail
      (with_reducible refine (c_polyMostB HMO.out (RdSig.mk HT16.out.sg) (RdPs.mk HT16.out.pl) (RdI.mk HT16.out.ta) (RdI.mk HT16.out.tb)).mono ?_)
      rintro e w17 ⟨rfl, hE17⟩
      go_wp2
      go_ret
      exact ⟨ret_bool (by first | rfl | simpa using hd2), Ext.trans (Ext.trans hEnd15 hE16) hE17⟩
    | false =>
      go_wp2_with fail
      (with_reducible refine (c_polyMostB HMO.out (RdSig.mk HT15.out.sg) (RdPs.mk HT15.out.pl) (RdI.mk HT15.out.ta) (RdI.mk HT15.out.tb)).mono ?_)
      rintro e w17 ⟨rfl, hE17⟩
      cases mo with
      | true =>
        have hd2 : X ≤ Y := hL1 rfl
        go_wp2
        go_ret
        exact ⟨ret_bool (by first | rfl | simpa using hd2), Ext.trans hEnd15 hE17⟩
      | false =>
        go_wp2
        go_ret
        exact ⟨rfl, Ext.trans hEnd15 hE17⟩

set_option maxRecDepth 100000 in
theorem lifted (os : Os) (started : os.Started) (H : Type) (enc : TypeId × Value → H) :
    ReturnsInHanded {} Try.checked os 3 .any (Rows.fnPolyValuesSpec.pre6 enc Try.prog Try.f3 Rows.fnPolyValuesRow.domain false) (Rows.fnPolyValuesSpec.post enc Try.prog Try.f3 false true false false) := by
  refine returnsInHanded_of_change (C := Try.checked) own started (by kernel_rfl) Try.func3
    (ChangeSpec.witness6 (enc := enc) (C := Try.checked) false ⟨#[], #[.slice none 0 0], []⟩ 8 (by kernel_rfl) (by kernel_rfl) (by kernel_rfl) (by kernel_rfl)) ?_
  intro W base args ds gs before hval0 hW hcnd _
  have hval : ∀ (j : Nat) t v, Try.f3.params[j]? = some t → args[j]? = some v → Value.okWide Try.prog W .any base t v := hval0
  have hW' := hW
  obtain ⟨p, q, hA0, hV, rfl, hfz, hnd⟩ := hW
  have hA : DataW.TrodAll enc Try.prog W 0 (fun _ => true) true Try.f3.params.toList args.toList ds p := hA0
  rw [Try.params3] at hA hval
  obtain ⟨v0, vs0, d0, ds0, p0, q0, hargs, rfl, rfl, h0, r0⟩ := trodAll_cons hA
  obtain ⟨rfl, rfl, rfl⟩ := trodAll_nil r0
  obtain rfl : args = #[v0] := by cases args; simp_all
  obtain ⟨rfl, rfl⟩ := trodVars_none hV
  have k0 := h0
  have lt0 : ∀ x ∈ p0, x.block < W.heap.size := by obtain ⟨m, hm⟩ := k0; exact DataW.trod_lt m _ _ _ hm
  obtain ⟨x0, w0⟩ := raw_By (hval 0 22 v0 rfl rfl) h0
  clear hA0 hval0
  refine (walk w0).mono fun e W' ⟨he, bel⟩ => ?_
  subst he
  exact ⟨_, rfl, _, _, _, [], _, [], hW', trodAll_mk1 (shut_bool Try.underlying4 _), (trodAll_cons_mk (Below.trod laidOut (by kernel_rfl) (of_decide_eq_true (by kernel_rfl)) k0 bel lt0) trodAll_mk0), rfl, bel.frame _, fun h => by cases h⟩

theorem over : Rows.fnPolyValuesRow.holds Try.pinned (OpenSpec.ofChange Rows.fnPolyValuesSpec) :=
  OpenClaim.holds_of_wide 3 Try.f3 rfl rfl rfl rfl rfl rfl rfl ⟨rfl, rfl, rfl, rfl, rfl⟩ rfl rfl rfl rfl rfl (by kernel_rfl) Try.func3 (by kernel_rfl)
    (of_decide_eq_true (by kernel_rfl)) (by unfold Func.isWrapper; first | (rw [if_pos (by decide +kernel)]; kernel_rfl) | (rw [if_neg (by decide +kernel)]; exact ⟨rfl, rfl⟩))
    (fun os started H enc _ => lifted os started H enc)

theorem proved : Rows.FnPolyValuesSaid := over

end Go.Proofs.Ytafjlimmahcpmaa.FnPolyValues
