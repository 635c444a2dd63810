/- Proved: for every input the law FnPolyWalk returns true, does not panic, and its argument reads afterwards as it read before. Conditions: none. -/
import Derived.Test.YtljbjabgdalabaaHeld
import Derived.Test.YtljbjabgdalabaaOpenBy
import Derived.Test.YtljbjabgdalabaaPwA
import Derived.Test.YtljbjabgdalabaaStp
import Derived.Test.YtljbjabgdalabaaDicSy
import Derived.Test.YtljbjabgdalabaaPwB
-- rd: RdPs RdSyK
namespace Go.Proofs.Ytljbjabgdalabaa.FnPolyWalk
open Go.ChangeShapes Go.WideShapes Go.ChangeAt Go.RowKit
set_option linter.unusedSimpArgs false
set_option linter.unusedVariables false
set_option linter.constructorNameAsVariable false

theorem c_iOrB {v0 v1 : Value} {s : Sy} {ps : List Pl} {b : Bool} {w : World} (hb : polyOrients s ps = b) (h0 : RdSyC w v0 s) (h1 : RdPs w v1 ps) :
    Calls Try.prog 25 #[v0, v1] w fun e w' => e = .returned (.bool b) ∧ Ext w w' := by subst hb; exact c_iPolyOrients h0 h1
theorem c_iAlB {v0 v1 : Value} {s : Sy} {ps : List Pl} {b : Bool} {w : World} (hb : polyAllows s ps = b) (h0 : RdSyC w v0 s) (h1 : RdPs w v1 ps) :
    Calls Try.prog 26 #[v0, v1] w fun e w' => e = .returned (.bool b) ∧ Ext w w' := by subst hb; exact c_iPolyAllows h0 h1
theorem c_sOrB {v0 v1 : Value} {s : Sy} {ps : List Pl} {b : Bool} {w : World} (hb : polyOrients s ps = b) (h0 : RdSyC w v0 s) (h1 : RdPs w v1 ps) :
    Calls Try.prog 27 #[v0, v1] w fun e w' => e = .returned (.bool b) ∧ Ext w w' := by subst hb; exact c_sPolyOrients h0 h1
theorem c_sAlB {v0 v1 : Value} {s : Sy} {ps : List Pl} {b : Bool} {w : World} (hb : polyAllows s ps = b) (h0 : RdSyC w v0 s) (h1 : RdPs w v1 ps) :
    Calls Try.prog 28 #[v0, v1] w fun e w' => e = .returned (.bool b) ∧ Ext w w' := by subst hb; exact c_sPolyAllows h0 h1
theorem c_sValB {v0 v1 v2 v3 : Value} {ar : List Int} {ps : List Pl} {t vs : List Int} {x : Int} {w : World} (hx : valAt ar ps t vs = x) (hk : valOk ar ps t vs = true) (h0 : RdSig w v0 ar) (h1 : RdPs w v1 ps) (h2 : RdIc w v2 t) (h3 : RdIc w v3 vs) :
    Calls Try.prog 29 #[v0, v1, v2, v3] w fun e w' => e = .returned (.tuple #[.int .i64 x, .bool true]) ∧ Ext w w' := by subst hx; rw [← hk]; exact c_sValueAt h0 h1 h2 h3
theorem ones_O : sizeO arD = onesP := by unfold sizeO; rw [if_pos (sigOk_iff.2 sigD)]; rfl
theorem c_sizeB {v0 : Value} {w : World} (h0 : RdSig w v0 arD) :
    Calls Try.prog 31 #[v0] w fun e w' => ∃ Z zc, e = .returned (.slice Z 3 zc) ∧ RP w' Z 3 onesP ∧ Ext w w' :=
  (c_iSizePolys h0).mono fun e w' h => by
    obtain ⟨Z, zn, zc, he, ho, hx⟩ := h
    rw [ones_O] at ho
    have h3 : zn = 3 := (OwQ.rp (OwD.q ho)).1.1.symm
    subst h3
    exact ⟨Z, zc, he, OwQ.rp (OwD.q ho), hx⟩
theorem one_of {w0 W : World} (h : Ext w0 W) : ∀ s, s = W.heap.size → RI (W.alloc (.cells #[.int .i64 1] 2)) (some ⟨s, 0, none⟩) 1 [1] := fun s e => by subst e; exact (OwI.fresh (w := W) [1] (by simp)).ri
theorem ones_O3 : PolysP arD onesP := ps3_ok ones_ps3 (by omega)
set_option maxRecDepth 100000 in
set_option maxHeartbeats 16000000 in
theorem walk {v0 : Value} {x0 : Nat} {w : World} (h0 : RawBy w v0 x0) :
    Calls Try.prog 5 #[v0] w fun e w' => e = .returned (.bool true) ∧ Ext w w' := by
  have H0 := Lib.hid h0
  obtain ⟨bb, hbb⟩ : ∃ bb, decide (4096 < x0) = bb := ⟨_, rfl⟩
  have HBB := Lib.hid hbb
  clear h0 hbb
  go_enter Try.func5, Try.ntmps5
  go_wp2_with fail
  (with_reducible refine (c_big HBB.out H0.out).mono ?_)
  rintro e w1 ⟨rfl, hE1⟩
  cases bb with
  | true =>
    go_wp2
    go_ret
    exact ⟨rfl, hE1⟩
  | false =>
    have hx : x0 ≤ 4096 := by have := HBB.out; simpa using this
    have H1 := Lib.hid (H0.out.ext hE1)
    go_wp2_with fail
    (with_reducible refine (c_roll H1.out hx).mono ?_)
    rintro e w2 ⟨g, rfl, hD2, hg2, hE2⟩
    have hE02 : Ext w w2 := Ext.trans hE1 hE2
    have hgw : w.heap.size ≤ g := by have := hE1.size; omega
    have hgl := hD2.lt
    go_wp2_with fail
    (with_reducible refine (c_w9System hD2).mono ?_)
    rintro e w3 ⟨AS, cS, B, m, d, rs, rfl, hS3, hR3, hl3, hG3, hD3, hO3⟩
    have hs3 := hO3.size
    have HY4 := Lib.hid (SysAt.mk' (c := cS) (d := d) (v := .bool true) hS3 hR3 hs3)
    have HSY := Lib.hid (show SysP ⟨arD, rs⟩ from good_sys hl3 hG3)
    have HG7 := Lib.hid (show ∀ r ∈ rs, r.r.length ≤ 7 from fun r hr => (hG3 r hr).2.2)
    have hE03 : Ext w w3 := hO3.ext hE02 hgw
    obtain ⟨w4, hw4⟩ : ∃ w4, w4 = w3.alloc (.cells #[.slice AS 3 cS, .slice B m d] 49) := ⟨_, rfl⟩
    rw [← hw4] at HY4
    have hE34 : Ext w3 w4 := by rw [hw4]; exact extX
    have HD4 := Lib.hid (hD3.ext hE34)
    have hE04 := Ext.trans hE03 hE34
    clear hS3 hR3 hD3 hO3 hG3
    go_wp2_with fail
    rw [← hw4]
    clear hw4
    obtain ⟨p, hp⟩ : ∃ p, p = w3.heap.size := ⟨_, rfl⟩
    rw [← hp] at HY4 ⊢
    have hpg : p ≠ g := by omega
    clear hp
    (with_reducible refine (c_below HD4.out (by omega) (by omega)).mono ?_)
    rintro e w5 ⟨least, rfl, hlb, hD5, hO5⟩
    have HY5 := Lib.hid (HY4.out.only hO5 hgl)
    have HD5 := Lib.hid hD5
    have hE05 : Ext w w5 := hO5.ext hE04 hgw
    clear HY4 HD4 hD5 hO5
    go_wp2_with fail
    (with_reducible refine (c_w9Polys HD5.out (by omega)).mono ?_)
    rintro e w6 ⟨AP, ps, rfl, hP6, hps, hD6, hO6, _⟩
    have HPS := Lib.hid hps
    have HP6 := Lib.hid hP6
    have HD6 := Lib.hid hD6
    have HY6 := Lib.hid (HY5.out.only hO6 hgl)
    have hE06 : Ext w w6 := hO6.ext hE05 hgw
    have HSm := Lib.hid (ps3_sm hps (by omega))
    have HPk := Lib.hid (ps3_ok hps (by omega))
    have HST := Lib.hid (show strictIn arD ps = true → Str ps from ps3_str hps)
    have t0 := HY6.out.c0
    have t1 := HY6.out.c1
    obtain ⟨b1, hb1⟩ : ∃ b1, polyOrients ⟨arD, rs⟩ ps = b1 := ⟨_, rfl⟩
    obtain ⟨b2, hb2⟩ : ∃ b2, polyAllows ⟨arD, rs⟩ ps = b2 := ⟨_, rfl⟩
    have hb12 : b1 = true → b2 = true := fun e => by rw [← hb2]; exact orients_allows (by rw [hb1]; exact e)
    have HB1 := Lib.hid hb1
    have HB2 := Lib.hid hb2
    clear hps hP6 hD6 hO6 HY5 HD5 hb1 hb2
    go_wp2_with fail
    (with_reducible refine (c_iOrB HB1.out HY6.out.rd (RdPs.mk HP6.out.rp)).mono ?_)
    rintro e w7 ⟨rfl, hE7⟩
    have HY7 := Lib.hid (HY6.out.ext hE7)
    have HP7 := Lib.hid (HP6.out.ext hE7)
    have HD7 := Lib.hid (HD6.out.ext hE7)
    have u0 := HY7.out.c0
    have u1 := HY7.out.c1
    clear t0 t1 HY6 HP6 HD6
    go_wp2_with fail
    (with_reducible refine (c_iAlB HB2.out HY7.out.rd (RdPs.mk HP7.out.rp)).mono ?_)
    rintro e w8 ⟨rfl, hE8⟩
    have HY8 := Lib.hid (HY7.out.ext hE8)
    have HP8 := Lib.hid (HP7.out.ext hE8)
    have HD8 := Lib.hid (HD7.out.ext hE8)
    have hE08 : Ext w w8 := Ext.trans hE06 (Ext.trans hE7 hE8)
    have t0 := HY8.out.c0
    have t1 := HY8.out.c1
    clear u0 u1 HY7 HP7 HD7
    cases b1 with
    | true =>
      have hb2' := hb12 rfl
      subst hb2'
      clear hb12
      go_wp2_with fail
      (with_reducible refine (c_sOrB HB1.out HY8.out.rd (RdPs.mk HP8.out.rp)).mono ?_)
      rintro e w9 ⟨rfl, hE9a⟩
      have HY9 := Lib.hid (HY8.out.ext hE9a)
      have HP9 := Lib.hid (HP8.out.ext hE9a)
      have HD9 := Lib.hid (HD8.out.ext hE9a)
      have u0 := HY9.out.c0
      have u1 := HY9.out.c1
      clear t0 t1 HY8 HP8 HD8
      go_wp2_with fail
      (with_reducible refine (c_sAlB HB2.out HY9.out.rd (RdPs.mk HP9.out.rp)).mono ?_)
      rintro e w10 ⟨rfl, hE10⟩
      have HY10 := Lib.hid (HY9.out.ext hE10)
      have HP10 := Lib.hid (HP9.out.ext hE10)
      have HD10 := Lib.hid (HD9.out.ext hE10)
      have hE010 : Ext w w10 := Ext.trans hE08 (Ext.trans hE9a hE10)
      have hg10 := HD10.out.lt
      clear u0 u1 HY9 HP9 HD9
      go_wp2_with fail
      (with_reducible refine (c_w9Term (g := g) (vars := 1) (by omega) (by omega) 3 (by omega) 4 (by omega) HD10.out).mono ?_)
      rintro e w11 ⟨TA, tn, tc, u, rfl, hO11, oku, gu, hn11, hD11, hOn11⟩
      have hcapT := hO11.cap
      have HT11 := Lib.hid (RIg.of hO11 hg10)
      have HOU := Lib.hid (show u.Ok arD from oku)
      have HLU := Lib.hid hO11.len
      have HGU := Lib.hid gu
      have htn15 : tn ≤ 15 := hn11
      have HPU := Lib.hid (show TermP arD u.flat from tm3 (d := 3) (vars := 1) (by omega) (by omega) oku (by rw [hO11.len]; exact hn11) gu)
      have HY11 := Lib.hid (HY10.out.only hOn11 hgl)
      have HP11 := Lib.hid (HP10.out.only hOn11)
      have HD11 := Lib.hid hD11
      have hE011 : Ext w w11 := hOn11.ext hE010 hgw
      clear hO11 oku gu hn11 hD11 hOn11 HY10 HP10 HD10
      go_wp2_with fail
      (with_reducible refine (c_below HD11.out (by omega) (by omega)).mono ?_)
      rintro e w12 ⟨v, rfl, hvb, hD12, hO12⟩
      have HY12 := Lib.hid (HY11.out.only hO12 hgl)
      have HP12 := Lib.hid (HP11.out.only hO12)
      have HT12 := Lib.hid (HT11.out.only hO12)
      have hE012 : Ext w w12 := hO12.ext hE011 hgw
      obtain ⟨w13, hw13⟩ : ∃ w13, w13 = w12.alloc (.cells #[.int .i64 v] 2) := ⟨_, rfl⟩
      have hE123 : Ext w12 w13 := by rw [hw13]; exact extX
      have HV13 := Lib.hid (show RI w13 (some ⟨w12.heap.size, 0, none⟩) 1 [v] from by rw [hw13]; exact (OwI.fresh (w := w12) [v] (by simp)).ri)
      have HY13 := Lib.hid (HY12.out.ext hE123)
      have HP13 := Lib.hid (HP12.out.ext hE123)
      have HT13 := Lib.hid (RI.ext HT12.out.1 hE123)
      have hE013 := Ext.trans hE012 hE123
      have t0 := HY12.out.c0
      have hpl := World.block_lt_of_cell? w12 _ t0
      have hv8 : 0 ≤ v ∧ v ≤ 8 := by omega
      obtain ⟨X, hX⟩ : ∃ X, valAt arD ps u.flat [v] = X := ⟨_, rfl⟩
      have HX := Lib.hid hX
      have HXO := Lib.hid (pw_self HSm.out HPk.out HOU.out HPU.out (by rw [HLU.out]; exact htn15) hv8)
      clear hD12 hO12 HY11 HP11 HD11 HT11 hX
      go_wp2_with fail
      rw [← hw13]
      clear hw13
      obtain ⟨vp, hvp⟩ : ∃ vp, vp = w12.heap.size := ⟨_, rfl⟩
      rw [← hvp] at HV13 ⊢
      clear hvp t0 hpl HY12 HP12 HT12
      have t0 := HY13.out.c0
      (with_reducible refine (c_sValB HX.out HXO.out HY13.out.sig (RdPs.mk HP13.out.rp) (RdIc.mk hcapT HT13.out) (RdIc.mk (by omega) HV13.out)).mono ?_)
      rintro e w14 ⟨rfl, hE14⟩
      have HY14 := Lib.hid (HY13.out.ext hE14)
      have HP14 := Lib.hid (HP13.out.ext hE14)
      have HT14 := Lib.hid (RI.ext HT13.out hE14)
      have HV14 := Lib.hid (RI.ext HV13.out hE14)
      have hE014 := Ext.trans hE013 hE14
      have t1 := HY14.out.c0
      have t2 := HY14.out.c1
      clear t0 HY13 HP13 HT13 HV13
      go_wp2_with fail
      (with_reducible refine (c_StepsFrom HY14.out.rd HSY.out HT14.out hcapT HPU.out).mono ?_)
      rintro e w15 ⟨LA, n, lc, sts, rfl, hR15, hn15, hall15, hE15⟩
      have HR15 := Lib.hid hR15
      have HAL := Lib.hid hall15
      have HY15 := Lib.hid (HY14.out.ext hE15)
      have HP15 := Lib.hid (HP14.out.ext hE15)
      have HT15 := Lib.hid (RI.ext HT14.out hE15)
      have HV15 := Lib.hid (RI.ext HV14.out hE15)
      have hE015 := Ext.trans hE014 hE15
      clear hR15 hall15 t1 t2 HY14 HP14 HT14 HV14
      go_wp2_with fail
      go_loopw [13] (fun iv wr => ∃ i : Nat, iv = .int .i64 i ∧ i ≤ n ∧ Ext w15 wr) (fun iv _ => n - (intOf iv).toNat)
      case atStart => exact ⟨0, rfl, Nat.zero_le _, Ext.refl _⟩
      case round =>
        obtain ⟨i, rfl, hi, hE⟩ := hrel
        by_cases hlt : i < n
        · obtain ⟨b, o, st, A', m', c', rfl, hst, hlo, hc0, hc1, hc2, hcap', hri', _⟩ := RSt.at_ (HR15.out.ext hE) hlt
          have HRI := Lib.hid hri'
          have hki : (i : Int) < (n : Int) := by omega
          have hk0 : (0 : Int) ≤ (i : Int) := by omega
          have HYr := Lib.hid (HY15.out.ext hE)
          have HPr := Lib.hid (RP.ext HP15.out.rp hE)
          have HVr := Lib.hid (RI.ext HV15.out hE)
          obtain ⟨X', Y, _, hX', hYO, hY, hle, hlt2⟩ := pw_step HSY.out HG7.out HSm.out HPk.out HST.out HOU.out HPU.out (by rw [HLU.out]; exact htn15) (HAL.out st (List.mem_of_getElem? hst)) hv8
          have hXX : X' = X := by rw [← hX', HX.out]
          subst hXX
          have HYO := Lib.hid hYO
          have HYV := Lib.hid hY
          have hbl := World.block_lt_of_cell? wr _ hc2
          have hYX : Y ≤ X' := hle HB2.out
          have hd1 : ¬ X' < Y := by omega
          have hd1' : decide (X' < Y) = false := by simpa using hd1
          have hd1'' : decide (Y > X') = false := by simpa using hYX
          have hYL : Y < X' := hlt2 HB1.out
          have hd2 : ¬ X' ≤ Y := by omega
          have hd2' : decide (X' ≤ Y) = false := by simpa using hYL
          have hd2'' : decide (Y ≥ X') = false := by simpa using hYL
          clear hri' hst hc0 hc1 hX' hYO hY hle hlt2
          go_wp2_with fail
          refine wp_only (R := fun (a0 : Act) (a8 : Act) (w9 : World) => a8 = (((((((((((((((a0.put (some 80) (.pointer (some ⟨p, 0, none⟩))).put (some 81) (.agg #[.slice AS 3 cS])).put (some 82) (.slice AP 3 3)).put (some 83) (.slice (some ⟨b, o, none⟩) n lc)).put (some 84) (.int .i64 (i : Int))).put (some 85) (.pointer (some ⟨b, o + i * 3, none⟩))).put (some 86) (.pointer (some ⟨b, o + i * 3 + 2, none⟩))).put (some 87) (.slice A' m' c')).put (some 88) (.slice (some ⟨vp, 0, none⟩) 1 1)).put (some 89) (.tuple #[.int .i64 Y, .bool true])).put (some 79) (.tuple #[.int .i64 Y, .bool true])).put (some 90) (.int .i64 Y)).put (some 91) (.bool true)).put (some 14) (.int .i64 Y)).put (some 15) (.bool true)) ∧ Ext wr w9) ?_ (fun a8 w16 hR => ?_)
          · refine wp_region_held_drew (S := (fun w' => Ext wr w')) (by kernel_rfl) ((Ext.refl wr).drew) (fun hH => ?_)
            refine wpAnyH_take_dst (i := 0) (v := .pointer (some ⟨p, 0, none⟩)) (d := some 80) rfl rfl (by kernel_rfl) (by kernel_rfl) (by kernel_rfl) (fun _ _ _ h => h) (Or.inl ⟨by rfl, ?_⟩) hH ?_
            · (intro w' hE'; (try dsimp only at hE'); have y0 := Ext.keep hE' HYr.out.c0; have y1 := Ext.keep hE' hc2; go_simp; try with_reducible rfl)
            try simp only [Act.put, List.setIfInBounds_toArray, List.set_cons_zero, List.set_cons_succ]
            refine wpAnyH_take_dst (i := 1) (v := .agg #[.slice AS 3 cS]) (d := some 81) rfl rfl (by kernel_rfl) (by kernel_rfl) (by kernel_rfl) (fun _ _ _ h => h) (Or.inl ⟨by rfl, ?_⟩) hH ?_
            · (intro w' hE'; (try dsimp only at hE'); have y0 := Ext.keep hE' HYr.out.c0; have y1 := Ext.keep hE' hc2; go_simp; try with_reducible rfl)
            try simp only [Act.put, List.setIfInBounds_toArray, List.set_cons_zero, List.set_cons_succ]
            refine wpAnyH_take_dst (i := 2) (v := .slice AP 3 3) (d := some 82) rfl rfl (by kernel_rfl) (by kernel_rfl) (by kernel_rfl) (fun _ _ _ h => h) (Or.inl ⟨by rfl, ?_⟩) hH ?_
            · (intro w' hE'; (try dsimp only at hE'); have y0 := Ext.keep hE' HYr.out.c0; have y1 := Ext.keep hE' hc2; go_simp; try with_reducible rfl)
            try simp only [Act.put, List.setIfInBounds_toArray, List.set_cons_zero, List.set_cons_succ]
            refine wpAnyH_take_dst (i := 3) (v := .slice (some ⟨b, o, none⟩) n lc) (d := some 83) rfl rfl (by kernel_rfl) (by kernel_rfl) (by kernel_rfl) (fun _ _ _ h => h) (Or.inl ⟨by rfl, ?_⟩) hH ?_
            · (intro w' hE'; (try dsimp only at hE'); have y0 := Ext.keep hE' HYr.out.c0; have y1 := Ext.keep hE' hc2; go_simp; try with_reducible rfl)
            try simp only [Act.put, List.setIfInBounds_toArray, List.set_cons_zero, List.set_cons_succ]
            refine wpAnyH_take_dst (i := 4) (v := .int .i64 (i : Int)) (d := some 84) rfl rfl (by kernel_rfl) (by kernel_rfl) (by kernel_rfl) (fun _ _ _ h => h) (Or.inl ⟨by rfl, ?_⟩) hH ?_
            · (intro w' hE'; (try dsimp only at hE'); have y0 := Ext.keep hE' HYr.out.c0; have y1 := Ext.keep hE' hc2; go_simp; try with_reducible rfl)
            try simp only [Act.put, List.setIfInBounds_toArray, List.set_cons_zero, List.set_cons_succ]
            refine wpAnyH_take_dst (i := 5) (v := .pointer (some ⟨b, o + i * 3, none⟩)) (d := some 85) rfl rfl (by kernel_rfl) (by kernel_rfl) (by kernel_rfl) (fun _ _ _ h => h) (Or.inl ⟨by rfl, ?_⟩) hH ?_
            · (intro w' hE'; (try dsimp only at hE'); have y0 := Ext.keep hE' HYr.out.c0; have y1 := Ext.keep hE' hc2; go_simp; try with_reducible rfl)
            try simp only [Act.put, List.setIfInBounds_toArray, List.set_cons_zero, List.set_cons_succ]
            refine wpAnyH_take_dst (i := 6) (v := .pointer (some ⟨b, o + i * 3 + 2, none⟩)) (d := some 86) rfl rfl (by kernel_rfl) (by kernel_rfl) (by kernel_rfl) (fun _ _ _ h => h) (Or.inl ⟨by rfl, ?_⟩) hH ?_
            · (intro w' hE'; (try dsimp only at hE'); have y0 := Ext.keep hE' HYr.out.c0; have y1 := Ext.keep hE' hc2; go_simp; try with_reducible rfl)
            try simp only [Act.put, List.setIfInBounds_toArray, List.set_cons_zero, List.set_cons_succ]
            refine wpAnyH_take_dst (i := 7) (v := .slice A' m' c') (d := some 87) rfl rfl (by kernel_rfl) (by kernel_rfl) (by kernel_rfl) (fun _ _ _ h => h) (Or.inl ⟨by rfl, ?_⟩) hH ?_
            · (intro w' hE'; (try dsimp only at hE'); have y0 := Ext.keep hE' HYr.out.c0; have y1 := Ext.keep hE' hc2; go_simp; try with_reducible rfl)
            try simp only [Act.put, List.setIfInBounds_toArray, List.set_cons_zero, List.set_cons_succ]
            refine wpAnyH_take_dst (i := 8) (v := .slice (some ⟨vp, 0, none⟩) 1 1) (d := some 88) rfl rfl (by kernel_rfl) (by kernel_rfl) (by kernel_rfl) (fun _ _ _ h => h) (Or.inl ⟨by rfl, ?_⟩) hH ?_
            · (intro w' hE'; (try dsimp only at hE'); have y0 := Ext.keep hE' HYr.out.c0; have y1 := Ext.keep hE' hc2; go_simp; try with_reducible rfl)
            try simp only [Act.put, List.setIfInBounds_toArray, List.set_cons_zero, List.set_cons_succ]
            refine wpAnyH_ready (rs := [9]) (by kernel_rfl) (by simp) ?_
            refine AllReadyH.cons rfl (fun K hK => ?_) AllReadyH.nil
            rw [if_pos (by rfl)]
            go_wp2_with fail
            (with_reducible refine (c_valueB HYV.out HYO.out (HYr.out.ext hH).sig (RdPs.mk (RP.ext HPr.out hH)) (RdI.mk (RI.ext HRI.out hH)) (RdI.mk (RI.ext HVr.out hH))).mono ?_)
            rintro e w9 ⟨rfl, hE9⟩
            refine hK.out _ _ (Ext.trans hH hE9) (fun hH9 => ?_)
            clear hK; have hH0 := hH; clear hH; have hH := hH9; clear hH9
            try simp only [Act.put, List.setIfInBounds_toArray, List.set_cons_zero, List.set_cons_succ]
            refine wpAnyH_take_dst (i := 10) (v := .tuple #[.int .i64 Y, .bool true]) (d := some 79) rfl rfl (by kernel_rfl) (by kernel_rfl) (by kernel_rfl) (fun _ _ _ h => h) (Or.inl ⟨by rfl, ?_⟩) hH ?_
            · (intro w' hE'; (try dsimp only at hE'); have y0 := Ext.keep hE' HYr.out.c0; have y1 := Ext.keep hE' hc2; go_simp; try with_reducible rfl)
            try simp only [Act.put, List.setIfInBounds_toArray, List.set_cons_zero, List.set_cons_succ]
            refine wpAnyH_take_dst (i := 11) (v := .int .i64 Y) (d := some 90) rfl rfl (by kernel_rfl) (by kernel_rfl) (by kernel_rfl) (fun _ _ _ h => h) (Or.inl ⟨by rfl, ?_⟩) hH ?_
            · (intro w' hE'; (try dsimp only at hE'); have y0 := Ext.keep hE' HYr.out.c0; have y1 := Ext.keep hE' hc2; go_simp; try with_reducible rfl)
            try simp only [Act.put, List.setIfInBounds_toArray, List.set_cons_zero, List.set_cons_succ]
            refine wpAnyH_take_dst (i := 13) (v := .int .i64 Y) (d := some 14) rfl rfl (by kernel_rfl) (by kernel_rfl) (by kernel_rfl) (fun _ _ _ h => h) (Or.inl ⟨by rfl, ?_⟩) hH ?_
            · (intro w' hE'; (try dsimp only at hE'); have y0 := Ext.keep hE' HYr.out.c0; have y1 := Ext.keep hE' hc2; go_simp; try with_reducible rfl)
            try simp only [Act.put, List.setIfInBounds_toArray, List.set_cons_zero, List.set_cons_succ]
            refine wpAnyH_take_dst (i := 12) (v := .bool true) (d := some 91) rfl rfl (by kernel_rfl) (by kernel_rfl) (by kernel_rfl) (fun _ _ _ h => h) (Or.inl ⟨by rfl, ?_⟩) hH ?_
            · (intro w' hE'; (try dsimp only at hE'); have y0 := Ext.keep hE' HYr.out.c0; have y1 := Ext.keep hE' hc2; go_simp; try with_reducible rfl)
            try simp only [Act.put, List.setIfInBounds_toArray, List.set_cons_zero, List.set_cons_succ]
            refine wpAnyH_take_dst (i := 14) (v := .bool true) (d := some 15) rfl rfl (by kernel_rfl) (by kernel_rfl) (by kernel_rfl) (fun _ _ _ h => h) (Or.inl ⟨by rfl, ?_⟩) hH ?_
            · (intro w' hE'; (try dsimp only at hE'); have y0 := Ext.keep hE' HYr.out.c0; have y1 := Ext.keep hE' hc2; go_simp; try with_reducible rfl)
            try simp only [Act.put, List.setIfInBounds_toArray, List.set_cons_zero, List.set_cons_succ]
            refine wpAnyH_done (by kernel_rfl) ?_ _
            exact ⟨by rfl, hH⟩
          obtain ⟨ha, hE16⟩ := hR
          simp only [Act.put, List.setIfInBounds_toArray, List.set_cons_zero, List.set_cons_succ] at ha
          subst ha
          go_wp2_with fail
          go_roundw
          case rel => exact ⟨i + 1, by go_num, by omega, Ext.trans hE hE16⟩
          case measure => simp only [intOf]; omega
        · obtain rfl : i = n := by omega
          have HYr := Lib.hid (HY15.out.ext hE)
          have HTr := Lib.hid (RI.ext HT15.out hE)
          obtain ⟨hz1, hz2⟩ := ones_val HOU.out HPU.out (by rw [HLU.out]; exact htn15) (fun z hz => by have := HGU.out z hz; omega)
          rw [HLU.out] at hz2
          have HZ1 := Lib.hid hz1
          have HZ2 := Lib.hid hz2
          have hEe := Ext.trans hE015 hE
          clear hz1 hz2 hE HR15 HAL HY15 HP15 HT15 HV15
          go_wp2_with fail
          refine wp_only (R := fun (a0 : Act) (a8 : Act) (w9 : World) => ∃ (Z : Option Addr) (zc : Nat) (q : Nat), a8 = (((((((((((((a0.put (some 111) (.pointer (some ⟨p, 0, none⟩))).put (some 112) (.agg #[.slice AS 3 cS])).put (some 113) (.pointer (some ⟨p, 0, none⟩))).put (some 114) (.agg #[.slice AS 3 cS])).put (some 115) (.slice Z 3 zc)).put (some 116) (.slice TA tn tc)).put (some 117) (.slice (some ⟨q, 0, none⟩) 1 1)).put (some 118) (.tuple #[.int .i64 (tn : Int), .bool true])).put (some 110) (.tuple #[.int .i64 (tn : Int), .bool true])).put (some 119) (.int .i64 (tn : Int))).put (some 120) (.bool true)).put (some 16) (.int .i64 (tn : Int))).put (some 17) (.bool true)) ∧ Ext wr w9) ?_ (fun a8 w17 hR => ?_)
          · refine wp_region_held_drew (S := (fun w' => Ext wr w')) (by kernel_rfl) ((Ext.refl wr).drew) (fun hH => ?_)
            refine wpAnyH_take_dst (i := 0) (v := .pointer (some ⟨p, 0, none⟩)) (d := some 111) rfl rfl (by kernel_rfl) (by kernel_rfl) (by kernel_rfl) (fun _ _ _ h => h) (Or.inl ⟨by rfl, ?_⟩) hH ?_
            · (intro w' hE'; (try dsimp only at hE'); have y0 := Ext.keep hE' HYr.out.c0; go_simp; try with_reducible rfl)
            try simp only [Act.put, List.setIfInBounds_toArray, List.set_cons_zero, List.set_cons_succ]
            refine wpAnyH_take_dst (i := 1) (v := .agg #[.slice AS 3 cS]) (d := some 112) rfl rfl (by kernel_rfl) (by kernel_rfl) (by kernel_rfl) (fun _ _ _ h => h) (Or.inl ⟨by rfl, ?_⟩) hH ?_
            · (intro w' hE'; (try dsimp only at hE'); have y0 := Ext.keep hE' HYr.out.c0; go_simp; try with_reducible rfl)
            try simp only [Act.put, List.setIfInBounds_toArray, List.set_cons_zero, List.set_cons_succ]
            refine wpAnyH_take_dst (i := 2) (v := .pointer (some ⟨p, 0, none⟩)) (d := some 113) rfl rfl (by kernel_rfl) (by kernel_rfl) (by kernel_rfl) (fun _ _ _ h => h) (Or.inl ⟨by rfl, ?_⟩) hH ?_
            · (intro w' hE'; (try dsimp only at hE'); have y0 := Ext.keep hE' HYr.out.c0; go_simp; try with_reducible rfl)
            try simp only [Act.put, List.setIfInBounds_toArray, List.set_cons_zero, List.set_cons_succ]
            refine wpAnyH_take_dst (i := 3) (v := .agg #[.slice AS 3 cS]) (d := some 114) rfl rfl (by kernel_rfl) (by kernel_rfl) (by kernel_rfl) (fun _ _ _ h => h) (Or.inl ⟨by rfl, ?_⟩) hH ?_
            · (intro w' hE'; (try dsimp only at hE'); have y0 := Ext.keep hE' HYr.out.c0; go_simp; try with_reducible rfl)
            try simp only [Act.put, List.setIfInBounds_toArray, List.set_cons_zero, List.set_cons_succ]
            refine wpAnyH_take_dst (i := 5) (v := .slice TA tn tc) (d := some 116) rfl rfl (by kernel_rfl) (by kernel_rfl) (by kernel_rfl) (fun _ _ _ h => h) (Or.inl ⟨by rfl, ?_⟩) hH ?_
            · (intro w' hE'; (try dsimp only at hE'); have y0 := Ext.keep hE' HYr.out.c0; go_simp; try with_reducible rfl)
            try simp only [Act.put, List.setIfInBounds_toArray, List.set_cons_zero, List.set_cons_succ]
            refine wpAnyH_ready (rs := [4, 6]) (by kernel_rfl) (by simp) ?_
            refine AllReadyH.cons rfl (fun K hK => ?_) (AllReadyH.cons rfl (fun K hK => ?_) (AllReadyH.nil))
            · rw [if_pos (by rfl)]
              go_wp2_with fail
              (with_reducible refine (c_sizeB (HYr.out.ext hH).sig).mono ?_)
              rintro e w9 ⟨Z, zc, rfl, hz, hE9⟩
              refine hK.out _ _ (Ext.trans hH hE9) (fun hH9 => ?_)
              clear hK; have hH0 := hH; clear hH; have hH := hH9; clear hH9
              try simp only [Act.put, List.setIfInBounds_toArray, List.set_cons_zero, List.set_cons_succ]
              refine wpAnyH_ready (rs := [6]) (by kernel_rfl) (by simp) ?_
              refine AllReadyH.cons rfl (fun K hK => ?_) AllReadyH.nil
              rw [if_pos (by rfl)]
              go_wp2_with fail; have hF6 := one_of hH
              refine hK.out _ _ (hH.alloc _) (fun hH9 => ?_)
              clear hK; have hH0 := hH; clear hH; have hH := hH9; clear hH9
              try simp only [Act.put, List.setIfInBounds_toArray, List.set_cons_zero, List.set_cons_succ]
              refine wpAnyH_ready (rs := [7]) (by kernel_rfl) (by simp) ?_
              refine AllReadyH.cons rfl (fun K hK => ?_) AllReadyH.nil
              rw [if_pos (by rfl)]
              go_wp2_with fail
              (with_reducible refine (c_valueB HZ2.out HZ1.out (HYr.out.ext hH).sig (RdPs.mk (A := Z) (n := 3) (c := zc) (by first | exact hz | exact RP.ext hz ((Ext.refl _).alloc _))) (RdI.mk (RI.ext HTr.out hH)) (RdI.mk (by first | exact hR6 | exact hF6 _ (by go_size)))).mono ?_)
              rintro e w9 ⟨rfl, hE9⟩
              refine hK.out _ _ (Ext.trans hH hE9) (fun hH9 => ?_)
              clear hK; have hH0 := hH; clear hH; have hH := hH9; clear hH9
              try simp only [Act.put, List.setIfInBounds_toArray, List.set_cons_zero, List.set_cons_succ]
              refine wpAnyH_take_dst (i := 8) (v := .tuple #[.int .i64 (tn : Int), .bool true]) (d := some 110) rfl rfl (by kernel_rfl) (by kernel_rfl) (by kernel_rfl) (fun _ _ _ h => h) (Or.inl ⟨by rfl, ?_⟩) hH ?_
              · (intro w' hE'; (try dsimp only at hE'); have y0 := Ext.keep hE' HYr.out.c0; go_simp; try with_reducible rfl)
              try simp only [Act.put, List.setIfInBounds_toArray, List.set_cons_zero, List.set_cons_succ]
              refine wpAnyH_take_dst (i := 9) (v := .int .i64 (tn : Int)) (d := some 119) rfl rfl (by kernel_rfl) (by kernel_rfl) (by kernel_rfl) (fun _ _ _ h => h) (Or.inl ⟨by rfl, ?_⟩) hH ?_
              · (intro w' hE'; (try dsimp only at hE'); have y0 := Ext.keep hE' HYr.out.c0; go_simp; try with_reducible rfl)
              try simp only [Act.put, List.setIfInBounds_toArray, List.set_cons_zero, List.set_cons_succ]
              refine wpAnyH_take_dst (i := 11) (v := .int .i64 (tn : Int)) (d := some 16) rfl rfl (by kernel_rfl) (by kernel_rfl) (by kernel_rfl) (fun _ _ _ h => h) (Or.inl ⟨by rfl, ?_⟩) hH ?_
              · (intro w' hE'; (try dsimp only at hE'); have y0 := Ext.keep hE' HYr.out.c0; go_simp; try with_reducible rfl)
              try simp only [Act.put, List.setIfInBounds_toArray, List.set_cons_zero, List.set_cons_succ]
              refine wpAnyH_take_dst (i := 10) (v := .bool true) (d := some 120) rfl rfl (by kernel_rfl) (by kernel_rfl) (by kernel_rfl) (fun _ _ _ h => h) (Or.inl ⟨by rfl, ?_⟩) hH ?_
              · (intro w' hE'; (try dsimp only at hE'); have y0 := Ext.keep hE' HYr.out.c0; go_simp; try with_reducible rfl)
              try simp only [Act.put, List.setIfInBounds_toArray, List.set_cons_zero, List.set_cons_succ]
              refine wpAnyH_take_dst (i := 12) (v := .bool true) (d := some 17) rfl rfl (by kernel_rfl) (by kernel_rfl) (by kernel_rfl) (fun _ _ _ h => h) (Or.inl ⟨by rfl, ?_⟩) hH ?_
              · (intro w' hE'; (try dsimp only at hE'); have y0 := Ext.keep hE' HYr.out.c0; go_simp; try with_reducible rfl)
              try simp only [Act.put, List.setIfInBounds_toArray, List.set_cons_zero, List.set_cons_succ]
              refine wpAnyH_done (by kernel_rfl) ?_ _
              exact ⟨Z, zc, _, by rfl, hH⟩
            · rw [if_pos (by rfl)]
              go_wp2_with fail; have hF6 := one_of hH
              refine hK.out _ _ (hH.alloc _) (fun hH9 => ?_)
              clear hK; have hH0 := hH; clear hH; have hH := hH9; clear hH9
              try simp only [Act.put, List.setIfInBounds_toArray, List.set_cons_zero, List.set_cons_succ]
              refine wpAnyH_ready (rs := [4]) (by kernel_rfl) (by simp) ?_
              refine AllReadyH.cons rfl (fun K hK => ?_) AllReadyH.nil
              rw [if_pos (by rfl)]
              go_wp2_with fail; (with_reducible refine (c_sizeB (HYr.out.ext hH).sig).mono ?_); rintro e w9 ⟨Z, zc, rfl, hz, hE9⟩; have hR6 : RI w9 (some ⟨wr.heap.size, 0, none⟩) 1 [1] := RI.ext (hF6 wr.heap.size (by simp [go_sem])) hE9
              refine hK.out _ _ (Ext.trans hH hE9) (fun hH9 => ?_)
              clear hK; have hH0 := hH; clear hH; have hH := hH9; clear hH9
              try simp only [Act.put, List.setIfInBounds_toArray, List.set_cons_zero, List.set_cons_succ]
              refine wpAnyH_ready (rs := [7]) (by kernel_rfl) (by simp) ?_
              refine AllReadyH.cons rfl (fun K hK => ?_) AllReadyH.nil
              rw [if_pos (by rfl)]
              go_wp2_with fail
              (with_reducible refine (c_valueB HZ2.out HZ1.out (HYr.out.ext hH).sig (RdPs.mk (A := Z) (n := 3) (c := zc) (by first | exact hz | exact RP.ext hz ((Ext.refl _).alloc _))) (RdI.mk (RI.ext HTr.out hH)) (RdI.mk (by first | exact hR6 | exact hF6 _ (by go_size)))).mono ?_)
              rintro e w9 ⟨rfl, hE9⟩
              refine hK.out _ _ (Ext.trans hH hE9) (fun hH9 => ?_)
              clear hK; have hH0 := hH; clear hH; have hH := hH9; clear hH9
              try simp only [Act.put, List.setIfInBounds_toArray, List.set_cons_zero, List.set_cons_succ]
              refine wpAnyH_take_dst (i := 8) (v := .tuple #[.int .i64 (tn : Int), .bool true]) (d := some 110) rfl rfl (by kernel_rfl) (by kernel_rfl) (by kernel_rfl) (fun _ _ _ h => h) (Or.inl ⟨by rfl, ?_⟩) hH ?_
              · (intro w' hE'; (try dsimp only at hE'); have y0 := Ext.keep hE' HYr.out.c0; go_simp; try with_reducible rfl)
              try simp only [Act.put, List.setIfInBounds_toArray, List.set_cons_zero, List.set_cons_succ]
              refine wpAnyH_take_dst (i := 9) (v := .int .i64 (tn : Int)) (d := some 119) rfl rfl (by kernel_rfl) (by kernel_rfl) (by kernel_rfl) (fun _ _ _ h => h) (Or.inl ⟨by rfl, ?_⟩) hH ?_
              · (intro w' hE'; (try dsimp only at hE'); have y0 := Ext.keep hE' HYr.out.c0; go_simp; try with_reducible rfl)
              try simp only [Act.put, List.setIfInBounds_toArray, List.set_cons_zero, List.set_cons_succ]
              refine wpAnyH_take_dst (i := 11) (v := .int .i64 (tn : Int)) (d := some 16) rfl rfl (by kernel_rfl) (by kernel_rfl) (by kernel_rfl) (fun _ _ _ h => h) (Or.inl ⟨by rfl, ?_⟩) hH ?_
              · (intro w' hE'; (try dsimp only at hE'); have y0 := Ext.keep hE' HYr.out.c0; go_simp; try with_reducible rfl)
              try simp only [Act.put, List.setIfInBounds_toArray, List.set_cons_zero, List.set_cons_succ]
              refine wpAnyH_take_dst (i := 10) (v := .bool true) (d := some 120) rfl rfl (by kernel_rfl) (by kernel_rfl) (by kernel_rfl) (fun _ _ _ h => h) (Or.inl ⟨by rfl, ?_⟩) hH ?_
              · (intro w' hE'; (try dsimp only at hE'); have y0 := Ext.keep hE' HYr.out.c0; go_simp; try with_reducible rfl)
              try simp only [Act.put, List.setIfInBounds_toArray, List.set_cons_zero, List.set_cons_succ]
              refine wpAnyH_take_dst (i := 12) (v := .bool true) (d := some 17) rfl rfl (by kernel_rfl) (by kernel_rfl) (by kernel_rfl) (fun _ _ _ h => h) (Or.inl ⟨by rfl, ?_⟩) hH ?_
              · (intro w' hE'; (try dsimp only at hE'); have y0 := Ext.keep hE' HYr.out.c0; go_simp; try with_reducible rfl)
              try simp only [Act.put, List.setIfInBounds_toArray, List.set_cons_zero, List.set_cons_succ]
              refine wpAnyH_done (by kernel_rfl) ?_ _
              exact ⟨Z, zc, _, by rfl, hH⟩
          obtain ⟨Z, zc, q, ha, hE17⟩ := hR
          simp only [Act.put, List.setIfInBounds_toArray, List.set_cons_zero, List.set_cons_succ] at ha
          subst ha
          go_wp2_with fail
          go_ret
          exact ⟨ret_bool (by simp), Ext.trans hEe hE17⟩
    | false =>
      clear hb12
      cases b2 with
      | true =>
        go_wp2_with fail
        (with_reducible refine (c_sOrB HB1.out HY8.out.rd (RdPs.mk HP8.out.rp)).mono ?_)
        rintro e w9 ⟨rfl, hE9a⟩
        have HY9 := Lib.hid (HY8.out.ext hE9a)
        have HP9 := Lib.hid (HP8.out.ext hE9a)
        have HD9 := Lib.hid (HD8.out.ext hE9a)
        have u0 := HY9.out.c0
        have u1 := HY9.out.c1
        clear t0 t1 HY8 HP8 HD8
        go_wp2_with fail
        (with_reducible refine (c_sAlB HB2.out HY9.out.rd (RdPs.mk HP9.out.rp)).mono ?_)
        rintro e w10 ⟨rfl, hE10⟩
        have HY10 := Lib.hid (HY9.out.ext hE10)
        have HP10 := Lib.hid (HP9.out.ext hE10)
        have HD10 := Lib.hid (HD9.out.ext hE10)
        have hE010 : Ext w w10 := Ext.trans hE08 (Ext.trans hE9a hE10)
        have hg10 := HD10.out.lt
        clear u0 u1 HY9 HP9 HD9
        go_wp2_with fail
        (with_reducible refine (c_w9Term (g := g) (vars := 1) (by omega) (by omega) 3 (by omega) 4 (by omega) HD10.out).mono ?_)
        rintro e w11 ⟨TA, tn, tc, u, rfl, hO11, oku, gu, hn11, hD11, hOn11⟩
        have hcapT := hO11.cap
        have HT11 := Lib.hid (RIg.of hO11 hg10)
        have HOU := Lib.hid (show u.Ok arD from oku)
        have HLU := Lib.hid hO11.len
        have HGU := Lib.hid gu
        have htn15 : tn ≤ 15 := hn11
        have HPU := Lib.hid (show TermP arD u.flat from tm3 (d := 3) (vars := 1) (by omega) (by omega) oku (by rw [hO11.len]; exact hn11) gu)
        have HY11 := Lib.hid (HY10.out.only hOn11 hgl)
        have HP11 := Lib.hid (HP10.out.only hOn11)
        have HD11 := Lib.hid hD11
        have hE011 : Ext w w11 := hOn11.ext hE010 hgw
        clear hO11 oku gu hn11 hD11 hOn11 HY10 HP10 HD10
        go_wp2_with fail
        (with_reducible refine (c_below HD11.out (by omega) (by omega)).mono ?_)
        rintro e w12 ⟨v, rfl, hvb, hD12, hO12⟩
        have HY12 := Lib.hid (HY11.out.only hO12 hgl)
        have HP12 := Lib.hid (HP11.out.only hO12)
        have HT12 := Lib.hid (HT11.out.only hO12)
        have hE012 : Ext w w12 := hO12.ext hE011 hgw
        obtain ⟨w13, hw13⟩ : ∃ w13, w13 = w12.alloc (.cells #[.int .i64 v] 2) := ⟨_, rfl⟩
        have hE123 : Ext w12 w13 := by rw [hw13]; exact extX
        have HV13 := Lib.hid (show RI w13 (some ⟨w12.heap.size, 0, none⟩) 1 [v] from by rw [hw13]; exact (OwI.fresh (w := w12) [v] (by simp)).ri)
        have HY13 := Lib.hid (HY12.out.ext hE123)
        have HP13 := Lib.hid (HP12.out.ext hE123)
        have HT13 := Lib.hid (RI.ext HT12.out.1 hE123)
        have hE013 := Ext.trans hE012 hE123
        have t0 := HY12.out.c0
        have hpl := World.block_lt_of_cell? w12 _ t0
        have hv8 : 0 ≤ v ∧ v ≤ 8 := by omega
        obtain ⟨X, hX⟩ : ∃ X, valAt arD ps u.flat [v] = X := ⟨_, rfl⟩
        have HX := Lib.hid hX
        have HXO := Lib.hid (pw_self HSm.out HPk.out HOU.out HPU.out (by rw [HLU.out]; exact htn15) hv8)
        clear hD12 hO12 HY11 HP11 HD11 HT11 hX
        go_wp2_with fail
        rw [← hw13]
        clear hw13
        obtain ⟨vp, hvp⟩ : ∃ vp, vp = w12.heap.size := ⟨_, rfl⟩
        rw [← hvp] at HV13 ⊢
        clear hvp t0 hpl HY12 HP12 HT12
        have t0 := HY13.out.c0
        (with_reducible refine (c_sValB HX.out HXO.out HY13.out.sig (RdPs.mk HP13.out.rp) (RdIc.mk hcapT HT13.out) (RdIc.mk (by omega) HV13.out)).mono ?_)
        rintro e w14 ⟨rfl, hE14⟩
        have HY14 := Lib.hid (HY13.out.ext hE14)
        have HP14 := Lib.hid (HP13.out.ext hE14)
        have HT14 := Lib.hid (RI.ext HT13.out hE14)
        have HV14 := Lib.hid (RI.ext HV13.out hE14)
        have hE014 := Ext.trans hE013 hE14
        have t1 := HY14.out.c0
        have t2 := HY14.out.c1
        clear t0 HY13 HP13 HT13 HV13
        go_wp2_with fail
        (with_reducible refine (c_StepsFrom HY14.out.rd HSY.out HT14.out hcapT HPU.out).mono ?_)
        rintro e w15 ⟨LA, n, lc, sts, rfl, hR15, hn15, hall15, hE15⟩
        have HR15 := Lib.hid hR15
        have HAL := Lib.hid hall15
        have HY15 := Lib.hid (HY14.out.ext hE15)
        have HP15 := Lib.hid (HP14.out.ext hE15)
        have HT15 := Lib.hid (RI.ext HT14.out hE15)
        have HV15 := Lib.hid (RI.ext HV14.out hE15)
        have hE015 := Ext.trans hE014 hE15
        clear hR15 hall15 t1 t2 HY14 HP14 HT14 HV14
        go_wp2_with fail
        go_loopw [13] (fun iv wr => ∃ i : Nat, iv = .int .i64 i ∧ i ≤ n ∧ Ext w15 wr) (fun iv _ => n - (intOf iv).toNat)
        case atStart => exact ⟨0, rfl, Nat.zero_le _, Ext.refl _⟩
        case round =>
          obtain ⟨i, rfl, hi, hE⟩ := hrel
          by_cases hlt : i < n
          · obtain ⟨b, o, st, A', m', c', rfl, hst, hlo, hc0, hc1, hc2, hcap', hri', _⟩ := RSt.at_ (HR15.out.ext hE) hlt
            have HRI := Lib.hid hri'
            have hki : (i : Int) < (n : Int) := by omega
            have hk0 : (0 : Int) ≤ (i : Int) := by omega
            have HYr := Lib.hid (HY15.out.ext hE)
            have HPr := Lib.hid (RP.ext HP15.out.rp hE)
            have HVr := Lib.hid (RI.ext HV15.out hE)
            obtain ⟨X', Y, _, hX', hYO, hY, hle, hlt2⟩ := pw_step HSY.out HG7.out HSm.out HPk.out HST.out HOU.out HPU.out (by rw [HLU.out]; exact htn15) (HAL.out st (List.mem_of_getElem? hst)) hv8
            have hXX : X' = X := by rw [← hX', HX.out]
            subst hXX
            have HYO := Lib.hid hYO
            have HYV := Lib.hid hY
            have hbl := World.block_lt_of_cell? wr _ hc2
            have hYX : Y ≤ X' := hle HB2.out
            have hd1 : ¬ X' < Y := by omega
            have hd1' : decide (X' < Y) = false := by simpa using hd1
            have hd1'' : decide (Y > X') = false := by simpa using hYX
            clear hri' hst hc0 hc1 hX' hYO hY hle hlt2
            go_wp2_with fail
            refine wp_only (R := fun (a0 : Act) (a8 : Act) (w9 : World) => a8 = (((((((((((((((a0.put (some 80) (.pointer (some ⟨p, 0, none⟩))).put (some 81) (.agg #[.slice AS 3 cS])).put (some 82) (.slice AP 3 3)).put (some 83) (.slice (some ⟨b, o, none⟩) n lc)).put (some 84) (.int .i64 (i : Int))).put (some 85) (.pointer (some ⟨b, o + i * 3, none⟩))).put (some 86) (.pointer (some ⟨b, o + i * 3 + 2, none⟩))).put (some 87) (.slice A' m' c')).put (some 88) (.slice (some ⟨vp, 0, none⟩) 1 1)).put (some 89) (.tuple #[.int .i64 Y, .bool true])).put (some 79) (.tuple #[.int .i64 Y, .bool true])).put (some 90) (.int .i64 Y)).put (some 91) (.bool true)).put (some 14) (.int .i64 Y)).put (some 15) (.bool true)) ∧ Ext wr w9) ?_ (fun a8 w16 hR => ?_)
            · refine wp_region_held_drew (S := (fun w' => Ext wr w')) (by kernel_rfl) ((Ext.refl wr).drew) (fun hH => ?_)
              refine wpAnyH_take_dst (i := 0) (v := .pointer (some ⟨p, 0, none⟩)) (d := some 80) rfl rfl (by kernel_rfl) (by kernel_rfl) (by kernel_rfl) (fun _ _ _ h => h) (Or.inl ⟨by rfl, ?_⟩) hH ?_
              · (intro w' hE'; (try dsimp only at hE'); have y0 := Ext.keep hE' HYr.out.c0; have y1 := Ext.keep hE' hc2; go_simp; try with_reducible rfl)
              try simp only [Act.put, List.setIfInBounds_toArray, List.set_cons_zero, List.set_cons_succ]
              refine wpAnyH_take_dst (i := 1) (v := .agg #[.slice AS 3 cS]) (d := some 81) rfl rfl (by kernel_rfl) (by kernel_rfl) (by kernel_rfl) (fun _ _ _ h => h) (Or.inl ⟨by rfl, ?_⟩) hH ?_
              · (intro w' hE'; (try dsimp only at hE'); have y0 := Ext.keep hE' HYr.out.c0; have y1 := Ext.keep hE' hc2; go_simp; try with_reducible rfl)
              try simp only [Act.put, List.setIfInBounds_toArray, List.set_cons_zero, List.set_cons_succ]
              refine wpAnyH_take_dst (i := 2) (v := .slice AP 3 3) (d := some 82) rfl rfl (by kernel_rfl) (by kernel_rfl) (by kernel_rfl) (fun _ _ _ h => h) (Or.inl ⟨by rfl, ?_⟩) hH ?_
              · (intro w' hE'; (try dsimp only at hE'); have y0 := Ext.keep hE' HYr.out.c0; have y1 := Ext.keep hE' hc2; go_simp; try with_reducible rfl)
              try simp only [Act.put, List.setIfInBounds_toArray, List.set_cons_zero, List.set_cons_succ]
              refine wpAnyH_take_dst (i := 3) (v := .slice (some ⟨b, o, none⟩) n lc) (d := some 83) rfl rfl (by kernel_rfl) (by kernel_rfl) (by kernel_rfl) (fun _ _ _ h => h) (Or.inl ⟨by rfl, ?_⟩) hH ?_
              · (intro w' hE'; (try dsimp only at hE'); have y0 := Ext.keep hE' HYr.out.c0; have y1 := Ext.keep hE' hc2; go_simp; try with_reducible rfl)
              try simp only [Act.put, List.setIfInBounds_toArray, List.set_cons_zero, List.set_cons_succ]
              refine wpAnyH_take_dst (i := 4) (v := .int .i64 (i : Int)) (d := some 84) rfl rfl (by kernel_rfl) (by kernel_rfl) (by kernel_rfl) (fun _ _ _ h => h) (Or.inl ⟨by rfl, ?_⟩) hH ?_
              · (intro w' hE'; (try dsimp only at hE'); have y0 := Ext.keep hE' HYr.out.c0; have y1 := Ext.keep hE' hc2; go_simp; try with_reducible rfl)
              try simp only [Act.put, List.setIfInBounds_toArray, List.set_cons_zero, List.set_cons_succ]
              refine wpAnyH_take_dst (i := 5) (v := .pointer (some ⟨b, o + i * 3, none⟩)) (d := some 85) rfl rfl (by kernel_rfl) (by kernel_rfl) (by kernel_rfl) (fun _ _ _ h => h) (Or.inl ⟨by rfl, ?_⟩) hH ?_
              · (intro w' hE'; (try dsimp only at hE'); have y0 := Ext.keep hE' HYr.out.c0; have y1 := Ext.keep hE' hc2; go_simp; try with_reducible rfl)
              try simp only [Act.put, List.setIfInBounds_toArray, List.set_cons_zero, List.set_cons_succ]
              refine wpAnyH_take_dst (i := 6) (v := .pointer (some ⟨b, o + i * 3 + 2, none⟩)) (d := some 86) rfl rfl (by kernel_rfl) (by kernel_rfl) (by kernel_rfl) (fun _ _ _ h => h) (Or.inl ⟨by rfl, ?_⟩) hH ?_
              · (intro w' hE'; (try dsimp only at hE'); have y0 := Ext.keep hE' HYr.out.c0; have y1 := Ext.keep hE' hc2; go_simp; try with_reducible rfl)
              try simp only [Act.put, List.setIfInBounds_toArray, List.set_cons_zero, List.set_cons_succ]
              refine wpAnyH_take_dst (i := 7) (v := .slice A' m' c') (d := some 87) rfl rfl (by kernel_rfl) (by kernel_rfl) (by kernel_rfl) (fun _ _ _ h => h) (Or.inl ⟨by rfl, ?_⟩) hH ?_
              · (intro w' hE'; (try dsimp only at hE'); have y0 := Ext.keep hE' HYr.out.c0; have y1 := Ext.keep hE' hc2; go_simp; try with_reducible rfl)
              try simp only [Act.put, List.setIfInBounds_toArray, List.set_cons_zero, List.set_cons_succ]
              refine wpAnyH_take_dst (i := 8) (v := .slice (some ⟨vp, 0, none⟩) 1 1) (d := some 88) rfl rfl (by kernel_rfl) (by kernel_rfl) (by kernel_rfl) (fun _ _ _ h => h) (Or.inl ⟨by rfl, ?_⟩) hH ?_
              · (intro w' hE'; (try dsimp only at hE'); have y0 := Ext.keep hE' HYr.out.c0; have y1 := Ext.keep hE' hc2; go_simp; try with_reducible rfl)
              try simp only [Act.put, List.setIfInBounds_toArray, List.set_cons_zero, List.set_cons_succ]
              refine wpAnyH_ready (rs := [9]) (by kernel_rfl) (by simp) ?_
              refine AllReadyH.cons rfl (fun K hK => ?_) AllReadyH.nil
              rw [if_pos (by rfl)]
              go_wp2_with fail
              (with_reducible refine (c_valueB HYV.out HYO.out (HYr.out.ext hH).sig (RdPs.mk (RP.ext HPr.out hH)) (RdI.mk (RI.ext HRI.out hH)) (RdI.mk (RI.ext HVr.out hH))).mono ?_)
              rintro e w9 ⟨rfl, hE9⟩
              refine hK.out _ _ (Ext.trans hH hE9) (fun hH9 => ?_)
              clear hK; have hH0 := hH; clear hH; have hH := hH9; clear hH9
              try simp only [Act.put, List.setIfInBounds_toArray, List.set_cons_zero, List.set_cons_succ]
              refine wpAnyH_take_dst (i := 10) (v := .tuple #[.int .i64 Y, .bool true]) (d := some 79) rfl rfl (by kernel_rfl) (by kernel_rfl) (by kernel_rfl) (fun _ _ _ h => h) (Or.inl ⟨by rfl, ?_⟩) hH ?_
              · (intro w' hE'; (try dsimp only at hE'); have y0 := Ext.keep hE' HYr.out.c0; have y1 := Ext.keep hE' hc2; go_simp; try with_reducible rfl)
              try simp only [Act.put, List.setIfInBounds_toArray, List.set_cons_zero, List.set_cons_succ]
              refine wpAnyH_take_dst (i := 11) (v := .int .i64 Y) (d := some 90) rfl rfl (by kernel_rfl) (by kernel_rfl) (by kernel_rfl) (fun _ _ _ h => h) (Or.inl ⟨by rfl, ?_⟩) hH ?_
              · (intro w' hE'; (try dsimp only at hE'); have y0 := Ext.keep hE' HYr.out.c0; have y1 := Ext.keep hE' hc2; go_simp; try with_reducible rfl)
              try simp only [Act.put, List.setIfInBounds_toArray, List.set_cons_zero, List.set_cons_succ]
              refine wpAnyH_take_dst (i := 13) (v := .int .i64 Y) (d := some 14) rfl rfl (by kernel_rfl) (by kernel_rfl) (by kernel_rfl) (fun _ _ _ h => h) (Or.inl ⟨by rfl, ?_⟩) hH ?_
              · (intro w' hE'; (try dsimp only at hE'); have y0 := Ext.keep hE' HYr.out.c0; have y1 := Ext.keep hE' hc2; go_simp; try with_reducible rfl)
              try simp only [Act.put, List.setIfInBounds_toArray, List.set_cons_zero, List.set_cons_succ]
              refine wpAnyH_take_dst (i := 12) (v := .bool true) (d := some 91) rfl rfl (by kernel_rfl) (by kernel_rfl) (by kernel_rfl) (fun _ _ _ h => h) (Or.inl ⟨by rfl, ?_⟩) hH ?_
              · (intro w' hE'; (try dsimp only at hE'); have y0 := Ext.keep hE' HYr.out.c0; have y1 := Ext.keep hE' hc2; go_simp; try with_reducible rfl)
              try simp only [Act.put, List.setIfInBounds_toArray, List.set_cons_zero, List.set_cons_succ]
              refine wpAnyH_take_dst (i := 14) (v := .bool true) (d := some 15) rfl rfl (by kernel_rfl) (by kernel_rfl) (by kernel_rfl) (fun _ _ _ h => h) (Or.inl ⟨by rfl, ?_⟩) hH ?_
              · (intro w' hE'; (try dsimp only at hE'); have y0 := Ext.keep hE' HYr.out.c0; have y1 := Ext.keep hE' hc2; go_simp; try with_reducible rfl)
              try simp only [Act.put, List.setIfInBounds_toArray, List.set_cons_zero, List.set_cons_succ]
              refine wpAnyH_done (by kernel_rfl) ?_ _
              exact ⟨by rfl, hH⟩
            obtain ⟨ha, hE16⟩ := hR
            simp only [Act.put, List.setIfInBounds_toArray, List.set_cons_zero, List.set_cons_succ] at ha
            subst ha
            go_wp2_with fail
            go_roundw
            case rel => exact ⟨i + 1, by go_num, by omega, Ext.trans hE hE16⟩
            case measure => simp only [intOf]; omega
          · obtain rfl : i = n := by omega
            have HYr := Lib.hid (HY15.out.ext hE)
            have HTr := Lib.hid (RI.ext HT15.out hE)
            obtain ⟨hz1, hz2⟩ := ones_val HOU.out HPU.out (by rw [HLU.out]; exact htn15) (fun z hz => by have := HGU.out z hz; omega)
            rw [HLU.out] at hz2
            have HZ1 := Lib.hid hz1
            have HZ2 := Lib.hid hz2
            have hEe := Ext.trans hE015 hE
            clear hz1 hz2 hE HR15 HAL HY15 HP15 HT15 HV15
            go_wp2_with fail
            refine wp_only (R := fun (a0 : Act) (a8 : Act) (w9 : World) => ∃ (Z : Option Addr) (zc : Nat) (q : Nat), a8 = (((((((((((((a0.put (some 111) (.pointer (some ⟨p, 0, none⟩))).put (some 112) (.agg #[.slice AS 3 cS])).put (some 113) (.pointer (some ⟨p, 0, none⟩))).put (some 114) (.agg #[.slice AS 3 cS])).put (some 115) (.slice Z 3 zc)).put (some 116) (.slice TA tn tc)).put (some 117) (.slice (some ⟨q, 0, none⟩) 1 1)).put (some 118) (.tuple #[.int .i64 (tn : Int), .bool true])).put (some 110) (.tuple #[.int .i64 (tn : Int), .bool true])).put (some 119) (.int .i64 (tn : Int))).put (some 120) (.bool true)).put (some 16) (.int .i64 (tn : Int))).put (some 17) (.bool true)) ∧ Ext wr w9) ?_ (fun a8 w17 hR => ?_)
            · refine wp_region_held_drew (S := (fun w' => Ext wr w')) (by kernel_rfl) ((Ext.refl wr).drew) (fun hH => ?_)
              refine wpAnyH_take_dst (i := 0) (v := .pointer (some ⟨p, 0, none⟩)) (d := some 111) rfl rfl (by kernel_rfl) (by kernel_rfl) (by kernel_rfl) (fun _ _ _ h => h) (Or.inl ⟨by rfl, ?_⟩) hH ?_
              · (intro w' hE'; (try dsimp only at hE'); have y0 := Ext.keep hE' HYr.out.c0; go_simp; try with_reducible rfl)
              try simp only [Act.put, List.setIfInBounds_toArray, List.set_cons_zero, List.set_cons_succ]
              refine wpAnyH_take_dst (i := 1) (v := .agg #[.slice AS 3 cS]) (d := some 112) rfl rfl (by kernel_rfl) (by kernel_rfl) (by kernel_rfl) (fun _ _ _ h => h) (Or.inl ⟨by rfl, ?_⟩) hH ?_
              · (intro w' hE'; (try dsimp only at hE'); have y0 := Ext.keep hE' HYr.out.c0; go_simp; try with_reducible rfl)
              try simp only [Act.put, List.setIfInBounds_toArray, List.set_cons_zero, List.set_cons_succ]
              refine wpAnyH_take_dst (i := 2) (v := .pointer (some ⟨p, 0, none⟩)) (d := some 113) rfl rfl (by kernel_rfl) (by kernel_rfl) (by kernel_rfl) (fun _ _ _ h => h) (Or.inl ⟨by rfl, ?_⟩) hH ?_
              · (intro w' hE'; (try dsimp only at hE'); have y0 := Ext.keep hE' HYr.out.c0; go_simp; try with_reducible rfl)
              try simp only [Act.put, List.setIfInBounds_toArray, List.set_cons_zero, List.set_cons_succ]
              refine wpAnyH_take_dst (i := 3) (v := .agg #[.slice AS 3 cS]) (d := some 114) rfl rfl (by kernel_rfl) (by kernel_rfl) (by kernel_rfl) (fun _ _ _ h => h) (Or.inl ⟨by rfl, ?_⟩) hH ?_
              · (intro w' hE'; (try dsimp only at hE'); have y0 := Ext.keep hE' HYr.out.c0; go_simp; try with_reducible rfl)
              try simp only [Act.put, List.setIfInBounds_toArray, List.set_cons_zero, List.set_cons_succ]
              refine wpAnyH_take_dst (i := 5) (v := .slice TA tn tc) (d := some 116) rfl rfl (by kernel_rfl) (by kernel_rfl) (by kernel_rfl) (fun _ _ _ h => h) (Or.inl ⟨by rfl, ?_⟩) hH ?_
              · (intro w' hE'; (try dsimp only at hE'); have y0 := Ext.keep hE' HYr.out.c0; go_simp; try with_reducible rfl)
              try simp only [Act.put, List.setIfInBounds_toArray, List.set_cons_zero, List.set_cons_succ]
              refine wpAnyH_ready (rs := [4, 6]) (by kernel_rfl) (by simp) ?_
              refine AllReadyH.cons rfl (fun K hK => ?_) (AllReadyH.cons rfl (fun K hK => ?_) (AllReadyH.nil))
              · rw [if_pos (by rfl)]
                go_wp2_with fail
                (with_reducible refine (c_sizeB (HYr.out.ext hH).sig).mono ?_)
                rintro e w9 ⟨Z, zc, rfl, hz, hE9⟩
                refine hK.out _ _ (Ext.trans hH hE9) (fun hH9 => ?_)
                clear hK; have hH0 := hH; clear hH; have hH := hH9; clear hH9
                try simp only [Act.put, List.setIfInBounds_toArray, List.set_cons_zero, List.set_cons_succ]
                refine wpAnyH_ready (rs := [6]) (by kernel_rfl) (by simp) ?_
                refine AllReadyH.cons rfl (fun K hK => ?_) AllReadyH.nil
                rw [if_pos (by rfl)]
                go_wp2_with fail; have hF6 := one_of hH
                refine hK.out _ _ (hH.alloc _) (fun hH9 => ?_)
                clear hK; have hH0 := hH; clear hH; have hH := hH9; clear hH9
                try simp only [Act.put, List.setIfInBounds_toArray, List.set_cons_zero, List.set_cons_succ]
                refine wpAnyH_ready (rs := [7]) (by kernel_rfl) (by simp) ?_
                refine AllReadyH.cons rfl (fun K hK => ?_) AllReadyH.nil
                rw [if_pos (by rfl)]
                go_wp2_with fail
                (with_reducible refine (c_valueB HZ2.out HZ1.out (HYr.out.ext hH).sig (RdPs.mk (A := Z) (n := 3) (c := zc) (by first | exact hz | exact RP.ext hz ((Ext.refl _).alloc _))) (RdI.mk (RI.ext HTr.out hH)) (RdI.mk (by first | exact hR6 | exact hF6 _ (by go_size)))).mono ?_)
                rintro e w9 ⟨rfl, hE9⟩
                refine hK.out _ _ (Ext.trans hH hE9) (fun hH9 => ?_)
                clear hK; have hH0 := hH; clear hH; have hH := hH9; clear hH9
                try simp only [Act.put, List.setIfInBounds_toArray, List.set_cons_zero, List.set_cons_succ]
                refine wpAnyH_take_dst (i := 8) (v := .tuple #[.int .i64 (tn : Int), .bool true]) (d := some 110) rfl rfl (by kernel_rfl) (by kernel_rfl) (by kernel_rfl) (fun _ _ _ h => h) (Or.inl ⟨by rfl, ?_⟩) hH ?_
                · (intro w' hE'; (try dsimp only at hE'); have y0 := Ext.keep hE' HYr.out.c0; go_simp; try with_reducible rfl)
                try simp only [Act.put, List.setIfInBounds_toArray, List.set_cons_zero, List.set_cons_succ]
                refine wpAnyH_take_dst (i := 9) (v := .int .i64 (tn : Int)) (d := some 119) rfl rfl (by kernel_rfl) (by kernel_rfl) (by kernel_rfl) (fun _ _ _ h => h) (Or.inl ⟨by rfl, ?_⟩) hH ?_
                · (intro w' hE'; (try dsimp only at hE'); have y0 := Ext.keep hE' HYr.out.c0; go_simp; try with_reducible rfl)
                try simp only [Act.put, List.setIfInBounds_toArray, List.set_cons_zero, List.set_cons_succ]
                refine wpAnyH_take_dst (i := 11) (v := .int .i64 (tn : Int)) (d := some 16) rfl rfl (by kernel_rfl) (by kernel_rfl) (by kernel_rfl) (fun _ _ _ h => h) (Or.inl ⟨by rfl, ?_⟩) hH ?_
                · (intro w' hE'; (try dsimp only at hE'); have y0 := Ext.keep hE' HYr.out.c0; go_simp; try with_reducible rfl)
                try simp only [Act.put, List.setIfInBounds_toArray, List.set_cons_zero, List.set_cons_succ]
                refine wpAnyH_take_dst (i := 10) (v := .bool true) (d := some 120) rfl rfl (by kernel_rfl) (by kernel_rfl) (by kernel_rfl) (fun _ _ _ h => h) (Or.inl ⟨by rfl, ?_⟩) hH ?_
                · (intro w' hE'; (try dsimp only at hE'); have y0 := Ext.keep hE' HYr.out.c0; go_simp; try with_reducible rfl)
                try simp only [Act.put, List.setIfInBounds_toArray, List.set_cons_zero, List.set_cons_succ]
                refine wpAnyH_take_dst (i := 12) (v := .bool true) (d := some 17) rfl rfl (by kernel_rfl) (by kernel_rfl) (by kernel_rfl) (fun _ _ _ h => h) (Or.inl ⟨by rfl, ?_⟩) hH ?_
                · (intro w' hE'; (try dsimp only at hE'); have y0 := Ext.keep hE' HYr.out.c0; go_simp; try with_reducible rfl)
                try simp only [Act.put, List.setIfInBounds_toArray, List.set_cons_zero, List.set_cons_succ]
                refine wpAnyH_done (by kernel_rfl) ?_ _
                exact ⟨Z, zc, _, by rfl, hH⟩
              · rw [if_pos (by rfl)]
                go_wp2_with fail; have hF6 := one_of hH
                refine hK.out _ _ (hH.alloc _) (fun hH9 => ?_)
                clear hK; have hH0 := hH; clear hH; have hH := hH9; clear hH9
                try simp only [Act.put, List.setIfInBounds_toArray, List.set_cons_zero, List.set_cons_succ]
                refine wpAnyH_ready (rs := [4]) (by kernel_rfl) (by simp) ?_
                refine AllReadyH.cons rfl (fun K hK => ?_) AllReadyH.nil
                rw [if_pos (by rfl)]
                go_wp2_with fail; (with_reducible refine (c_sizeB (HYr.out.ext hH).sig).mono ?_); rintro e w9 ⟨Z, zc, rfl, hz, hE9⟩; have hR6 : RI w9 (some ⟨wr.heap.size, 0, none⟩) 1 [1] := RI.ext (hF6 wr.heap.size (by simp [go_sem])) hE9
                refine hK.out _ _ (Ext.trans hH hE9) (fun hH9 => ?_)
                clear hK; have hH0 := hH; clear hH; have hH := hH9; clear hH9
                try simp only [Act.put, List.setIfInBounds_toArray, List.set_cons_zero, List.set_cons_succ]
                refine wpAnyH_ready (rs := [7]) (by kernel_rfl) (by simp) ?_
                refine AllReadyH.cons rfl (fun K hK => ?_) AllReadyH.nil
                rw [if_pos (by rfl)]
                go_wp2_with fail
                (with_reducible refine (c_valueB HZ2.out HZ1.out (HYr.out.ext hH).sig (RdPs.mk (A := Z) (n := 3) (c := zc) (by first | exact hz | exact RP.ext hz ((Ext.refl _).alloc _))) (RdI.mk (RI.ext HTr.out hH)) (RdI.mk (by first | exact hR6 | exact hF6 _ (by go_size)))).mono ?_)
                rintro e w9 ⟨rfl, hE9⟩
                refine hK.out _ _ (Ext.trans hH hE9) (fun hH9 => ?_)
                clear hK; have hH0 := hH; clear hH; have hH := hH9; clear hH9
                try simp only [Act.put, List.setIfInBounds_toArray, List.set_cons_zero, List.set_cons_succ]
                refine wpAnyH_take_dst (i := 8) (v := .tuple #[.int .i64 (tn : Int), .bool true]) (d := some 110) rfl rfl (by kernel_rfl) (by kernel_rfl) (by kernel_rfl) (fun _ _ _ h => h) (Or.inl ⟨by rfl, ?_⟩) hH ?_
                · (intro w' hE'; (try dsimp only at hE'); have y0 := Ext.keep hE' HYr.out.c0; go_simp; try with_reducible rfl)
                try simp only [Act.put, List.setIfInBounds_toArray, List.set_cons_zero, List.set_cons_succ]
                refine wpAnyH_take_dst (i := 9) (v := .int .i64 (tn : Int)) (d := some 119) rfl rfl (by kernel_rfl) (by kernel_rfl) (by kernel_rfl) (fun _ _ _ h => h) (Or.inl ⟨by rfl, ?_⟩) hH ?_
                · (intro w' hE'; (try dsimp only at hE'); have y0 := Ext.keep hE' HYr.out.c0; go_simp; try with_reducible rfl)
                try simp only [Act.put, List.setIfInBounds_toArray, List.set_cons_zero, List.set_cons_succ]
                refine wpAnyH_take_dst (i := 11) (v := .int .i64 (tn : Int)) (d := some 16) rfl rfl (by kernel_rfl) (by kernel_rfl) (by kernel_rfl) (fun _ _ _ h => h) (Or.inl ⟨by rfl, ?_⟩) hH ?_
                · (intro w' hE'; (try dsimp only at hE'); have y0 := Ext.keep hE' HYr.out.c0; go_simp; try with_reducible rfl)
                try simp only [Act.put, List.setIfInBounds_toArray, List.set_cons_zero, List.set_cons_succ]
                refine wpAnyH_take_dst (i := 10) (v := .bool true) (d := some 120) rfl rfl (by kernel_rfl) (by kernel_rfl) (by kernel_rfl) (fun _ _ _ h => h) (Or.inl ⟨by rfl, ?_⟩) hH ?_
                · (intro w' hE'; (try dsimp only at hE'); have y0 := Ext.keep hE' HYr.out.c0; go_simp; try with_reducible rfl)
                try simp only [Act.put, List.setIfInBounds_toArray, List.set_cons_zero, List.set_cons_succ]
                refine wpAnyH_take_dst (i := 12) (v := .bool true) (d := some 17) rfl rfl (by kernel_rfl) (by kernel_rfl) (by kernel_rfl) (fun _ _ _ h => h) (Or.inl ⟨by rfl, ?_⟩) hH ?_
                · (intro w' hE'; (try dsimp only at hE'); have y0 := Ext.keep hE' HYr.out.c0; go_simp; try with_reducible rfl)
                try simp only [Act.put, List.setIfInBounds_toArray, List.set_cons_zero, List.set_cons_succ]
                refine wpAnyH_done (by kernel_rfl) ?_ _
                exact ⟨Z, zc, _, by rfl, hH⟩
            obtain ⟨Z, zc, q, ha, hE17⟩ := hR
            simp only [Act.put, List.setIfInBounds_toArray, List.set_cons_zero, List.set_cons_succ] at ha
            subst ha
            go_wp2_with fail
            go_ret
            exact ⟨ret_bool (by simp), Ext.trans hEe hE17⟩
      | false =>
        go_wp2_with fail
        (with_reducible refine (c_sOrB HB1.out HY8.out.rd (RdPs.mk HP8.out.rp)).mono ?_)
        rintro e w9 ⟨rfl, hE9a⟩
        have HY9 := Lib.hid (HY8.out.ext hE9a)
        have HP9 := Lib.hid (HP8.out.ext hE9a)
        have HD9 := Lib.hid (HD8.out.ext hE9a)
        have u0 := HY9.out.c0
        have u1 := HY9.out.c1
        clear t0 t1 HY8 HP8 HD8
        go_wp2_with fail
        (with_reducible refine (c_sAlB HB2.out HY9.out.rd (RdPs.mk HP9.out.rp)).mono ?_)
        rintro e w10 ⟨rfl, hE10⟩
        have HY10 := Lib.hid (HY9.out.ext hE10)
        have HP10 := Lib.hid (HP9.out.ext hE10)
        have HD10 := Lib.hid (HD9.out.ext hE10)
        have hE010 : Ext w w10 := Ext.trans hE08 (Ext.trans hE9a hE10)
        have hg10 := HD10.out.lt
        clear u0 u1 HY9 HP9 HD9
        go_wp2_with fail
        (with_reducible refine (c_w9Term (g := g) (vars := 1) (by omega) (by omega) 3 (by omega) 4 (by omega) HD10.out).mono ?_)
        rintro e w11 ⟨TA, tn, tc, u, rfl, hO11, oku, gu, hn11, hD11, hOn11⟩
        have hcapT := hO11.cap
        have HT11 := Lib.hid (RIg.of hO11 hg10)
        have HOU := Lib.hid (show u.Ok arD from oku)
        have HLU := Lib.hid hO11.len
        have HGU := Lib.hid gu
        have htn15 : tn ≤ 15 := hn11
        have HPU := Lib.hid (show TermP arD u.flat from tm3 (d := 3) (vars := 1) (by omega) (by omega) oku (by rw [hO11.len]; exact hn11) gu)
        have HY11 := Lib.hid (HY10.out.only hOn11 hgl)
        have HP11 := Lib.hid (HP10.out.only hOn11)
        have HD11 := Lib.hid hD11
        have hE011 : Ext w w11 := hOn11.ext hE010 hgw
        clear hO11 oku gu hn11 hD11 hOn11 HY10 HP10 HD10
        go_wp2_with fail
        (with_reducible refine (c_below HD11.out (by omega) (by omega)).mono ?_)
        rintro e w12 ⟨v, rfl, hvb, hD12, hO12⟩
        have HY12 := Lib.hid (HY11.out.only hO12 hgl)
        have HP12 := Lib.hid (HP11.out.only hO12)
        have HT12 := Lib.hid (HT11.out.only hO12)
        have hE012 : Ext w w12 := hO12.ext hE011 hgw
        obtain ⟨w13, hw13⟩ : ∃ w13, w13 = w12.alloc (.cells #[.int .i64 v] 2) := ⟨_, rfl⟩
        have hE123 : Ext w12 w13 := by rw [hw13]; exact extX
        have HV13 := Lib.hid (show RI w13 (some ⟨w12.heap.size, 0, none⟩) 1 [v] from by rw [hw13]; exact (OwI.fresh (w := w12) [v] (by simp)).ri)
        have HY13 := Lib.hid (HY12.out.ext hE123)
        have HP13 := Lib.hid (HP12.out.ext hE123)
        have HT13 := Lib.hid (RI.ext HT12.out.1 hE123)
        have hE013 := Ext.trans hE012 hE123
        have t0 := HY12.out.c0
        have hpl := World.block_lt_of_cell? w12 _ t0
        have hv8 : 0 ≤ v ∧ v ≤ 8 := by omega
        obtain ⟨X, hX⟩ : ∃ X, valAt arD ps u.flat [v] = X := ⟨_, rfl⟩
        have HX := Lib.hid hX
        have HXO := Lib.hid (pw_self HSm.out HPk.out HOU.out HPU.out (by rw [HLU.out]; exact htn15) hv8)
        clear hD12 hO12 HY11 HP11 HD11 HT11 hX
        go_wp2_with fail
        rw [← hw13]
        clear hw13
        obtain ⟨vp, hvp⟩ : ∃ vp, vp = w12.heap.size := ⟨_, rfl⟩
        rw [← hvp] at HV13 ⊢
        clear hvp t0 hpl HY12 HP12 HT12
        have t0 := HY13.out.c0
        (with_reducible refine (c_sValB HX.out HXO.out HY13.out.sig (RdPs.mk HP13.out.rp) (RdIc.mk hcapT HT13.out) (RdIc.mk (by omega) HV13.out)).mono ?_)
        rintro e w14 ⟨rfl, hE14⟩
        have HY14 := Lib.hid (HY13.out.ext hE14)
        have HP14 := Lib.hid (HP13.out.ext hE14)
        have HT14 := Lib.hid (RI.ext HT13.out hE14)
        have HV14 := Lib.hid (RI.ext HV13.out hE14)
        have hE014 := Ext.trans hE013 hE14
        have t1 := HY14.out.c0
        have t2 := HY14.out.c1
        clear t0 HY13 HP13 HT13 HV13
        go_wp2_with fail
        (with_reducible refine (c_StepsFrom HY14.out.rd HSY.out HT14.out hcapT HPU.out).mono ?_)
        rintro e w15 ⟨LA, n, lc, sts, rfl, hR15, hn15, hall15, hE15⟩
        have HR15 := Lib.hid hR15
        have HAL := Lib.hid hall15
        have HY15 := Lib.hid (HY14.out.ext hE15)
        have HP15 := Lib.hid (HP14.out.ext hE15)
        have HT15 := Lib.hid (RI.ext HT14.out hE15)
        have HV15 := Lib.hid (RI.ext HV14.out hE15)
        have hE015 := Ext.trans hE014 hE15
        clear hR15 hall15 t1 t2 HY14 HP14 HT14 HV14
        go_wp2_with fail
        go_loopw [13] (fun iv wr => ∃ i : Nat, iv = .int .i64 i ∧ i ≤ n ∧ Ext w15 wr) (fun iv _ => n - (intOf iv).toNat)
        case atStart => exact ⟨0, rfl, Nat.zero_le _, Ext.refl _⟩
        case round =>
          obtain ⟨i, rfl, hi, hE⟩ := hrel
          by_cases hlt : i < n
          · obtain ⟨b, o, st, A', m', c', rfl, hst, hlo, hc0, hc1, hc2, hcap', hri', _⟩ := RSt.at_ (HR15.out.ext hE) hlt
            have HRI := Lib.hid hri'
            have hki : (i : Int) < (n : Int) := by omega
            have hk0 : (0 : Int) ≤ (i : Int) := by omega
            have HYr := Lib.hid (HY15.out.ext hE)
            have HPr := Lib.hid (RP.ext HP15.out.rp hE)
            have HVr := Lib.hid (RI.ext HV15.out hE)
            obtain ⟨X', Y, _, hX', hYO, hY, hle, hlt2⟩ := pw_step HSY.out HG7.out HSm.out HPk.out HST.out HOU.out HPU.out (by rw [HLU.out]; exact htn15) (HAL.out st (List.mem_of_getElem? hst)) hv8
            have hXX : X' = X := by rw [← hX', HX.out]
            subst hXX
            have HYO := Lib.hid hYO
            have HYV := Lib.hid hY
            have hbl := World.block_lt_of_cell? wr _ hc2
            clear hri' hst hc0 hc1 hX' hYO hY hle hlt2
            go_wp2_with fail
            refine wp_only (R := fun (a0 : Act) (a8 : Act) (w9 : World) => a8 = (((((((((((((((a0.put (some 80) (.pointer (some ⟨p, 0, none⟩))).put (some 81) (.agg #[.slice AS 3 cS])).put (some 82) (.slice AP 3 3)).put (some 83) (.slice (some ⟨b, o, none⟩) n lc)).put (some 84) (.int .i64 (i : Int))).put (some 85) (.pointer (some ⟨b, o + i * 3, none⟩))).put (some 86) (.pointer (some ⟨b, o + i * 3 + 2, none⟩))).put (some 87) (.slice A' m' c')).put (some 88) (.slice (some ⟨vp, 0, none⟩) 1 1)).put (some 89) (.tuple #[.int .i64 Y, .bool true])).put (some 79) (.tuple #[.int .i64 Y, .bool true])).put (some 90) (.int .i64 Y)).put (some 91) (.bool true)).put (some 14) (.int .i64 Y)).put (some 15) (.bool true)) ∧ Ext wr w9) ?_ (fun a8 w16 hR => ?_)
            · refine wp_region_held_drew (S := (fun w' => Ext wr w')) (by kernel_rfl) ((Ext.refl wr).drew) (fun hH => ?_)
              refine wpAnyH_take_dst (i := 0) (v := .pointer (some ⟨p, 0, none⟩)) (d := some 80) rfl rfl (by kernel_rfl) (by kernel_rfl) (by kernel_rfl) (fun _ _ _ h => h) (Or.inl ⟨by rfl, ?_⟩) hH ?_
              · (intro w' hE'; (try dsimp only at hE'); have y0 := Ext.keep hE' HYr.out.c0; have y1 := Ext.keep hE' hc2; go_simp; try with_reducible rfl)
              try simp only [Act.put, List.setIfInBounds_toArray, List.set_cons_zero, List.set_cons_succ]
              refine wpAnyH_take_dst (i := 1) (v := .agg #[.slice AS 3 cS]) (d := some 81) rfl rfl (by kernel_rfl) (by kernel_rfl) (by kernel_rfl) (fun _ _ _ h => h) (Or.inl ⟨by rfl, ?_⟩) hH ?_
              · (intro w' hE'; (try dsimp only at hE'); have y0 := Ext.keep hE' HYr.out.c0; have y1 := Ext.keep hE' hc2; go_simp; try with_reducible rfl)
              try simp only [Act.put, List.setIfInBounds_toArray, List.set_cons_zero, List.set_cons_succ]
              refine wpAnyH_take_dst (i := 2) (v := .slice AP 3 3) (d := some 82) rfl rfl (by kernel_rfl) (by kernel_rfl) (by kernel_rfl) (fun _ _ _ h => h) (Or.inl ⟨by rfl, ?_⟩) hH ?_
              · (intro w' hE'; (try dsimp only at hE'); have y0 := Ext.keep hE' HYr.out.c0; have y1 := Ext.keep hE' hc2; go_simp; try with_reducible rfl)
              try simp only [Act.put, List.setIfInBounds_toArray, List.set_cons_zero, List.set_cons_succ]
              refine wpAnyH_take_dst (i := 3) (v := .slice (some ⟨b, o, none⟩) n lc) (d := some 83) rfl rfl (by kernel_rfl) (by kernel_rfl) (by kernel_rfl) (fun _ _ _ h => h) (Or.inl ⟨by rfl, ?_⟩) hH ?_
              · (intro w' hE'; (try dsimp only at hE'); have y0 := Ext.keep hE' HYr.out.c0; have y1 := Ext.keep hE' hc2; go_simp; try with_reducible rfl)
              try simp only [Act.put, List.setIfInBounds_toArray, List.set_cons_zero, List.set_cons_succ]
              refine wpAnyH_take_dst (i := 4) (v := .int .i64 (i : Int)) (d := some 84) rfl rfl (by kernel_rfl) (by kernel_rfl) (by kernel_rfl) (fun _ _ _ h => h) (Or.inl ⟨by rfl, ?_⟩) hH ?_
              · (intro w' hE'; (try dsimp only at hE'); have y0 := Ext.keep hE' HYr.out.c0; have y1 := Ext.keep hE' hc2; go_simp; try with_reducible rfl)
              try simp only [Act.put, List.setIfInBounds_toArray, List.set_cons_zero, List.set_cons_succ]
              refine wpAnyH_take_dst (i := 5) (v := .pointer (some ⟨b, o + i * 3, none⟩)) (d := some 85) rfl rfl (by kernel_rfl) (by kernel_rfl) (by kernel_rfl) (fun _ _ _ h => h) (Or.inl ⟨by rfl, ?_⟩) hH ?_
              · (intro w' hE'; (try dsimp only at hE'); have y0 := Ext.keep hE' HYr.out.c0; have y1 := Ext.keep hE' hc2; go_simp; try with_reducible rfl)
              try simp only [Act.put, List.setIfInBounds_toArray, List.set_cons_zero, List.set_cons_succ]
              refine wpAnyH_take_dst (i := 6) (v := .pointer (some ⟨b, o + i * 3 + 2, none⟩)) (d := some 86) rfl rfl (by kernel_rfl) (by kernel_rfl) (by kernel_rfl) (fun _ _ _ h => h) (Or.inl ⟨by rfl, ?_⟩) hH ?_
              · (intro w' hE'; (try dsimp only at hE'); have y0 := Ext.keep hE' HYr.out.c0; have y1 := Ext.keep hE' hc2; go_simp; try with_reducible rfl)
              try simp only [Act.put, List.setIfInBounds_toArray, List.set_cons_zero, List.set_cons_succ]
              refine wpAnyH_take_dst (i := 7) (v := .slice A' m' c') (d := some 87) rfl rfl (by kernel_rfl) (by kernel_rfl) (by kernel_rfl) (fun _ _ _ h => h) (Or.inl ⟨by rfl, ?_⟩) hH ?_
              · (intro w' hE'; (try dsimp only at hE'); have y0 := Ext.keep hE' HYr.out.c0; have y1 := Ext.keep hE' hc2; go_simp; try with_reducible rfl)
              try simp only [Act.put, List.setIfInBounds_toArray, List.set_cons_zero, List.set_cons_succ]
              refine wpAnyH_take_dst (i := 8) (v := .slice (some ⟨vp, 0, none⟩) 1 1) (d := some 88) rfl rfl (by kernel_rfl) (by kernel_rfl) (by kernel_rfl) (fun _ _ _ h => h) (Or.inl ⟨by rfl, ?_⟩) hH ?_
              · (intro w' hE'; (try dsimp only at hE'); have y0 := Ext.keep hE' HYr.out.c0; have y1 := Ext.keep hE' hc2; go_simp; try with_reducible rfl)
              try simp only [Act.put, List.setIfInBounds_toArray, List.set_cons_zero, List.set_cons_succ]
              refine wpAnyH_ready (rs := [9]) (by kernel_rfl) (by simp) ?_
              refine AllReadyH.cons rfl (fun K hK => ?_) AllReadyH.nil
              rw [if_pos (by rfl)]
              go_wp2_with fail
              (with_reducible refine (c_valueB HYV.out HYO.out (HYr.out.ext hH).sig (RdPs.mk (RP.ext HPr.out hH)) (RdI.mk (RI.ext HRI.out hH)) (RdI.mk (RI.ext HVr.out hH))).mono ?_)
              rintro e w9 ⟨rfl, hE9⟩
              refine hK.out _ _ (Ext.trans hH hE9) (fun hH9 => ?_)
              clear hK; have hH0 := hH; clear hH; have hH := hH9; clear hH9
              try simp only [Act.put, List.setIfInBounds_toArray, List.set_cons_zero, List.set_cons_succ]
              refine wpAnyH_take_dst (i := 10) (v := .tuple #[.int .i64 Y, .bool true]) (d := some 79) rfl rfl (by kernel_rfl) (by kernel_rfl) (by kernel_rfl) (fun _ _ _ h => h) (Or.inl ⟨by rfl, ?_⟩) hH ?_
              · (intro w' hE'; (try dsimp only at hE'); have y0 := Ext.keep hE' HYr.out.c0; have y1 := Ext.keep hE' hc2; go_simp; try with_reducible rfl)
              try simp only [Act.put, List.setIfInBounds_toArray, List.set_cons_zero, List.set_cons_succ]
              refine wpAnyH_take_dst (i := 11) (v := .int .i64 Y) (d := some 90) rfl rfl (by kernel_rfl) (by kernel_rfl) (by kernel_rfl) (fun _ _ _ h => h) (Or.inl ⟨by rfl, ?_⟩) hH ?_
              · (intro w' hE'; (try dsimp only at hE'); have y0 := Ext.keep hE' HYr.out.c0; have y1 := Ext.keep hE' hc2; go_simp; try with_reducible rfl)
              try simp only [Act.put, List.setIfInBounds_toArray, List.set_cons_zero, List.set_cons_succ]
              refine wpAnyH_take_dst (i := 13) (v := .int .i64 Y) (d := some 14) rfl rfl (by kernel_rfl) (by kernel_rfl) (by kernel_rfl) (fun _ _ _ h => h) (Or.inl ⟨by rfl, ?_⟩) hH ?_
              · (intro w' hE'; (try dsimp only at hE'); have y0 := Ext.keep hE' HYr.out.c0; have y1 := Ext.keep hE' hc2; go_simp; try with_reducible rfl)
              try simp only [Act.put, List.setIfInBounds_toArray, List.set_cons_zero, List.set_cons_succ]
              refine wpAnyH_take_dst (i := 12) (v := .bool true) (d := some 91) rfl rfl (by kernel_rfl) (by kernel_rfl) (by kernel_rfl) (fun _ _ _ h => h) (Or.inl ⟨by rfl, ?_⟩) hH ?_
              · (intro w' hE'; (try dsimp only at hE'); have y0 := Ext.keep hE' HYr.out.c0; have y1 := Ext.keep hE' hc2; go_simp; try with_reducible rfl)
              try simp only [Act.put, List.setIfInBounds_toArray, List.set_cons_zero, List.set_cons_succ]
              refine wpAnyH_take_dst (i := 14) (v := .bool true) (d := some 15) rfl rfl (by kernel_rfl) (by kernel_rfl) (by kernel_rfl) (fun _ _ _ h => h) (Or.inl ⟨by rfl, ?_⟩) hH ?_
              · (intro w' hE'; (try dsimp only at hE'); have y0 := Ext.keep hE' HYr.out.c0; have y1 := Ext.keep hE' hc2; go_simp; try with_reducible rfl)
              try simp only [Act.put, List.setIfInBounds_toArray, List.set_cons_zero, List.set_cons_succ]
              refine wpAnyH_done (by kernel_rfl) ?_ _
              exact ⟨by rfl, hH⟩
            obtain ⟨ha, hE16⟩ := hR
            simp only [Act.put, List.setIfInBounds_toArray, List.set_cons_zero, List.set_cons_succ] at ha
            subst ha
            go_wp2_with fail
            go_roundw
            case rel => exact ⟨i + 1, by go_num, by omega, Ext.trans hE hE16⟩
            case measure => simp only [intOf]; omega
          · obtain rfl : i = n := by omega
            have HYr := Lib.hid (HY15.out.ext hE)
            have HTr := Lib.hid (RI.ext HT15.out hE)
            obtain ⟨hz1, hz2⟩ := ones_val HOU.out HPU.out (by rw [HLU.out]; exact htn15) (fun z hz => by have := HGU.out z hz; omega)
            rw [HLU.out] at hz2
            have HZ1 := Lib.hid hz1
            have HZ2 := Lib.hid hz2
            have hEe := Ext.trans hE015 hE
            clear hz1 hz2 hE HR15 HAL HY15 HP15 HT15 HV15
            go_wp2_with fail
            refine wp_only (R := fun (a0 : Act) (a8 : Act) (w9 : World) => ∃ (Z : Option Addr) (zc : Nat) (q : Nat), a8 = (((((((((((((a0.put (some 111) (.pointer (some ⟨p, 0, none⟩))).put (some 112) (.agg #[.slice AS 3 cS])).put (some 113) (.pointer (some ⟨p, 0, none⟩))).put (some 114) (.agg #[.slice AS 3 cS])).put (some 115) (.slice Z 3 zc)).put (some 116) (.slice TA tn tc)).put (some 117) (.slice (some ⟨q, 0, none⟩) 1 1)).put (some 118) (.tuple #[.int .i64 (tn : Int), .bool true])).put (some 110) (.tuple #[.int .i64 (tn : Int), .bool true])).put (some 119) (.int .i64 (tn : Int))).put (some 120) (.bool true)).put (some 16) (.int .i64 (tn : Int))).put (some 17) (.bool true)) ∧ Ext wr w9) ?_ (fun a8 w17 hR => ?_)
            · refine wp_region_held_drew (S := (fun w' => Ext wr w')) (by kernel_rfl) ((Ext.refl wr).drew) (fun hH => ?_)
              refine wpAnyH_take_dst (i := 0) (v := .pointer (some ⟨p, 0, none⟩)) (d := some 111) rfl rfl (by kernel_rfl) (by kernel_rfl) (by kernel_rfl) (fun _ _ _ h => h) (Or.inl ⟨by rfl, ?_⟩) hH ?_
              · (intro w' hE'; (try dsimp only at hE'); have y0 := Ext.keep hE' HYr.out.c0; go_simp; try with_reducible rfl)
              try simp only [Act.put, List.setIfInBounds_toArray, List.set_cons_zero, List.set_cons_succ]
              refine wpAnyH_take_dst (i := 1) (v := .agg #[.slice AS 3 cS]) (d := some 112) rfl rfl (by kernel_rfl) (by kernel_rfl) (by kernel_rfl) (fun _ _ _ h => h) (Or.inl ⟨by rfl, ?_⟩) hH ?_
              · (intro w' hE'; (try dsimp only at hE'); have y0 := Ext.keep hE' HYr.out.c0; go_simp; try with_reducible rfl)
              try simp only [Act.put, List.setIfInBounds_toArray, List.set_cons_zero, List.set_cons_succ]
              refine wpAnyH_take_dst (i := 2) (v := .pointer (some ⟨p, 0, none⟩)) (d := some 113) rfl rfl (by kernel_rfl) (by kernel_rfl) (by kernel_rfl) (fun _ _ _ h => h) (Or.inl ⟨by rfl, ?_⟩) hH ?_
              · (intro w' hE'; (try dsimp only at hE'); have y0 := Ext.keep hE' HYr.out.c0; go_simp; try with_reducible rfl)
              try simp only [Act.put, List.setIfInBounds_toArray, List.set_cons_zero, List.set_cons_succ]
              refine wpAnyH_take_dst (i := 3) (v := .agg #[.slice AS 3 cS]) (d := some 114) rfl rfl (by kernel_rfl) (by kernel_rfl) (by kernel_rfl) (fun _ _ _ h => h) (Or.inl ⟨by rfl, ?_⟩) hH ?_
              · (intro w' hE'; (try dsimp only at hE'); have y0 := Ext.keep hE' HYr.out.c0; go_simp; try with_reducible rfl)
              try simp only [Act.put, List.setIfInBounds_toArray, List.set_cons_zero, List.set_cons_succ]
              refine wpAnyH_take_dst (i := 5) (v := .slice TA tn tc) (d := some 116) rfl rfl (by kernel_rfl) (by kernel_rfl) (by kernel_rfl) (fun _ _ _ h => h) (Or.inl ⟨by rfl, ?_⟩) hH ?_
              · (intro w' hE'; (try dsimp only at hE'); have y0 := Ext.keep hE' HYr.out.c0; go_simp; try with_reducible rfl)
              try simp only [Act.put, List.setIfInBounds_toArray, List.set_cons_zero, List.set_cons_succ]
              refine wpAnyH_ready (rs := [4, 6]) (by kernel_rfl) (by simp) ?_
              refine AllReadyH.cons rfl (fun K hK => ?_) (AllReadyH.cons rfl (fun K hK => ?_) (AllReadyH.nil))
              · rw [if_pos (by rfl)]
                go_wp2_with fail
                (with_reducible refine (c_sizeB (HYr.out.ext hH).sig).mono ?_)
                rintro e w9 ⟨Z, zc, rfl, hz, hE9⟩
                refine hK.out _ _ (Ext.trans hH hE9) (fun hH9 => ?_)
                clear hK; have hH0 := hH; clear hH; have hH := hH9; clear hH9
                try simp only [Act.put, List.setIfInBounds_toArray, List.set_cons_zero, List.set_cons_succ]
                refine wpAnyH_ready (rs := [6]) (by kernel_rfl) (by simp) ?_
                refine AllReadyH.cons rfl (fun K hK => ?_) AllReadyH.nil
                rw [if_pos (by rfl)]
                go_wp2_with fail; have hF6 := one_of hH
                refine hK.out _ _ (hH.alloc _) (fun hH9 => ?_)
                clear hK; have hH0 := hH; clear hH; have hH := hH9; clear hH9
                try simp only [Act.put, List.setIfInBounds_toArray, List.set_cons_zero, List.set_cons_succ]
                refine wpAnyH_ready (rs := [7]) (by kernel_rfl) (by simp) ?_
                refine AllReadyH.cons rfl (fun K hK => ?_) AllReadyH.nil
                rw [if_pos (by rfl)]
                go_wp2_with fail
                (with_reducible refine (c_valueB HZ2.out HZ1.out (HYr.out.ext hH).sig (RdPs.mk (A := Z) (n := 3) (c := zc) (by first | exact hz | exact RP.ext hz ((Ext.refl _).alloc _))) (RdI.mk (RI.ext HTr.out hH)) (RdI.mk (by first | exact hR6 | exact hF6 _ (by go_size)))).mono ?_)
                rintro e w9 ⟨rfl, hE9⟩
                refine hK.out _ _ (Ext.trans hH hE9) (fun hH9 => ?_)
                clear hK; have hH0 := hH; clear hH; have hH := hH9; clear hH9
                try simp only [Act.put, List.setIfInBounds_toArray, List.set_cons_zero, List.set_cons_succ]
                refine wpAnyH_take_dst (i := 8) (v := .tuple #[.int .i64 (tn : Int), .bool true]) (d := some 110) rfl rfl (by kernel_rfl) (by kernel_rfl) (by kernel_rfl) (fun _ _ _ h => h) (Or.inl ⟨by rfl, ?_⟩) hH ?_
                · (intro w' hE'; (try dsimp only at hE'); have y0 := Ext.keep hE' HYr.out.c0; go_simp; try with_reducible rfl)
                try simp only [Act.put, List.setIfInBounds_toArray, List.set_cons_zero, List.set_cons_succ]
                refine wpAnyH_take_dst (i := 9) (v := .int .i64 (tn : Int)) (d := some 119) rfl rfl (by kernel_rfl) (by kernel_rfl) (by kernel_rfl) (fun _ _ _ h => h) (Or.inl ⟨by rfl, ?_⟩) hH ?_
                · (intro w' hE'; (try dsimp only at hE'); have y0 := Ext.keep hE' HYr.out.c0; go_simp; try with_reducible rfl)
                try simp only [Act.put, List.setIfInBounds_toArray, List.set_cons_zero, List.set_cons_succ]
                refine wpAnyH_take_dst (i := 11) (v := .int .i64 (tn : Int)) (d := some 16) rfl rfl (by kernel_rfl) (by kernel_rfl) (by kernel_rfl) (fun _ _ _ h => h) (Or.inl ⟨by rfl, ?_⟩) hH ?_
                · (intro w' hE'; (try dsimp only at hE'); have y0 := Ext.keep hE' HYr.out.c0; go_simp; try with_reducible rfl)
                try simp only [Act.put, List.setIfInBounds_toArray, List.set_cons_zero, List.set_cons_succ]
                refine wpAnyH_take_dst (i := 10) (v := .bool true) (d := some 120) rfl rfl (by kernel_rfl) (by kernel_rfl) (by kernel_rfl) (fun _ _ _ h => h) (Or.inl ⟨by rfl, ?_⟩) hH ?_
                · (intro w' hE'; (try dsimp only at hE'); have y0 := Ext.keep hE' HYr.out.c0; go_simp; try with_reducible rfl)
                try simp only [Act.put, List.setIfInBounds_toArray, List.set_cons_zero, List.set_cons_succ]
                refine wpAnyH_take_dst (i := 12) (v := .bool true) (d := some 17) rfl rfl (by kernel_rfl) (by kernel_rfl) (by kernel_rfl) (fun _ _ _ h => h) (Or.inl ⟨by rfl, ?_⟩) hH ?_
                · (intro w' hE'; (try dsimp only at hE'); have y0 := Ext.keep hE' HYr.out.c0; go_simp; try with_reducible rfl)
                try simp only [Act.put, List.setIfInBounds_toArray, List.set_cons_zero, List.set_cons_succ]
                refine wpAnyH_done (by kernel_rfl) ?_ _
                exact ⟨Z, zc, _, by rfl, hH⟩
              · rw [if_pos (by rfl)]
                go_wp2_with fail; have hF6 := one_of hH
                refine hK.out _ _ (hH.alloc _) (fun hH9 => ?_)
                clear hK; have hH0 := hH; clear hH; have hH := hH9; clear hH9
                try simp only [Act.put, List.setIfInBounds_toArray, List.set_cons_zero, List.set_cons_succ]
                refine wpAnyH_ready (rs := [4]) (by kernel_rfl) (by simp) ?_
                refine AllReadyH.cons rfl (fun K hK => ?_) AllReadyH.nil
                rw [if_pos (by rfl)]
                go_wp2_with fail; (with_reducible refine (c_sizeB (HYr.out.ext hH).sig).mono ?_); rintro e w9 ⟨Z, zc, rfl, hz, hE9⟩; have hR6 : RI w9 (some ⟨wr.heap.size, 0, none⟩) 1 [1] := RI.ext (hF6 wr.heap.size (by simp [go_sem])) hE9
                refine hK.out _ _ (Ext.trans hH hE9) (fun hH9 => ?_)
                clear hK; have hH0 := hH; clear hH; have hH := hH9; clear hH9
                try simp only [Act.put, List.setIfInBounds_toArray, List.set_cons_zero, List.set_cons_succ]
                refine wpAnyH_ready (rs := [7]) (by kernel_rfl) (by simp) ?_
                refine AllReadyH.cons rfl (fun K hK => ?_) AllReadyH.nil
                rw [if_pos (by rfl)]
                go_wp2_with fail
                (with_reducible refine (c_valueB HZ2.out HZ1.out (HYr.out.ext hH).sig (RdPs.mk (A := Z) (n := 3) (c := zc) (by first | exact hz | exact RP.ext hz ((Ext.refl _).alloc _))) (RdI.mk (RI.ext HTr.out hH)) (RdI.mk (by first | exact hR6 | exact hF6 _ (by go_size)))).mono ?_)
                rintro e w9 ⟨rfl, hE9⟩
                refine hK.out _ _ (Ext.trans hH hE9) (fun hH9 => ?_)
                clear hK; have hH0 := hH; clear hH; have hH := hH9; clear hH9
                try simp only [Act.put, List.setIfInBounds_toArray, List.set_cons_zero, List.set_cons_succ]
                refine wpAnyH_take_dst (i := 8) (v := .tuple #[.int .i64 (tn : Int), .bool true]) (d := some 110) rfl rfl (by kernel_rfl) (by kernel_rfl) (by kernel_rfl) (fun _ _ _ h => h) (Or.inl ⟨by rfl, ?_⟩) hH ?_
                · (intro w' hE'; (try dsimp only at hE'); have y0 := Ext.keep hE' HYr.out.c0; go_simp; try with_reducible rfl)
                try simp only [Act.put, List.setIfInBounds_toArray, List.set_cons_zero, List.set_cons_succ]
                refine wpAnyH_take_dst (i := 9) (v := .int .i64 (tn : Int)) (d := some 119) rfl rfl (by kernel_rfl) (by kernel_rfl) (by kernel_rfl) (fun _ _ _ h => h) (Or.inl ⟨by rfl, ?_⟩) hH ?_
                · (intro w' hE'; (try dsimp only at hE'); have y0 := Ext.keep hE' HYr.out.c0; go_simp; try with_reducible rfl)
                try simp only [Act.put, List.setIfInBounds_toArray, List.set_cons_zero, List.set_cons_succ]
                refine wpAnyH_take_dst (i := 11) (v := .int .i64 (tn : Int)) (d := some 16) rfl rfl (by kernel_rfl) (by kernel_rfl) (by kernel_rfl) (fun _ _ _ h => h) (Or.inl ⟨by rfl, ?_⟩) hH ?_
                · (intro w' hE'; (try dsimp only at hE'); have y0 := Ext.keep hE' HYr.out.c0; go_simp; try with_reducible rfl)
                try simp only [Act.put, List.setIfInBounds_toArray, List.set_cons_zero, List.set_cons_succ]
                refine wpAnyH_take_dst (i := 10) (v := .bool true) (d := some 120) rfl rfl (by kernel_rfl) (by kernel_rfl) (by kernel_rfl) (fun _ _ _ h => h) (Or.inl ⟨by rfl, ?_⟩) hH ?_
                · (intro w' hE'; (try dsimp only at hE'); have y0 := Ext.keep hE' HYr.out.c0; go_simp; try with_reducible rfl)
                try simp only [Act.put, List.setIfInBounds_toArray, List.set_cons_zero, List.set_cons_succ]
                refine wpAnyH_take_dst (i := 12) (v := .bool true) (d := some 17) rfl rfl (by kernel_rfl) (by kernel_rfl) (by kernel_rfl) (fun _ _ _ h => h) (Or.inl ⟨by rfl, ?_⟩) hH ?_
                · (intro w' hE'; (try dsimp only at hE'); have y0 := Ext.keep hE' HYr.out.c0; go_simp; try with_reducible rfl)
                try simp only [Act.put, List.setIfInBounds_toArray, List.set_cons_zero, List.set_cons_succ]
                refine wpAnyH_done (by kernel_rfl) ?_ _
                exact ⟨Z, zc, _, by rfl, hH⟩
            obtain ⟨Z, zc, q, ha, hE17⟩ := hR
            simp only [Act.put, List.setIfInBounds_toArray, List.set_cons_zero, List.set_cons_succ] at ha
            subst ha
            go_wp2_with fail
            go_ret
            exact ⟨ret_bool (by simp), Ext.trans hEe hE17⟩

set_option maxRecDepth 100000 in
theorem lifted (os : Os) (started : os.Started) (H : Type) (enc : TypeId × Value → H) :
    ReturnsInHanded {} Try.checked os 5 .any (Rows.fnPolyWalkSpec.pre6 enc Try.prog Try.f5 Rows.fnPolyWalkRow.domain false) (Rows.fnPolyWalkSpec.post enc Try.prog Try.f5 false true false false) := by
  refine returnsInHanded_of_change (C := Try.checked) own started (by kernel_rfl) Try.func5
    (ChangeSpec.witness6 (enc := enc) (C := Try.checked) false ⟨#[], #[.slice none 0 0], []⟩ 8 (by kernel_rfl) (by kernel_rfl) (by kernel_rfl) (by kernel_rfl)) ?_
  intro W base args ds gs before hval0 hW hcnd _
  have hval : ∀ (j : Nat) t v, Try.f5.params[j]? = some t → args[j]? = some v → Value.okWide Try.prog W .any base t v := hval0
  have hW' := hW
  obtain ⟨p, q, hA0, hV, rfl, hfz, hnd⟩ := hW
  have hA : DataW.TrodAll enc Try.prog W 0 (fun _ => true) true Try.f5.params.toList args.toList ds p := hA0
  rw [Try.params5] at hA hval
  obtain ⟨v0, vs0, d0, ds0, p0, q0, hargs, rfl, rfl, h0, r0⟩ := trodAll_cons hA
  obtain ⟨rfl, rfl, rfl⟩ := trodAll_nil r0
  obtain rfl : args = #[v0] := by cases args; simp_all
  obtain ⟨rfl, rfl⟩ := trodVars_none hV
  have k0 := h0
  have lt0 : ∀ x ∈ p0, x.block < W.heap.size := by obtain ⟨m, hm⟩ := k0; exact DataW.trod_lt m _ _ _ hm
  obtain ⟨x0, w0⟩ := raw_By (hval 0 22 v0 rfl rfl) h0
  clear hA0 hval0
  refine (walk w0).mono fun e W' ⟨he, bel⟩ => ?_
  subst he
  exact ⟨_, rfl, _, _, _, [], _, [], hW', trodAll_mk1 (shut_bool Try.underlying4 _), (trodAll_cons_mk (Below.trod laidOut (by kernel_rfl) (of_decide_eq_true (by kernel_rfl)) k0 bel lt0) trodAll_mk0), rfl, bel.frame _, fun h => by cases h⟩

theorem over : Rows.fnPolyWalkRow.holds Try.pinned (OpenSpec.ofChange Rows.fnPolyWalkSpec) :=
  OpenClaim.holds_of_wide 5 Try.f5 rfl rfl rfl rfl rfl rfl rfl ⟨rfl, rfl, rfl, rfl, rfl⟩ rfl rfl rfl rfl rfl (by kernel_rfl) Try.func5 (by kernel_rfl)
    (of_decide_eq_true (by kernel_rfl)) (by unfold Func.isWrapper; first | (rw [if_pos (by decide +kernel)]; kernel_rfl) | (rw [if_neg (by decide +kernel)]; exact ⟨rfl, rfl⟩))
    (fun os started H enc _ => lifted os started H enc)

theorem proved : Rows.FnPolyWalkSaid := over

end Go.Proofs.Ytljbjabgdalabaa.FnPolyWalk
