/- Proved: for every input the law FnConnected returns true, does not panic, and its argument reads afterwards as it read before. Conditions: none. -/
import Derived.Test.YtempekmenkeigaaHeld
import Derived.Test.YtempekmenkeigaaOpenBy
import Derived.Test.YtempekmenkeigaaUfE
import Derived.Test.YtempekmenkeigaaUfD
import Derived.Test.YtempekmenkeigaaDepI
import Derived.Test.YtempekmenkeigaaDicSy
-- rd: RdSyK RdDp RdDq
namespace Go.Proofs.Ytempekmenkeigaa.FnConnected
open Go.ChangeShapes Go.WideShapes Go.ChangeAt Go.RowKit
set_option linter.unusedSimpArgs false
set_option linter.unusedVariables false
set_option linter.constructorNameAsVariable false

abbrev arU : List Int := [2, 1, 0]
theorem c_iConnectedInB {v0 v1 v2 : Value} {s : Sy} {p q : DepP} {b : Bool} {w : World} (hb : cinV s p q = b) (h0 : RdSyC w v0 s) (h1 : RdDp w v1 p) (h2 : RdDp w v2 q) :
    Calls Try.prog 19 #[v0, v1, v2] w fun e w' => e = .returned (.bool b) ∧ Ext w w' := by rw [← hb]; exact c_iConnectedIn h0 h1 h2
theorem c_iSameDepB {v v' : Value} {p q : DepP} {b : Bool} {w : World} (hb : p.same q = b) (h0 : RdDq w v p) (h1 : RdDq w v' q) :
    Calls Try.prog 21 #[v, v'] w fun e w' => e = .returned (.bool b) ∧ Ext w w' := by rw [← hb]; exact c_iSameDep h0 h1
set_option maxRecDepth 100000 in
set_option maxHeartbeats 16000000 in
theorem walk {v0 : Value} {x0 : Nat} {w : World} (h0 : RawBy w v0 x0) :
    Calls Try.prog 4 #[v0] w fun e w' => e = .returned (.bool true) ∧ Ext w w' := by
  have H0 := Lib.hid h0
  obtain ⟨bb, hbb⟩ : ∃ bb, decide (4096 < x0) = bb := ⟨_, rfl⟩
  have HBB := Lib.hid hbb
  clear h0 hbb
  go_enter Try.func4, Try.ntmps4
  go_wp2_with fail
  (with_reducible refine (c_big HBB.out H0.out).mono ?_)
  rintro e w1 ⟨rfl, hE1⟩
  cases bb with
  | true =>
    go_wp2
    go_ret
    exact ⟨rfl, hE1⟩
  | false =>
    have hx : x0 ≤ 4096 := by have := HBB.out; simpa using this
    have H1 := Lib.hid (H0.out.ext hE1)
    go_wp2_with fail
    (with_reducible refine (c_roll H1.out hx).mono ?_)
    rintro e w2 ⟨g, rfl, hD2, hg2, hE2⟩
    have hE02 : Ext w w2 := Ext.trans hE1 hE2
    have hgw : w.heap.size ≤ g := by have := hE1.size; omega
    have hgl := hD2.lt
    go_wp2_with fail
    (with_reducible refine (c_w9System hD2).mono ?_)
    rintro e w3 ⟨AS, cS, B, m, d, rs, rfl, hS3, hR3, hl3, hG3, hD3, hO3⟩
    have hs3 := hO3.size
    have HY4 := Lib.hid (SysAt.mk' (c := cS) (d := d) (v := .bool true) hS3 hR3 hs3)
    have HSY := Lib.hid (show SysP ⟨arU, rs⟩ from good_sys hl3 hG3)
    have HG3 := Lib.hid (show ∀ (j : Nat) (r : Ru), rs[j]? = some r → r.r.length ≤ 15 from fun j r hr => by have := (hG3 r (List.mem_of_getElem? hr)).2.2; omega)
    have hE03 : Ext w w3 := hO3.ext hE02 hgw
    obtain ⟨w4, hw4⟩ : ∃ w4, w4 = w3.alloc (.cells #[.slice AS 3 cS, .slice B m d] 34) := ⟨_, rfl⟩
    rw [← hw4] at HY4
    have hE34 : Ext w3 w4 := by rw [hw4]; exact extX
    have HD4 := Lib.hid (hD3.ext hE34)
    have hE04 := Ext.trans hE03 hE34
    have hs34 := hE34.size
    have t0 := HY4.out.c0
    have t1 := HY4.out.c1
    obtain ⟨hb1, hv1⟩ := prB_15 HSY.out hl3 HG3.out
    have HPB := Lib.hid hb1
    have hp64 : (prV (⟨arU, rs⟩ : Sy)).length ≤ 64 := by rw [hv1]; have := hb1; unfold prB at this; simp at this; exact this.2
    obtain ⟨ps, hps⟩ : ∃ ps, prV ⟨arU, rs⟩ = ps := ⟨_, rfl⟩
    rw [hps] at hp64
    have HPS := Lib.hid hps
    have HPA := Lib.hid (show ∀ q ∈ ps, q ∈ prAll ⟨arU, rs⟩ from fun q hq => by rw [← hv1, hps]; exact hq)
    have hgl4 : g < w4.heap.size := by omega
    clear hS3 hR3 hD3 hO3 hG3 hps hb1 hv1
    go_wp2_with fail
    rw [← hw4]
    clear hw4
    obtain ⟨p, hp⟩ : ∃ p, p = w3.heap.size := ⟨_, rfl⟩
    rw [← hp] at HY4 t0 t1 ⊢
    clear hp
    (with_reducible refine (c_sPairsOf HPS.out HPB.out HY4.out.rd).mono ?_)
    rintro e w5 ⟨PA, pn, pc, rfl, hOP, hE5⟩
    have HP5 := Lib.hid hOP
    have HPL := Lib.hid (show ps.length = pn from hOP.re.1.1)
    have hpn : pn ≤ 64 := by rw [← HPL.out]; exact hp64
    have HY5 := Lib.hid (HY4.out.ext hE5)
    have HD5 := Lib.hid (HD4.out.ext hE5)
    have hE05 := Ext.trans hE04 hE5
    have hs45 := hE5.size
    clear hOP t0 t1 HY4 HD4 hp64
    by_cases hz : pn = 0
    · subst hz
      go_wp2_with fail
      go_ret
      exact ⟨by first | rfl | simp, hE05⟩
    · have hpz : ((pn : Int) == 0) = false := by simp; omega
      go_wp2_with fail
      (with_reducible refine (c_below HD5.out (by omega) (by omega)).mono ?_)
      rintro e w6 ⟨i6, rfl, ⟨hi0, hi1⟩, hD6, hO6⟩
      obtain ⟨i, rfl⟩ := Int.eq_ofNat_of_zero_le hi0
      have hip : i < pn := by omega
      have HP6 := Lib.hid (HP5.out.only hO6 hgl4)
      have HY6 := Lib.hid (HY5.out.only hO6 hgl)
      have HD6 := Lib.hid hD6
      have hE06 : Ext w w6 := hO6.ext hE05 hgw
      have hs56 := hO6.size
      obtain ⟨p1, b1, o1, A1, n1, c1, A2, n2, c2, hq1, rfl, hc0, hc1, hc2, hc3, k1, k2, hA1, hA2⟩ := HP6.out.get hip
      have HM1 := Lib.hid (HPA.out p1 (List.mem_of_getElem? hq1))
      have HB1 := Lib.hid (PrAt.mk' k1 k2 hA1 hA2 (by omega))
      clear hD6 hO6 hq1 hA1 hA2 k1 k2 HP5 HY5 HD5 hi0
      obtain ⟨w7, hw7⟩ : ∃ w7, w7 = w6.alloc (.cells #[.slice A1 n1 c1, .slice A2 n2 c2, .int .i64 p1.rule, .int .i64 p1.at_] 51) := ⟨_, rfl⟩
      rw [← hw7] at HB1
      have hE67 : Ext w6 w7 := by rw [hw7]; exact extX
      have hs67 := hE67.size
      have HP7 := Lib.hid (HP6.out.ext hE67)
      have HY7 := Lib.hid (HY6.out.ext hE67)
      have HD7 := Lib.hid (HD6.out.ext hE67)
      have hE07 := Ext.trans hE06 hE67
      obtain ⟨e1, he1⟩ : ∃ e1, e1 = w6.heap.size := ⟨_, rfl⟩
      clear hE67 HP6 HY6 HD6
      go_wp2_with fail
      rw [← hw7]
      rw [← he1] at HB1 ⊢
      clear hw7 hc0 hc1 hc2 hc3 he1
      (with_reducible refine (c_below HD7.out (by omega) (by omega)).mono ?_)
      rintro e w8 ⟨i8, rfl, ⟨hj0, hj1⟩, hD8, hO8⟩
      obtain ⟨j, rfl⟩ := Int.eq_ofNat_of_zero_le hj0
      have hjp : j < pn := by omega
      have HP8 := Lib.hid (HP7.out.only hO8 hgl4)
      have HY8 := Lib.hid (HY7.out.only hO8 hgl)
      have HB8 := Lib.hid (HB1.out.only hO8 hgl4)
      have hE08 : Ext w w8 := hO8.ext hE07 hgw
      have hs78 := hO8.size
      obtain ⟨p2, b2, o2, B1, m1, d1, B2, m2, d2, hq2, hbb, hc0, hc1, hc2, hc3, k1, k2, hB1, hB2⟩ := HP8.out.get hjp
      cases hbb
      have HM2 := Lib.hid (HPA.out p2 (List.mem_of_getElem? hq2))
      have HC2 := Lib.hid (PrAt.mk' k1 k2 hB1 hB2 (by omega))
      clear hD8 hO8 hq2 hB1 hB2 k1 k2 HY7 HD7 HP7 HB1 hj0
      obtain ⟨w9, hw9⟩ : ∃ w9, w9 = w8.alloc (.cells #[.slice B1 m1 d1, .slice B2 m2 d2, .int .i64 p2.rule, .int .i64 p2.at_] 51) := ⟨_, rfl⟩
      rw [← hw9] at HC2
      have hE89 : Ext w8 w9 := by rw [hw9]; exact extX
      have HY9 := Lib.hid (HY8.out.ext hE89)
      have HB9 := Lib.hid (HB8.out.ext hE89)
      have hE09 := Ext.trans hE08 hE89
      obtain ⟨e2, he2⟩ : ∃ e2, e2 = w8.heap.size := ⟨_, rfl⟩
      have HG1 := Lib.hid (pair_good HSY.out HM1.out)
      have HG2 := Lib.hid (pair_good HSY.out HM2.out)
      obtain ⟨cv, hcv⟩ : ∃ cv, connV ⟨arU, rs⟩ p1 p2 = cv := ⟨_, rfl⟩
      have HCV := Lib.hid hcv
      have HCI := Lib.hid (show cinV ⟨arU, rs⟩ p1 p2 = cv by rw [cinV_3 HG1.out.ok HG2.out.ok]; exact hcv)
      clear hE89 HY8 HB8 HP8 hcv
      have y0 := HY9.out.c0
      have y1 := HY9.out.c1
      have z0 := HB9.out.e0
      have z1 := HB9.out.e1
      have z2 := HB9.out.e2
      have z3 := HB9.out.e3
      have u0 := HC2.out.e0
      have u1 := HC2.out.e1
      have u2 := HC2.out.e2
      have u3 := HC2.out.e3
      rw [hw9] at y0 y1 z0 z1 z2 z3 u0 u1 u2 u3
      go_wp2_with fail
      rw [← hw9]
      rw [← he2] at HC2 ⊢
      clear hw9 he2 hc0 hc1 hc2 hc3 y0 y1 z0 z1 z2 z3 u0 u1 u2 u3
      (with_reducible refine (c_iConnectedInB HCI.out HY9.out.rd HB9.out.dp HC2.out.dp).mono ?_)
      rintro e w10 ⟨rfl, hE10⟩
      have HY10 := Lib.hid (HY9.out.ext hE10)
      have HB10 := Lib.hid (HB9.out.ext hE10)
      have HC10 := Lib.hid (HC2.out.ext hE10)
      have hE010 := Ext.trans hE09 hE10
      clear HY9 HB9 HC2
      have y0 := HY10.out.c0
      have y1 := HY10.out.c1
      have z1 := HB10.out.e1
      have u0 := HC10.out.e0
      go_wp2_with fail
      (with_reducible refine (c_UnifiedApart HY10.out.sig HB10.out.o2.ri HC10.out.o1.ri HG1.out.tr HG2.out.tl (by simp)).mono ?_)
      rintro e w11 ⟨TA, tn, tc, dd, rfl, hU, hE11⟩
      have HU := Lib.hid (show dd = true → cv = true from fun h => by obtain ⟨τ, k, h1, h2, h3⟩ := hU h; rw [← HCV.out]; exact con_of HG1.out HG2.out h1 h2 h3)
      obtain ⟨w12, hw12⟩ : ∃ w12, w12 = w11.alloc (.cells #[.slice TA tn tc] 55) := ⟨_, rfl⟩
      have hE1112 : Ext w11 w12 := by rw [hw12]; exact extX
      have hE1012 := Ext.trans hE11 hE1112
      have HB12 := Lib.hid (HB10.out.ext hE1012)
      have HC12 := Lib.hid (HC10.out.ext hE1012)
      have hE012 := Ext.trans hE010 hE1012
      clear hU hE1112 hE1012 HY10 HB10 HC10 y0 y1 z1 u0
      obtain ⟨x, hx1, hx0⟩ := HG1.out.hr
      obtain ⟨y, hy1, hy0⟩ := HG2.out.hl
      have hn2 : 0 < n2 := by rw [← HB12.out.o2.len]; exact HG1.out.tr.2.1.1
      have hm1 : 0 < m1 := by rw [← HC12.out.o1.len]; exact HG2.out.tl.2.1.1
      obtain ⟨f1, g1, x', rfl, hx', hcx⟩ := RI.at_ HB12.out.o2.ri hn2
      obtain ⟨f2, g2, y', rfl, hy', hcy⟩ := RI.at_ HC12.out.o1.ri hm1
      have hxx : x' = x := by rw [hx1] at hx'; exact (Option.some.inj hx').symm
      have hyy : y' = y := by rw [hy1] at hy'; exact (Option.some.inj hy').symm
      subst hxx; subst hyy
      have hcx : w12.cell? ⟨f1, g1, none⟩ = some (.int .i64 x') := by rw [Nat.add_zero] at hcx; exact hcx
      have hcy : w12.cell? ⟨f2, g2, none⟩ = some (.int .i64 y') := by rw [Nat.add_zero] at hcy; exact hcy
      have HXY := Lib.hid (show cv = true → x' = y' from fun h => by
        have h9 := con_heads (HCV.out.trans h)
        rw [hx1, hy1] at h9; exact Option.some.inj h9)
      have hn2i : (0 : Int) < (n2 : Int) := by omega
      have hm1i : (0 : Int) < (m1 : Int) := by omega
      have HSM := Lib.hid (same_iff HM1.out HM2.out)
      clear hx1 hy1 hx' hy' hx0 hy0 HG1 HG2 HCV HCI
      have z0 := HB12.out.e0
      have z1 := HB12.out.e1
      have z2 := HB12.out.e2
      have z3 := HB12.out.e3
      have u0 := HC12.out.e0
      have u1 := HC12.out.e1
      have u2 := HC12.out.e2
      have u3 := HC12.out.e3
      go_wp2_with fail
      rw [← hw12]
      clear hw12
      cases cv with
      | true =>
        have hxy := HXY.out rfl
        subst hxy
        have hne : (x' != x') = false := by simp
        cases dd with
        | true =>
          go_quiet (fail)
          obtain ⟨w13, hw13⟩ : ∃ w13, w13 = w12.drewN nq := ⟨_, rfl⟩
          have hE1213 : Ext w12 w13 := by rw [hw13]; exact (Ext.refl w12).drewN nq
          rw [← hw13]
          have hE013 := Ext.trans hE012 hE1213
          have HB13 := Lib.hid (HB12.out.ext hE1213)
          have HC13 := Lib.hid (HC12.out.ext hE1213)
          clear hw13 hE1213 hcx hcy z0 z1 z2 z3 u0 u1 u2 u3
          have z0 := HB13.out.e0
          have z1 := HB13.out.e1
          have z2 := HB13.out.e2
          have z3 := HB13.out.e3
          have u0 := HC13.out.e0
          have u1 := HC13.out.e1
          have u2 := HC13.out.e2
          have u3 := HC13.out.e3
          cases hre : (p1.rule == p2.rule) with
          | false =>
            have HSB := Lib.hid (show p1.same p2 = false by rw [HSM.out, hre]; rfl)
            go_wp2_with fail
            refine wp_region_held_drew (S := (fun w' => w'.cell? ⟨e1, 0, none⟩ = some (.slice A1 n1 c1) ∧ w'.cell? ⟨e1, 1, none⟩ = some (.slice (some ⟨f1, g1, none⟩) n2 c2) ∧ w'.cell? ⟨e1, 2, none⟩ = some (.int .i64 p1.rule) ∧ w'.cell? ⟨e1, 3, none⟩ = some (.int .i64 p1.at_) ∧ w'.cell? ⟨e2, 0, none⟩ = some (.slice (some ⟨f2, g2, none⟩) m1 d1) ∧ w'.cell? ⟨e2, 1, none⟩ = some (.slice B2 m2 d2) ∧ w'.cell? ⟨e2, 2, none⟩ = some (.int .i64 p2.rule) ∧ w'.cell? ⟨e2, 3, none⟩ = some (.int .i64 p2.at_) ∧ Ext w13 w')) (by kernel_rfl) ?_ (fun hH => ?_)
            · exact ⟨z0, z1, z2, z3, u0, u1, u2, u3, (Ext.refl w13).drew⟩
            refine wpAnyH_take_dst (i := 0) (v := .agg #[.slice A1 n1 c1, .slice (some ⟨f1, g1, none⟩) n2 c2, .int .i64 p1.rule, .int .i64 p1.at_]) (d := some 77) rfl rfl (by kernel_rfl) (by kernel_rfl) (by kernel_rfl) (fun _ _ _ h => h) (Or.inl ⟨by rfl, ?_⟩) hH ?_
            · (intro w hSw; (try dsimp only at hSw); go_split_ands; go_simp; try with_reducible rfl)
            try simp only [Act.put, List.setIfInBounds_toArray, List.set_cons_zero, List.set_cons_succ]
            refine wpAnyH_take_dst (i := 1) (v := .agg #[.slice (some ⟨f2, g2, none⟩) m1 d1, .slice B2 m2 d2, .int .i64 p2.rule, .int .i64 p2.at_]) (d := some 78) rfl rfl (by kernel_rfl) (by kernel_rfl) (by kernel_rfl) (fun _ _ _ h => h) (Or.inl ⟨by rfl, ?_⟩) hH ?_
            · (intro w hSw; (try dsimp only at hSw); go_split_ands; go_simp; try with_reducible rfl)
            try simp only [Act.put, List.setIfInBounds_toArray, List.set_cons_zero, List.set_cons_succ]
            refine wpAnyH_take_dst (i := 3) (v := .pointer (some ⟨e1, 2, none⟩)) (d := some 80) rfl rfl (by kernel_rfl) (by kernel_rfl) (by kernel_rfl) (fun _ _ _ h => h) (Or.inl ⟨by rfl, ?_⟩) hH ?_
            · (intro w hSw; (try dsimp only at hSw); go_split_ands; go_simp; try with_reducible rfl)
            try simp only [Act.put, List.setIfInBounds_toArray, List.set_cons_zero, List.set_cons_succ]
            refine wpAnyH_take_dst (i := 4) (v := .int .i64 p1.rule) (d := some 81) rfl rfl (by kernel_rfl) (by kernel_rfl) (by kernel_rfl) (fun _ _ _ h => h) (Or.inl ⟨by rfl, ?_⟩) hH ?_
            · (intro w hSw; (try dsimp only at hSw); go_split_ands; go_simp; try with_reducible rfl)
            try simp only [Act.put, List.setIfInBounds_toArray, List.set_cons_zero, List.set_cons_succ]
            refine wpAnyH_take_dst (i := 5) (v := .pointer (some ⟨e2, 2, none⟩)) (d := some 82) rfl rfl (by kernel_rfl) (by kernel_rfl) (by kernel_rfl) (fun _ _ _ h => h) (Or.inl ⟨by rfl, ?_⟩) hH ?_
            · (intro w hSw; (try dsimp only at hSw); go_split_ands; go_simp; try with_reducible rfl)
            try simp only [Act.put, List.setIfInBounds_toArray, List.set_cons_zero, List.set_cons_succ]
            refine wpAnyH_take_dst (i := 6) (v := .int .i64 p2.rule) (d := some 83) rfl rfl (by kernel_rfl) (by kernel_rfl) (by kernel_rfl) (fun _ _ _ h => h) (Or.inl ⟨by rfl, ?_⟩) hH ?_
            · (intro w hSw; (try dsimp only at hSw); go_split_ands; go_simp; try with_reducible rfl)
            try simp only [Act.put, List.setIfInBounds_toArray, List.set_cons_zero, List.set_cons_succ]
            refine wpAnyH_take_dst (i := 7) (v := .bool false) (d := some 84) rfl rfl (by kernel_rfl) (by kernel_rfl) (by kernel_rfl) (fun _ _ _ h => h) (Or.inl ⟨by rfl, ?_⟩) hH ?_
            · (intro w hSw; (try dsimp only at hSw); go_split_ands; go_simp; try with_reducible rfl)
            try simp only [Act.put, List.setIfInBounds_toArray, List.set_cons_zero, List.set_cons_succ]
            refine wpAnyH_ready (rs := [2]) (by kernel_rfl) (by simp) ?_
            refine AllReadyH.cons rfl (fun K hK => ?_) AllReadyH.nil
            rw [if_pos (by rfl)]
            go_wp2_with (go_at_call 21; (with_reducible refine ((c_iSameDepB HSB.out (HB13.out.ext hH.2.2.2.2.2.2.2.2).dq (HC13.out.ext hH.2.2.2.2.2.2.2.2).dq)).mono ?_); rintro e w9 ⟨rfl, hE9⟩)
            refine hK.out _ _ ⟨Ext.keep hE9 hH.1, Ext.keep hE9 hH.2.1, Ext.keep hE9 hH.2.2.1, Ext.keep hE9 hH.2.2.2.1, Ext.keep hE9 hH.2.2.2.2.1, Ext.keep hE9 hH.2.2.2.2.2.1, Ext.keep hE9 hH.2.2.2.2.2.2.1, Ext.keep hE9 hH.2.2.2.2.2.2.2.1, Ext.trans hH.2.2.2.2.2.2.2.2 hE9⟩ (fun hH9 => ?_)
            clear hK hH; have hH := hH9; clear hH9
            try simp only [Act.put, List.setIfInBounds_toArray, List.set_cons_zero, List.set_cons_succ]
            refine wpAnyH_take_dst (i := 8) (v := .bool false) (d := some 85) rfl rfl (by kernel_rfl) (by kernel_rfl) (by kernel_rfl) (fun _ _ _ h => h) (Or.inl ⟨by rfl, ?_⟩) hH ?_
            · (intro w hSw; (try dsimp only at hSw); go_split_ands; go_simp; try with_reducible rfl)
            try simp only [Act.put, List.setIfInBounds_toArray, List.set_cons_zero, List.set_cons_succ]
            refine wpAnyH_take_dst (i := 9) (v := undef) (d := some 86) rfl rfl (by kernel_rfl) (by kernel_rfl) (by kernel_rfl) (fun _ _ _ h => h) (Or.inr ⟨by rfl, rfl⟩) hH ?_
            try simp only [Act.put, List.setIfInBounds_toArray, List.set_cons_zero, List.set_cons_succ]
            refine wpAnyH_take_dst (i := 10) (v := undef) (d := some 87) rfl rfl (by kernel_rfl) (by kernel_rfl) (by kernel_rfl) (fun _ _ _ h => h) (Or.inr ⟨by rfl, rfl⟩) hH ?_
            try simp only [Act.put, List.setIfInBounds_toArray, List.set_cons_zero, List.set_cons_succ]
            refine wpAnyH_take_dst (i := 11) (v := undef) (d := some 88) rfl rfl (by kernel_rfl) (by kernel_rfl) (by kernel_rfl) (fun _ _ _ h => h) (Or.inr ⟨by rfl, rfl⟩) hH ?_
            try simp only [Act.put, List.setIfInBounds_toArray, List.set_cons_zero, List.set_cons_succ]
            refine wpAnyH_take_dst (i := 12) (v := undef) (d := some 89) rfl rfl (by kernel_rfl) (by kernel_rfl) (by kernel_rfl) (fun _ _ _ h => h) (Or.inr ⟨by rfl, rfl⟩) hH ?_
            try simp only [Act.put, List.setIfInBounds_toArray, List.set_cons_zero, List.set_cons_succ]
            refine wpAnyH_take_dst (i := 13) (v := undef) (d := some 90) rfl rfl (by kernel_rfl) (by kernel_rfl) (by kernel_rfl) (fun _ _ _ h => h) (Or.inr ⟨by rfl, rfl⟩) hH ?_
            try simp only [Act.put, List.setIfInBounds_toArray, List.set_cons_zero, List.set_cons_succ]
            refine wpAnyH_take_dst (i := 14) (v := .bool false) (d := some 91) rfl rfl (by kernel_rfl) (by kernel_rfl) (by kernel_rfl) (fun _ _ _ h => h) (Or.inl ⟨by rfl, ?_⟩) hH ?_
            · (intro w hSw; (try dsimp only at hSw); go_split_ands; go_simp; try with_reducible rfl)
            try simp only [Act.put, List.setIfInBounds_toArray, List.set_cons_zero, List.set_cons_succ]
            refine wpAnyH_take_dst (i := 15) (v := .bool true) (d := some 92) rfl rfl (by kernel_rfl) (by kernel_rfl) (by kernel_rfl) (fun _ _ _ h => h) (Or.inl ⟨by rfl, ?_⟩) hH ?_
            · (intro w hSw; (try dsimp only at hSw); go_split_ands; go_simp; try with_reducible rfl)
            try simp only [Act.put, List.setIfInBounds_toArray, List.set_cons_zero, List.set_cons_succ]
            refine wpAnyH_take_dst (i := 16) (v := .bool true) (d := some 2) rfl rfl (by kernel_rfl) (by kernel_rfl) (by kernel_rfl) (fun _ _ _ h => h) (Or.inl ⟨by rfl, ?_⟩) hH ?_
            · (intro w hSw; (try dsimp only at hSw); go_split_ands; go_simp; try with_reducible rfl)
            try simp only [Act.put, List.setIfInBounds_toArray, List.set_cons_zero, List.set_cons_succ]
            refine wpAnyH_done (by kernel_rfl) ?_ _
            have hH2 := hH.2.2.2.2.2.2.2.2
            clear hH
            go_wp2_with fail
            go_ret
            exact ⟨by first | rfl | simp, Ext.trans hE013 hH2⟩
          | true =>
            cases hae : (p1.at_ == p2.at_) with
            | false =>
              have HSB := Lib.hid (show p1.same p2 = false by rw [HSM.out, hre, hae]; rfl)
              go_wp2_with fail
              refine wp_region_held_drew (S := (fun w' => w'.cell? ⟨e1, 0, none⟩ = some (.slice A1 n1 c1) ∧ w'.cell? ⟨e1, 1, none⟩ = some (.slice (some ⟨f1, g1, none⟩) n2 c2) ∧ w'.cell? ⟨e1, 2, none⟩ = some (.int .i64 p1.rule) ∧ w'.cell? ⟨e1, 3, none⟩ = some (.int .i64 p1.at_) ∧ w'.cell? ⟨e2, 0, none⟩ = some (.slice (some ⟨f2, g2, none⟩) m1 d1) ∧ w'.cell? ⟨e2, 1, none⟩ = some (.slice B2 m2 d2) ∧ w'.cell? ⟨e2, 2, none⟩ = some (.int .i64 p2.rule) ∧ w'.cell? ⟨e2, 3, none⟩ = some (.int .i64 p2.at_) ∧ Ext w13 w')) (by kernel_rfl) ?_ (fun hH => ?_)
              · exact ⟨z0, z1, z2, z3, u0, u1, u2, u3, (Ext.refl w13).drew⟩
              refine wpAnyH_take_dst (i := 0) (v := .agg #[.slice A1 n1 c1, .slice (some ⟨f1, g1, none⟩) n2 c2, .int .i64 p1.rule, .int .i64 p1.at_]) (d := some 77) rfl rfl (by kernel_rfl) (by kernel_rfl) (by kernel_rfl) (fun _ _ _ h => h) (Or.inl ⟨by rfl, ?_⟩) hH ?_
              · (intro w hSw; (try dsimp only at hSw); go_split_ands; go_simp; try with_reducible rfl)
              try simp only [Act.put, List.setIfInBounds_toArray, List.set_cons_zero, List.set_cons_succ]
              refine wpAnyH_take_dst (i := 1) (v := .agg #[.slice (some ⟨f2, g2, none⟩) m1 d1, .slice B2 m2 d2, .int .i64 p2.rule, .int .i64 p2.at_]) (d := some 78) rfl rfl (by kernel_rfl) (by kernel_rfl) (by kernel_rfl) (fun _ _ _ h => h) (Or.inl ⟨by rfl, ?_⟩) hH ?_
              · (intro w hSw; (try dsimp only at hSw); go_split_ands; go_simp; try with_reducible rfl)
              try simp only [Act.put, List.setIfInBounds_toArray, List.set_cons_zero, List.set_cons_succ]
              refine wpAnyH_take_dst (i := 3) (v := .pointer (some ⟨e1, 2, none⟩)) (d := some 80) rfl rfl (by kernel_rfl) (by kernel_rfl) (by kernel_rfl) (fun _ _ _ h => h) (Or.inl ⟨by rfl, ?_⟩) hH ?_
              · (intro w hSw; (try dsimp only at hSw); go_split_ands; go_simp; try with_reducible rfl)
              try simp only [Act.put, List.setIfInBounds_toArray, List.set_cons_zero, List.set_cons_succ]
              refine wpAnyH_take_dst (i := 4) (v := .int .i64 p1.rule) (d := some 81) rfl rfl (by kernel_rfl) (by kernel_rfl) (by kernel_rfl) (fun _ _ _ h => h) (Or.inl ⟨by rfl, ?_⟩) hH ?_
              · (intro w hSw; (try dsimp only at hSw); go_split_ands; go_simp; try with_reducible rfl)
              try simp only [Act.put, List.setIfInBounds_toArray, List.set_cons_zero, List.set_cons_succ]
              refine wpAnyH_take_dst (i := 5) (v := .pointer (some ⟨e2, 2, none⟩)) (d := some 82) rfl rfl (by kernel_rfl) (by kernel_rfl) (by kernel_rfl) (fun _ _ _ h => h) (Or.inl ⟨by rfl, ?_⟩) hH ?_
              · (intro w hSw; (try dsimp only at hSw); go_split_ands; go_simp; try with_reducible rfl)
              try simp only [Act.put, List.setIfInBounds_toArray, List.set_cons_zero, List.set_cons_succ]
              refine wpAnyH_take_dst (i := 6) (v := .int .i64 p2.rule) (d := some 83) rfl rfl (by kernel_rfl) (by kernel_rfl) (by kernel_rfl) (fun _ _ _ h => h) (Or.inl ⟨by rfl, ?_⟩) hH ?_
              · (intro w hSw; (try dsimp only at hSw); go_split_ands; go_simp; try with_reducible rfl)
              try simp only [Act.put, List.setIfInBounds_toArray, List.set_cons_zero, List.set_cons_succ]
              refine wpAnyH_take_dst (i := 7) (v := .bool true) (d := some 84) rfl rfl (by kernel_rfl) (by kernel_rfl) (by kernel_rfl) (fun _ _ _ h => h) (Or.inl ⟨by rfl, ?_⟩) hH ?_
              · (intro w hSw; (try dsimp only at hSw); go_split_ands; go_simp; try with_reducible rfl)
              try simp only [Act.put, List.setIfInBounds_toArray, List.set_cons_zero, List.set_cons_succ]
              refine wpAnyH_ready (rs := [2]) (by kernel_rfl) (by simp) ?_
              refine AllReadyH.cons rfl (fun K hK => ?_) AllReadyH.nil
              rw [if_pos (by rfl)]
              go_wp2_with (go_at_call 21; (with_reducible refine ((c_iSameDepB HSB.out (HB13.out.ext hH.2.2.2.2.2.2.2.2).dq (HC13.out.ext hH.2.2.2.2.2.2.2.2).dq)).mono ?_); rintro e w9 ⟨rfl, hE9⟩)
              refine hK.out _ _ ⟨Ext.keep hE9 hH.1, Ext.keep hE9 hH.2.1, Ext.keep hE9 hH.2.2.1, Ext.keep hE9 hH.2.2.2.1, Ext.keep hE9 hH.2.2.2.2.1, Ext.keep hE9 hH.2.2.2.2.2.1, Ext.keep hE9 hH.2.2.2.2.2.2.1, Ext.keep hE9 hH.2.2.2.2.2.2.2.1, Ext.trans hH.2.2.2.2.2.2.2.2 hE9⟩ (fun hH9 => ?_)
              clear hK hH; have hH := hH9; clear hH9
              try simp only [Act.put, List.setIfInBounds_toArray, List.set_cons_zero, List.set_cons_succ]
              refine wpAnyH_take_dst (i := 8) (v := .bool true) (d := some 85) rfl rfl (by kernel_rfl) (by kernel_rfl) (by kernel_rfl) (fun _ _ _ h => h) (Or.inl ⟨by rfl, ?_⟩) hH ?_
              · (intro w hSw; (try dsimp only at hSw); go_split_ands; go_simp; try with_reducible rfl)
              try simp only [Act.put, List.setIfInBounds_toArray, List.set_cons_zero, List.set_cons_succ]
              refine wpAnyH_take_dst (i := 9) (v := .pointer (some ⟨e1, 3, none⟩)) (d := some 86) rfl rfl (by kernel_rfl) (by kernel_rfl) (by kernel_rfl) (fun _ _ _ h => h) (Or.inl ⟨by rfl, ?_⟩) hH ?_
              · (intro w hSw; (try dsimp only at hSw); go_split_ands; go_simp; try with_reducible rfl)
              try simp only [Act.put, List.setIfInBounds_toArray, List.set_cons_zero, List.set_cons_succ]
              refine wpAnyH_take_dst (i := 10) (v := .int .i64 p1.at_) (d := some 87) rfl rfl (by kernel_rfl) (by kernel_rfl) (by kernel_rfl) (fun _ _ _ h => h) (Or.inl ⟨by rfl, ?_⟩) hH ?_
              · (intro w hSw; (try dsimp only at hSw); go_split_ands; go_simp; try with_reducible rfl)
              try simp only [Act.put, List.setIfInBounds_toArray, List.set_cons_zero, List.set_cons_succ]
              refine wpAnyH_take_dst (i := 11) (v := .pointer (some ⟨e2, 3, none⟩)) (d := some 88) rfl rfl (by kernel_rfl) (by kernel_rfl) (by kernel_rfl) (fun _ _ _ h => h) (Or.inl ⟨by rfl, ?_⟩) hH ?_
              · (intro w hSw; (try dsimp only at hSw); go_split_ands; go_simp; try with_reducible rfl)
              try simp only [Act.put, List.setIfInBounds_toArray, List.set_cons_zero, List.set_cons_succ]
              refine wpAnyH_take_dst (i := 12) (v := .int .i64 p2.at_) (d := some 89) rfl rfl (by kernel_rfl) (by kernel_rfl) (by kernel_rfl) (fun _ _ _ h => h) (Or.inl ⟨by rfl, ?_⟩) hH ?_
              · (intro w hSw; (try dsimp only at hSw); go_split_ands; go_simp; try with_reducible rfl)
              try simp only [Act.put, List.setIfInBounds_toArray, List.set_cons_zero, List.set_cons_succ]
              refine wpAnyH_take_dst (i := 13) (v := .bool false) (d := some 90) rfl rfl (by kernel_rfl) (by kernel_rfl) (by kernel_rfl) (fun _ _ _ h => h) (Or.inl ⟨by rfl, ?_⟩) hH ?_
              · (intro w hSw; (try dsimp only at hSw); go_split_ands; go_simp; try with_reducible rfl)
              try simp only [Act.put, List.setIfInBounds_toArray, List.set_cons_zero, List.set_cons_succ]
              refine wpAnyH_take_dst (i := 14) (v := .bool false) (d := some 91) rfl rfl (by kernel_rfl) (by kernel_rfl) (by kernel_rfl) (fun _ _ _ h => h) (Or.inl ⟨by rfl, ?_⟩) hH ?_
              · (intro w hSw; (try dsimp only at hSw); go_split_ands; go_simp; try with_reducible rfl)
              try simp only [Act.put, List.setIfInBounds_toArray, List.set_cons_zero, List.set_cons_succ]
              refine wpAnyH_take_dst (i := 15) (v := .bool true) (d := some 92) rfl rfl (by kernel_rfl) (by kernel_rfl) (by kernel_rfl) (fun _ _ _ h => h) (Or.inl ⟨by rfl, ?_⟩) hH ?_
              · (intro w hSw; (try dsimp only at hSw); go_split_ands; go_simp; try with_reducible rfl)
              try simp only [Act.put, List.setIfInBounds_toArray, List.set_cons_zero, List.set_cons_succ]
              refine wpAnyH_take_dst (i := 16) (v := .bool true) (d := some 2) rfl rfl (by kernel_rfl) (by kernel_rfl) (by kernel_rfl) (fun _ _ _ h => h) (Or.inl ⟨by rfl, ?_⟩) hH ?_
              · (intro w hSw; (try dsimp only at hSw); go_split_ands; go_simp; try with_reducible rfl)
              try simp only [Act.put, List.setIfInBounds_toArray, List.set_cons_zero, List.set_cons_succ]
              refine wpAnyH_done (by kernel_rfl) ?_ _
              have hH2 := hH.2.2.2.2.2.2.2.2
              clear hH
              go_wp2_with fail
              go_ret
              exact ⟨by first | rfl | simp, Ext.trans hE013 hH2⟩
            | true =>
              have HSB := Lib.hid (show p1.same p2 = true by rw [HSM.out, hre, hae]; rfl)
              go_wp2_with fail
              refine wp_region_held_drew (S := (fun w' => w'.cell? ⟨e1, 0, none⟩ = some (.slice A1 n1 c1) ∧ w'.cell? ⟨e1, 1, none⟩ = some (.slice (some ⟨f1, g1, none⟩) n2 c2) ∧ w'.cell? ⟨e1, 2, none⟩ = some (.int .i64 p1.rule) ∧ w'.cell? ⟨e1, 3, none⟩ = some (.int .i64 p1.at_) ∧ w'.cell? ⟨e2, 0, none⟩ = some (.slice (some ⟨f2, g2, none⟩) m1 d1) ∧ w'.cell? ⟨e2, 1, none⟩ = some (.slice B2 m2 d2) ∧ w'.cell? ⟨e2, 2, none⟩ = some (.int .i64 p2.rule) ∧ w'.cell? ⟨e2, 3, none⟩ = some (.int .i64 p2.at_) ∧ Ext w13 w')) (by kernel_rfl) ?_ (fun hH => ?_)
              · exact ⟨z0, z1, z2, z3, u0, u1, u2, u3, (Ext.refl w13).drew⟩
              refine wpAnyH_take_dst (i := 0) (v := .agg #[.slice A1 n1 c1, .slice (some ⟨f1, g1, none⟩) n2 c2, .int .i64 p1.rule, .int .i64 p1.at_]) (d := some 77) rfl rfl (by kernel_rfl) (by kernel_rfl) (by kernel_rfl) (fun _ _ _ h => h) (Or.inl ⟨by rfl, ?_⟩) hH ?_
              · (intro w hSw; (try dsimp only at hSw); go_split_ands; go_simp; try with_reducible rfl)
              try simp only [Act.put, List.setIfInBounds_toArray, List.set_cons_zero, List.set_cons_succ]
              refine wpAnyH_take_dst (i := 1) (v := .agg #[.slice (some ⟨f2, g2, none⟩) m1 d1, .slice B2 m2 d2, .int .i64 p2.rule, .int .i64 p2.at_]) (d := some 78) rfl rfl (by kernel_rfl) (by kernel_rfl) (by kernel_rfl) (fun _ _ _ h => h) (Or.inl ⟨by rfl, ?_⟩) hH ?_
              · (intro w hSw; (try dsimp only at hSw); go_split_ands; go_simp; try with_reducible rfl)
              try simp only [Act.put, List.setIfInBounds_toArray, List.set_cons_zero, List.set_cons_succ]
              refine wpAnyH_take_dst (i := 3) (v := .pointer (some ⟨e1, 2, none⟩)) (d := some 80) rfl rfl (by kernel_rfl) (by kernel_rfl) (by kernel_rfl) (fun _ _ _ h => h) (Or.inl ⟨by rfl, ?_⟩) hH ?_
              · (intro w hSw; (try dsimp only at hSw); go_split_ands; go_simp; try with_reducible rfl)
              try simp only [Act.put, List.setIfInBounds_toArray, List.set_cons_zero, List.set_cons_succ]
              refine wpAnyH_take_dst (i := 4) (v := .int .i64 p1.rule) (d := some 81) rfl rfl (by kernel_rfl) (by kernel_rfl) (by kernel_rfl) (fun _ _ _ h => h) (Or.inl ⟨by rfl, ?_⟩) hH ?_
              · (intro w hSw; (try dsimp only at hSw); go_split_ands; go_simp; try with_reducible rfl)
              try simp only [Act.put, List.setIfInBounds_toArray, List.set_cons_zero, List.set_cons_succ]
              refine wpAnyH_take_dst (i := 5) (v := .pointer (some ⟨e2, 2, none⟩)) (d := some 82) rfl rfl (by kernel_rfl) (by kernel_rfl) (by kernel_rfl) (fun _ _ _ h => h) (Or.inl ⟨by rfl, ?_⟩) hH ?_
              · (intro w hSw; (try dsimp only at hSw); go_split_ands; go_simp; try with_reducible rfl)
              try simp only [Act.put, List.setIfInBounds_toArray, List.set_cons_zero, List.set_cons_succ]
              refine wpAnyH_take_dst (i := 6) (v := .int .i64 p2.rule) (d := some 83) rfl rfl (by kernel_rfl) (by kernel_rfl) (by kernel_rfl) (fun _ _ _ h => h) (Or.inl ⟨by rfl, ?_⟩) hH ?_
              · (intro w hSw; (try dsimp only at hSw); go_split_ands; go_simp; try with_reducible rfl)
              try simp only [Act.put, List.setIfInBounds_toArray, List.set_cons_zero, List.set_cons_succ]
              refine wpAnyH_take_dst (i := 7) (v := .bool true) (d := some 84) rfl rfl (by kernel_rfl) (by kernel_rfl) (by kernel_rfl) (fun _ _ _ h => h) (Or.inl ⟨by rfl, ?_⟩) hH ?_
              · (intro w hSw; (try dsimp only at hSw); go_split_ands; go_simp; try with_reducible rfl)
              try simp only [Act.put, List.setIfInBounds_toArray, List.set_cons_zero, List.set_cons_succ]
              refine wpAnyH_ready (rs := [2]) (by kernel_rfl) (by simp) ?_
              refine AllReadyH.cons rfl (fun K hK => ?_) AllReadyH.nil
              rw [if_pos (by rfl)]
              go_wp2_with (go_at_call 21; (with_reducible refine ((c_iSameDepB HSB.out (HB13.out.ext hH.2.2.2.2.2.2.2.2).dq (HC13.out.ext hH.2.2.2.2.2.2.2.2).dq)).mono ?_); rintro e w9 ⟨rfl, hE9⟩)
              refine hK.out _ _ ⟨Ext.keep hE9 hH.1, Ext.keep hE9 hH.2.1, Ext.keep hE9 hH.2.2.1, Ext.keep hE9 hH.2.2.2.1, Ext.keep hE9 hH.2.2.2.2.1, Ext.keep hE9 hH.2.2.2.2.2.1, Ext.keep hE9 hH.2.2.2.2.2.2.1, Ext.keep hE9 hH.2.2.2.2.2.2.2.1, Ext.trans hH.2.2.2.2.2.2.2.2 hE9⟩ (fun hH9 => ?_)
              clear hK hH; have hH := hH9; clear hH9
              try simp only [Act.put, List.setIfInBounds_toArray, List.set_cons_zero, List.set_cons_succ]
              refine wpAnyH_take_dst (i := 8) (v := .bool true) (d := some 85) rfl rfl (by kernel_rfl) (by kernel_rfl) (by kernel_rfl) (fun _ _ _ h => h) (Or.inl ⟨by rfl, ?_⟩) hH ?_
              · (intro w hSw; (try dsimp only at hSw); go_split_ands; go_simp; try with_reducible rfl)
              try simp only [Act.put, List.setIfInBounds_toArray, List.set_cons_zero, List.set_cons_succ]
              refine wpAnyH_take_dst (i := 9) (v := .pointer (some ⟨e1, 3, none⟩)) (d := some 86) rfl rfl (by kernel_rfl) (by kernel_rfl) (by kernel_rfl) (fun _ _ _ h => h) (Or.inl ⟨by rfl, ?_⟩) hH ?_
              · (intro w hSw; (try dsimp only at hSw); go_split_ands; go_simp; try with_reducible rfl)
              try simp only [Act.put, List.setIfInBounds_toArray, List.set_cons_zero, List.set_cons_succ]
              refine wpAnyH_take_dst (i := 10) (v := .int .i64 p1.at_) (d := some 87) rfl rfl (by kernel_rfl) (by kernel_rfl) (by kernel_rfl) (fun _ _ _ h => h) (Or.inl ⟨by rfl, ?_⟩) hH ?_
              · (intro w hSw; (try dsimp only at hSw); go_split_ands; go_simp; try with_reducible rfl)
              try simp only [Act.put, List.setIfInBounds_toArray, List.set_cons_zero, List.set_cons_succ]
              refine wpAnyH_take_dst (i := 11) (v := .pointer (some ⟨e2, 3, none⟩)) (d := some 88) rfl rfl (by kernel_rfl) (by kernel_rfl) (by kernel_rfl) (fun _ _ _ h => h) (Or.inl ⟨by rfl, ?_⟩) hH ?_
              · (intro w hSw; (try dsimp only at hSw); go_split_ands; go_simp; try with_reducible rfl)
              try simp only [Act.put, List.setIfInBounds_toArray, List.set_cons_zero, List.set_cons_succ]
              refine wpAnyH_take_dst (i := 12) (v := .int .i64 p2.at_) (d := some 89) rfl rfl (by kernel_rfl) (by kernel_rfl) (by kernel_rfl) (fun _ _ _ h => h) (Or.inl ⟨by rfl, ?_⟩) hH ?_
              · (intro w hSw; (try dsimp only at hSw); go_split_ands; go_simp; try with_reducible rfl)
              try simp only [Act.put, List.setIfInBounds_toArray, List.set_cons_zero, List.set_cons_succ]
              refine wpAnyH_take_dst (i := 13) (v := .bool true) (d := some 90) rfl rfl (by kernel_rfl) (by kernel_rfl) (by kernel_rfl) (fun _ _ _ h => h) (Or.inl ⟨by rfl, ?_⟩) hH ?_
              · (intro w hSw; (try dsimp only at hSw); go_split_ands; go_simp; try with_reducible rfl)
              try simp only [Act.put, List.setIfInBounds_toArray, List.set_cons_zero, List.set_cons_succ]
              refine wpAnyH_take_dst (i := 14) (v := .bool true) (d := some 91) rfl rfl (by kernel_rfl) (by kernel_rfl) (by kernel_rfl) (fun _ _ _ h => h) (Or.inl ⟨by rfl, ?_⟩) hH ?_
              · (intro w hSw; (try dsimp only at hSw); go_split_ands; go_simp; try with_reducible rfl)
              try simp only [Act.put, List.setIfInBounds_toArray, List.set_cons_zero, List.set_cons_succ]
              refine wpAnyH_take_dst (i := 15) (v := .bool true) (d := some 92) rfl rfl (by kernel_rfl) (by kernel_rfl) (by kernel_rfl) (fun _ _ _ h => h) (Or.inl ⟨by rfl, ?_⟩) hH ?_
              · (intro w hSw; (try dsimp only at hSw); go_split_ands; go_simp; try with_reducible rfl)
              try simp only [Act.put, List.setIfInBounds_toArray, List.set_cons_zero, List.set_cons_succ]
              refine wpAnyH_take_dst (i := 16) (v := .bool true) (d := some 2) rfl rfl (by kernel_rfl) (by kernel_rfl) (by kernel_rfl) (fun _ _ _ h => h) (Or.inl ⟨by rfl, ?_⟩) hH ?_
              · (intro w hSw; (try dsimp only at hSw); go_split_ands; go_simp; try with_reducible rfl)
              try simp only [Act.put, List.setIfInBounds_toArray, List.set_cons_zero, List.set_cons_succ]
              refine wpAnyH_done (by kernel_rfl) ?_ _
              have hH2 := hH.2.2.2.2.2.2.2.2
              clear hH
              go_wp2_with fail
              go_ret
              exact ⟨by first | rfl | simp, Ext.trans hE013 hH2⟩
        | false =>
          go_quiet (fail)
          obtain ⟨w13, hw13⟩ : ∃ w13, w13 = w12.drewN nq := ⟨_, rfl⟩
          have hE1213 : Ext w12 w13 := by rw [hw13]; exact (Ext.refl w12).drewN nq
          rw [← hw13]
          have hE013 := Ext.trans hE012 hE1213
          have HB13 := Lib.hid (HB12.out.ext hE1213)
          have HC13 := Lib.hid (HC12.out.ext hE1213)
          clear hw13 hE1213 hcx hcy z0 z1 z2 z3 u0 u1 u2 u3
          have z0 := HB13.out.e0
          have z1 := HB13.out.e1
          have z2 := HB13.out.e2
          have z3 := HB13.out.e3
          have u0 := HC13.out.e0
          have u1 := HC13.out.e1
          have u2 := HC13.out.e2
          have u3 := HC13.out.e3
          cases hre : (p1.rule == p2.rule) with
          | false =>
            have HSB := Lib.hid (show p1.same p2 = false by rw [HSM.out, hre]; rfl)
            go_wp2_with fail
            refine wp_region_held_drew (S := (fun w' => w'.cell? ⟨e1, 0, none⟩ = some (.slice A1 n1 c1) ∧ w'.cell? ⟨e1, 1, none⟩ = some (.slice (some ⟨f1, g1, none⟩) n2 c2) ∧ w'.cell? ⟨e1, 2, none⟩ = some (.int .i64 p1.rule) ∧ w'.cell? ⟨e1, 3, none⟩ = some (.int .i64 p1.at_) ∧ w'.cell? ⟨e2, 0, none⟩ = some (.slice (some ⟨f2, g2, none⟩) m1 d1) ∧ w'.cell? ⟨e2, 1, none⟩ = some (.slice B2 m2 d2) ∧ w'.cell? ⟨e2, 2, none⟩ = some (.int .i64 p2.rule) ∧ w'.cell? ⟨e2, 3, none⟩ = some (.int .i64 p2.at_) ∧ Ext w13 w')) (by kernel_rfl) ?_ (fun hH => ?_)
            · exact ⟨z0, z1, z2, z3, u0, u1, u2, u3, (Ext.refl w13).drew⟩
            refine wpAnyH_take_dst (i := 0) (v := .agg #[.slice A1 n1 c1, .slice (some ⟨f1, g1, none⟩) n2 c2, .int .i64 p1.rule, .int .i64 p1.at_]) (d := some 77) rfl rfl (by kernel_rfl) (by kernel_rfl) (by kernel_rfl) (fun _ _ _ h => h) (Or.inl ⟨by rfl, ?_⟩) hH ?_
            · (intro w hSw; (try dsimp only at hSw); go_split_ands; go_simp; try with_reducible rfl)
            try simp only [Act.put, List.setIfInBounds_toArray, List.set_cons_zero, List.set_cons_succ]
            refine wpAnyH_take_dst (i := 1) (v := .agg #[.slice (some ⟨f2, g2, none⟩) m1 d1, .slice B2 m2 d2, .int .i64 p2.rule, .int .i64 p2.at_]) (d := some 78) rfl rfl (by kernel_rfl) (by kernel_rfl) (by kernel_rfl) (fun _ _ _ h => h) (Or.inl ⟨by rfl, ?_⟩) hH ?_
            · (intro w hSw; (try dsimp only at hSw); go_split_ands; go_simp; try with_reducible rfl)
            try simp only [Act.put, List.setIfInBounds_toArray, List.set_cons_zero, List.set_cons_succ]
            refine wpAnyH_take_dst (i := 3) (v := .pointer (some ⟨e1, 2, none⟩)) (d := some 80) rfl rfl (by kernel_rfl) (by kernel_rfl) (by kernel_rfl) (fun _ _ _ h => h) (Or.inl ⟨by rfl, ?_⟩) hH ?_
            · (intro w hSw; (try dsimp only at hSw); go_split_ands; go_simp; try with_reducible rfl)
            try simp only [Act.put, List.setIfInBounds_toArray, List.set_cons_zero, List.set_cons_succ]
            refine wpAnyH_take_dst (i := 4) (v := .int .i64 p1.rule) (d := some 81) rfl rfl (by kernel_rfl) (by kernel_rfl) (by kernel_rfl) (fun _ _ _ h => h) (Or.inl ⟨by rfl, ?_⟩) hH ?_
            · (intro w hSw; (try dsimp only at hSw); go_split_ands; go_simp; try with_reducible rfl)
            try simp only [Act.put, List.setIfInBounds_toArray, List.set_cons_zero, List.set_cons_succ]
            refine wpAnyH_take_dst (i := 5) (v := .pointer (some ⟨e2, 2, none⟩)) (d := some 82) rfl rfl (by kernel_rfl) (by kernel_rfl) (by kernel_rfl) (fun _ _ _ h => h) (Or.inl ⟨by rfl, ?_⟩) hH ?_
            · (intro w hSw; (try dsimp only at hSw); go_split_ands; go_simp; try with_reducible rfl)
            try simp only [Act.put, List.setIfInBounds_toArray, List.set_cons_zero, List.set_cons_succ]
            refine wpAnyH_take_dst (i := 6) (v := .int .i64 p2.rule) (d := some 83) rfl rfl (by kernel_rfl) (by kernel_rfl) (by kernel_rfl) (fun _ _ _ h => h) (Or.inl ⟨by rfl, ?_⟩) hH ?_
            · (intro w hSw; (try dsimp only at hSw); go_split_ands; go_simp; try with_reducible rfl)
            try simp only [Act.put, List.setIfInBounds_toArray, List.set_cons_zero, List.set_cons_succ]
            refine wpAnyH_take_dst (i := 7) (v := .bool false) (d := some 84) rfl rfl (by kernel_rfl) (by kernel_rfl) (by kernel_rfl) (fun _ _ _ h => h) (Or.inl ⟨by rfl, ?_⟩) hH ?_
            · (intro w hSw; (try dsimp only at hSw); go_split_ands; go_simp; try with_reducible rfl)
            try simp only [Act.put, List.setIfInBounds_toArray, List.set_cons_zero, List.set_cons_succ]
            refine wpAnyH_ready (rs := [2]) (by kernel_rfl) (by simp) ?_
            refine AllReadyH.cons rfl (fun K hK => ?_) AllReadyH.nil
            rw [if_pos (by rfl)]
            go_wp2_with (go_at_call 21; (with_reducible refine ((c_iSameDepB HSB.out (HB13.out.ext hH.2.2.2.2.2.2.2.2).dq (HC13.out.ext hH.2.2.2.2.2.2.2.2).dq)).mono ?_); rintro e w9 ⟨rfl, hE9⟩)
            refine hK.out _ _ ⟨Ext.keep hE9 hH.1, Ext.keep hE9 hH.2.1, Ext.keep hE9 hH.2.2.1, Ext.keep hE9 hH.2.2.2.1, Ext.keep hE9 hH.2.2.2.2.1, Ext.keep hE9 hH.2.2.2.2.2.1, Ext.keep hE9 hH.2.2.2.2.2.2.1, Ext.keep hE9 hH.2.2.2.2.2.2.2.1, Ext.trans hH.2.2.2.2.2.2.2.2 hE9⟩ (fun hH9 => ?_)
            clear hK hH; have hH := hH9; clear hH9
            try simp only [Act.put, List.setIfInBounds_toArray, List.set_cons_zero, List.set_cons_succ]
            refine wpAnyH_take_dst (i := 8) (v := .bool false) (d := some 85) rfl rfl (by kernel_rfl) (by kernel_rfl) (by kernel_rfl) (fun _ _ _ h => h) (Or.inl ⟨by rfl, ?_⟩) hH ?_
            · (intro w hSw; (try dsimp only at hSw); go_split_ands; go_simp; try with_reducible rfl)
            try simp only [Act.put, List.setIfInBounds_toArray, List.set_cons_zero, List.set_cons_succ]
            refine wpAnyH_take_dst (i := 9) (v := undef) (d := some 86) rfl rfl (by kernel_rfl) (by kernel_rfl) (by kernel_rfl) (fun _ _ _ h => h) (Or.inr ⟨by rfl, rfl⟩) hH ?_
            try simp only [Act.put, List.setIfInBounds_toArray, List.set_cons_zero, List.set_cons_succ]
            refine wpAnyH_take_dst (i := 10) (v := undef) (d := some 87) rfl rfl (by kernel_rfl) (by kernel_rfl) (by kernel_rfl) (fun _ _ _ h => h) (Or.inr ⟨by rfl, rfl⟩) hH ?_
            try simp only [Act.put, List.setIfInBounds_toArray, List.set_cons_zero, List.set_cons_succ]
            refine wpAnyH_take_dst (i := 11) (v := undef) (d := some 88) rfl rfl (by kernel_rfl) (by kernel_rfl) (by kernel_rfl) (fun _ _ _ h => h) (Or.inr ⟨by rfl, rfl⟩) hH ?_
            try simp only [Act.put, List.setIfInBounds_toArray, List.set_cons_zero, List.set_cons_succ]
            refine wpAnyH_take_dst (i := 12) (v := undef) (d := some 89) rfl rfl (by kernel_rfl) (by kernel_rfl) (by kernel_rfl) (fun _ _ _ h => h) (Or.inr ⟨by rfl, rfl⟩) hH ?_
            try simp only [Act.put, List.setIfInBounds_toArray, List.set_cons_zero, List.set_cons_succ]
            refine wpAnyH_take_dst (i := 13) (v := undef) (d := some 90) rfl rfl (by kernel_rfl) (by kernel_rfl) (by kernel_rfl) (fun _ _ _ h => h) (Or.inr ⟨by rfl, rfl⟩) hH ?_
            try simp only [Act.put, List.setIfInBounds_toArray, List.set_cons_zero, List.set_cons_succ]
            refine wpAnyH_take_dst (i := 14) (v := .bool false) (d := some 91) rfl rfl (by kernel_rfl) (by kernel_rfl) (by kernel_rfl) (fun _ _ _ h => h) (Or.inl ⟨by rfl, ?_⟩) hH ?_
            · (intro w hSw; (try dsimp only at hSw); go_split_ands; go_simp; try with_reducible rfl)
            try simp only [Act.put, List.setIfInBounds_toArray, List.set_cons_zero, List.set_cons_succ]
            refine wpAnyH_take_dst (i := 15) (v := .bool true) (d := some 92) rfl rfl (by kernel_rfl) (by kernel_rfl) (by kernel_rfl) (fun _ _ _ h => h) (Or.inl ⟨by rfl, ?_⟩) hH ?_
            · (intro w hSw; (try dsimp only at hSw); go_split_ands; go_simp; try with_reducible rfl)
            try simp only [Act.put, List.setIfInBounds_toArray, List.set_cons_zero, List.set_cons_succ]
            refine wpAnyH_take_dst (i := 16) (v := .bool true) (d := some 2) rfl rfl (by kernel_rfl) (by kernel_rfl) (by kernel_rfl) (fun _ _ _ h => h) (Or.inl ⟨by rfl, ?_⟩) hH ?_
            · (intro w hSw; (try dsimp only at hSw); go_split_ands; go_simp; try with_reducible rfl)
            try simp only [Act.put, List.setIfInBounds_toArray, List.set_cons_zero, List.set_cons_succ]
            refine wpAnyH_done (by kernel_rfl) ?_ _
            have hH2 := hH.2.2.2.2.2.2.2.2
            clear hH
            go_wp2_with fail
            go_ret
            exact ⟨by first | rfl | simp, Ext.trans hE013 hH2⟩
          | true =>
            cases hae : (p1.at_ == p2.at_) with
            | false =>
              have HSB := Lib.hid (show p1.same p2 = false by rw [HSM.out, hre, hae]; rfl)
              go_wp2_with fail
              refine wp_region_held_drew (S := (fun w' => w'.cell? ⟨e1, 0, none⟩ = some (.slice A1 n1 c1) ∧ w'.cell? ⟨e1, 1, none⟩ = some (.slice (some ⟨f1, g1, none⟩) n2 c2) ∧ w'.cell? ⟨e1, 2, none⟩ = some (.int .i64 p1.rule) ∧ w'.cell? ⟨e1, 3, none⟩ = some (.int .i64 p1.at_) ∧ w'.cell? ⟨e2, 0, none⟩ = some (.slice (some ⟨f2, g2, none⟩) m1 d1) ∧ w'.cell? ⟨e2, 1, none⟩ = some (.slice B2 m2 d2) ∧ w'.cell? ⟨e2, 2, none⟩ = some (.int .i64 p2.rule) ∧ w'.cell? ⟨e2, 3, none⟩ = some (.int .i64 p2.at_) ∧ Ext w13 w')) (by kernel_rfl) ?_ (fun hH => ?_)
              · exact ⟨z0, z1, z2, z3, u0, u1, u2, u3, (Ext.refl w13).drew⟩
              refine wpAnyH_take_dst (i := 0) (v := .agg #[.slice A1 n1 c1, .slice (some ⟨f1, g1, none⟩) n2 c2, .int .i64 p1.rule, .int .i64 p1.at_]) (d := some 77) rfl rfl (by kernel_rfl) (by kernel_rfl) (by kernel_rfl) (fun _ _ _ h => h) (Or.inl ⟨by rfl, ?_⟩) hH ?_
              · (intro w hSw; (try dsimp only at hSw); go_split_ands; go_simp; try with_reducible rfl)
              try simp only [Act.put, List.setIfInBounds_toArray, List.set_cons_zero, List.set_cons_succ]
              refine wpAnyH_take_dst (i := 1) (v := .agg #[.slice (some ⟨f2, g2, none⟩) m1 d1, .slice B2 m2 d2, .int .i64 p2.rule, .int .i64 p2.at_]) (d := some 78) rfl rfl (by kernel_rfl) (by kernel_rfl) (by kernel_rfl) (fun _ _ _ h => h) (Or.inl ⟨by rfl, ?_⟩) hH ?_
              · (intro w hSw; (try dsimp only at hSw); go_split_ands; go_simp; try with_reducible rfl)
              try simp only [Act.put, List.setIfInBounds_toArray, List.set_cons_zero, List.set_cons_succ]
              refine wpAnyH_take_dst (i := 3) (v := .pointer (some ⟨e1, 2, none⟩)) (d := some 80) rfl rfl (by kernel_rfl) (by kernel_rfl) (by kernel_rfl) (fun _ _ _ h => h) (Or.inl ⟨by rfl, ?_⟩) hH ?_
              · (intro w hSw; (try dsimp only at hSw); go_split_ands; go_simp; try with_reducible rfl)
              try simp only [Act.put, List.setIfInBounds_toArray, List.set_cons_zero, List.set_cons_succ]
              refine wpAnyH_take_dst (i := 4) (v := .int .i64 p1.rule) (d := some 81) rfl rfl (by kernel_rfl) (by kernel_rfl) (by kernel_rfl) (fun _ _ _ h => h) (Or.inl ⟨by rfl, ?_⟩) hH ?_
              · (intro w hSw; (try dsimp only at hSw); go_split_ands; go_simp; try with_reducible rfl)
              try simp only [Act.put, List.setIfInBounds_toArray, List.set_cons_zero, List.set_cons_succ]
              refine wpAnyH_take_dst (i := 5) (v := .pointer (some ⟨e2, 2, none⟩)) (d := some 82) rfl rfl (by kernel_rfl) (by kernel_rfl) (by kernel_rfl) (fun _ _ _ h => h) (Or.inl ⟨by rfl, ?_⟩) hH ?_
              · (intro w hSw; (try dsimp only at hSw); go_split_ands; go_simp; try with_reducible rfl)
              try simp only [Act.put, List.setIfInBounds_toArray, List.set_cons_zero, List.set_cons_succ]
              refine wpAnyH_take_dst (i := 6) (v := .int .i64 p2.rule) (d := some 83) rfl rfl (by kernel_rfl) (by kernel_rfl) (by kernel_rfl) (fun _ _ _ h => h) (Or.inl ⟨by rfl, ?_⟩) hH ?_
              · (intro w hSw; (try dsimp only at hSw); go_split_ands; go_simp; try with_reducible rfl)
              try simp only [Act.put, List.setIfInBounds_toArray, List.set_cons_zero, List.set_cons_succ]
              refine wpAnyH_take_dst (i := 7) (v := .bool true) (d := some 84) rfl rfl (by kernel_rfl) (by kernel_rfl) (by kernel_rfl) (fun _ _ _ h => h) (Or.inl ⟨by rfl, ?_⟩) hH ?_
              · (intro w hSw; (try dsimp only at hSw); go_split_ands; go_simp; try with_reducible rfl)
              try simp only [Act.put, List.setIfInBounds_toArray, List.set_cons_zero, List.set_cons_succ]
              refine wpAnyH_ready (rs := [2]) (by kernel_rfl) (by simp) ?_
              refine AllReadyH.cons rfl (fun K hK => ?_) AllReadyH.nil
              rw [if_pos (by rfl)]
              go_wp2_with (go_at_call 21; (with_reducible refine ((c_iSameDepB HSB.out (HB13.out.ext hH.2.2.2.2.2.2.2.2).dq (HC13.out.ext hH.2.2.2.2.2.2.2.2).dq)).mono ?_); rintro e w9 ⟨rfl, hE9⟩)
              refine hK.out _ _ ⟨Ext.keep hE9 hH.1, Ext.keep hE9 hH.2.1, Ext.keep hE9 hH.2.2.1, Ext.keep hE9 hH.2.2.2.1, Ext.keep hE9 hH.2.2.2.2.1, Ext.keep hE9 hH.2.2.2.2.2.1, Ext.keep hE9 hH.2.2.2.2.2.2.1, Ext.keep hE9 hH.2.2.2.2.2.2.2.1, Ext.trans hH.2.2.2.2.2.2.2.2 hE9⟩ (fun hH9 => ?_)
              clear hK hH; have hH := hH9; clear hH9
              try simp only [Act.put, List.setIfInBounds_toArray, List.set_cons_zero, List.set_cons_succ]
              refine wpAnyH_take_dst (i := 8) (v := .bool true) (d := some 85) rfl rfl (by kernel_rfl) (by kernel_rfl) (by kernel_rfl) (fun _ _ _ h => h) (Or.inl ⟨by rfl, ?_⟩) hH ?_
              · (intro w hSw; (try dsimp only at hSw); go_split_ands; go_simp; try with_reducible rfl)
              try simp only [Act.put, List.setIfInBounds_toArray, List.set_cons_zero, List.set_cons_succ]
              refine wpAnyH_take_dst (i := 9) (v := .pointer (some ⟨e1, 3, none⟩)) (d := some 86) rfl rfl (by kernel_rfl) (by kernel_rfl) (by kernel_rfl) (fun _ _ _ h => h) (Or.inl ⟨by rfl, ?_⟩) hH ?_
              · (intro w hSw; (try dsimp only at hSw); go_split_ands; go_simp; try with_reducible rfl)
              try simp only [Act.put, List.setIfInBounds_toArray, List.set_cons_zero, List.set_cons_succ]
              refine wpAnyH_take_dst (i := 10) (v := .int .i64 p1.at_) (d := some 87) rfl rfl (by kernel_rfl) (by kernel_rfl) (by kernel_rfl) (fun _ _ _ h => h) (Or.inl ⟨by rfl, ?_⟩) hH ?_
              · (intro w hSw; (try dsimp only at hSw); go_split_ands; go_simp; try with_reducible rfl)
              try simp only [Act.put, List.setIfInBounds_toArray, List.set_cons_zero, List.set_cons_succ]
              refine wpAnyH_take_dst (i := 11) (v := .pointer (some ⟨e2, 3, none⟩)) (d := some 88) rfl rfl (by kernel_rfl) (by kernel_rfl) (by kernel_rfl) (fun _ _ _ h => h) (Or.inl ⟨by rfl, ?_⟩) hH ?_
              · (intro w hSw; (try dsimp only at hSw); go_split_ands; go_simp; try with_reducible rfl)
              try simp only [Act.put, List.setIfInBounds_toArray, List.set_cons_zero, List.set_cons_succ]
              refine wpAnyH_take_dst (i := 12) (v := .int .i64 p2.at_) (d := some 89) rfl rfl (by kernel_rfl) (by kernel_rfl) (by kernel_rfl) (fun _ _ _ h => h) (Or.inl ⟨by rfl, ?_⟩) hH ?_
              · (intro w hSw; (try dsimp only at hSw); go_split_ands; go_simp; try with_reducible rfl)
              try simp only [Act.put, List.setIfInBounds_toArray, List.set_cons_zero, List.set_cons_succ]
              refine wpAnyH_take_dst (i := 13) (v := .bool false) (d := some 90) rfl rfl (by kernel_rfl) (by kernel_rfl) (by kernel_rfl) (fun _ _ _ h => h) (Or.inl ⟨by rfl, ?_⟩) hH ?_
              · (intro w hSw; (try dsimp only at hSw); go_split_ands; go_simp; try with_reducible rfl)
              try simp only [Act.put, List.setIfInBounds_toArray, List.set_cons_zero, List.set_cons_succ]
              refine wpAnyH_take_dst (i := 14) (v := .bool false) (d := some 91) rfl rfl (by kernel_rfl) (by kernel_rfl) (by kernel_rfl) (fun _ _ _ h => h) (Or.inl ⟨by rfl, ?_⟩) hH ?_
              · (intro w hSw; (try dsimp only at hSw); go_split_ands; go_simp; try with_reducible rfl)
              try simp only [Act.put, List.setIfInBounds_toArray, List.set_cons_zero, List.set_cons_succ]
              refine wpAnyH_take_dst (i := 15) (v := .bool true) (d := some 92) rfl rfl (by kernel_rfl) (by kernel_rfl) (by kernel_rfl) (fun _ _ _ h => h) (Or.inl ⟨by rfl, ?_⟩) hH ?_
              · (intro w hSw; (try dsimp only at hSw); go_split_ands; go_simp; try with_reducible rfl)
              try simp only [Act.put, List.setIfInBounds_toArray, List.set_cons_zero, List.set_cons_succ]
              refine wpAnyH_take_dst (i := 16) (v := .bool true) (d := some 2) rfl rfl (by kernel_rfl) (by kernel_rfl) (by kernel_rfl) (fun _ _ _ h => h) (Or.inl ⟨by rfl, ?_⟩) hH ?_
              · (intro w hSw; (try dsimp only at hSw); go_split_ands; go_simp; try with_reducible rfl)
              try simp only [Act.put, List.setIfInBounds_toArray, List.set_cons_zero, List.set_cons_succ]
              refine wpAnyH_done (by kernel_rfl) ?_ _
              have hH2 := hH.2.2.2.2.2.2.2.2
              clear hH
              go_wp2_with fail
              go_ret
              exact ⟨by first | rfl | simp, Ext.trans hE013 hH2⟩
            | true =>
              have HSB := Lib.hid (show p1.same p2 = true by rw [HSM.out, hre, hae]; rfl)
              go_wp2_with fail
              refine wp_region_held_drew (S := (fun w' => w'.cell? ⟨e1, 0, none⟩ = some (.slice A1 n1 c1) ∧ w'.cell? ⟨e1, 1, none⟩ = some (.slice (some ⟨f1, g1, none⟩) n2 c2) ∧ w'.cell? ⟨e1, 2, none⟩ = some (.int .i64 p1.rule) ∧ w'.cell? ⟨e1, 3, none⟩ = some (.int .i64 p1.at_) ∧ w'.cell? ⟨e2, 0, none⟩ = some (.slice (some ⟨f2, g2, none⟩) m1 d1) ∧ w'.cell? ⟨e2, 1, none⟩ = some (.slice B2 m2 d2) ∧ w'.cell? ⟨e2, 2, none⟩ = some (.int .i64 p2.rule) ∧ w'.cell? ⟨e2, 3, none⟩ = some (.int .i64 p2.at_) ∧ Ext w13 w')) (by kernel_rfl) ?_ (fun hH => ?_)
              · exact ⟨z0, z1, z2, z3, u0, u1, u2, u3, (Ext.refl w13).drew⟩
              refine wpAnyH_take_dst (i := 0) (v := .agg #[.slice A1 n1 c1, .slice (some ⟨f1, g1, none⟩) n2 c2, .int .i64 p1.rule, .int .i64 p1.at_]) (d := some 77) rfl rfl (by kernel_rfl) (by kernel_rfl) (by kernel_rfl) (fun _ _ _ h => h) (Or.inl ⟨by rfl, ?_⟩) hH ?_
              · (intro w hSw; (try dsimp only at hSw); go_split_ands; go_simp; try with_reducible rfl)
              try simp only [Act.put, List.setIfInBounds_toArray, List.set_cons_zero, List.set_cons_succ]
              refine wpAnyH_take_dst (i := 1) (v := .agg #[.slice (some ⟨f2, g2, none⟩) m1 d1, .slice B2 m2 d2, .int .i64 p2.rule, .int .i64 p2.at_]) (d := some 78) rfl rfl (by kernel_rfl) (by kernel_rfl) (by kernel_rfl) (fun _ _ _ h => h) (Or.inl ⟨by rfl, ?_⟩) hH ?_
              · (intro w hSw; (try dsimp only at hSw); go_split_ands; go_simp; try with_reducible rfl)
              try simp only [Act.put, List.setIfInBounds_toArray, List.set_cons_zero, List.set_cons_succ]
              refine wpAnyH_take_dst (i := 3) (v := .pointer (some ⟨e1, 2, none⟩)) (d := some 80) rfl rfl (by kernel_rfl) (by kernel_rfl) (by kernel_rfl) (fun _ _ _ h => h) (Or.inl ⟨by rfl, ?_⟩) hH ?_
              · (intro w hSw; (try dsimp only at hSw); go_split_ands; go_simp; try with_reducible rfl)
              try simp only [Act.put, List.setIfInBounds_toArray, List.set_cons_zero, List.set_cons_succ]
              refine wpAnyH_take_dst (i := 4) (v := .int .i64 p1.rule) (d := some 81) rfl rfl (by kernel_rfl) (by kernel_rfl) (by kernel_rfl) (fun _ _ _ h => h) (Or.inl ⟨by rfl, ?_⟩) hH ?_
              · (intro w hSw; (try dsimp only at hSw); go_split_ands; go_simp; try with_reducible rfl)
              try simp only [Act.put, List.setIfInBounds_toArray, List.set_cons_zero, List.set_cons_succ]
              refine wpAnyH_take_dst (i := 5) (v := .pointer (some ⟨e2, 2, none⟩)) (d := some 82) rfl rfl (by kernel_rfl) (by kernel_rfl) (by kernel_rfl) (fun _ _ _ h => h) (Or.inl ⟨by rfl, ?_⟩) hH ?_
              · (intro w hSw; (try dsimp only at hSw); go_split_ands; go_simp; try with_reducible rfl)
              try simp only [Act.put, List.setIfInBounds_toArray, List.set_cons_zero, List.set_cons_succ]
              refine wpAnyH_take_dst (i := 6) (v := .int .i64 p2.rule) (d := some 83) rfl rfl (by kernel_rfl) (by kernel_rfl) (by kernel_rfl) (fun _ _ _ h => h) (Or.inl ⟨by rfl, ?_⟩) hH ?_
              · (intro w hSw; (try dsimp only at hSw); go_split_ands; go_simp; try with_reducible rfl)
              try simp only [Act.put, List.setIfInBounds_toArray, List.set_cons_zero, List.set_cons_succ]
              refine wpAnyH_take_dst (i := 7) (v := .bool true) (d := some 84) rfl rfl (by kernel_rfl) (by kernel_rfl) (by kernel_rfl) (fun _ _ _ h => h) (Or.inl ⟨by rfl, ?_⟩) hH ?_
              · (intro w hSw; (try dsimp only at hSw); go_split_ands; go_simp; try with_reducible rfl)
              try simp only [Act.put, List.setIfInBounds_toArray, List.set_cons_zero, List.set_cons_succ]
              refine wpAnyH_ready (rs := [2]) (by kernel_rfl) (by simp) ?_
              refine AllReadyH.cons rfl (fun K hK => ?_) AllReadyH.nil
              rw [if_pos (by rfl)]
              go_wp2_with (go_at_call 21; (with_reducible refine ((c_iSameDepB HSB.out (HB13.out.ext hH.2.2.2.2.2.2.2.2).dq (HC13.out.ext hH.2.2.2.2.2.2.2.2).dq)).mono ?_); rintro e w9 ⟨rfl, hE9⟩)
              refine hK.out _ _ ⟨Ext.keep hE9 hH.1, Ext.keep hE9 hH.2.1, Ext.keep hE9 hH.2.2.1, Ext.keep hE9 hH.2.2.2.1, Ext.keep hE9 hH.2.2.2.2.1, Ext.keep hE9 hH.2.2.2.2.2.1, Ext.keep hE9 hH.2.2.2.2.2.2.1, Ext.keep hE9 hH.2.2.2.2.2.2.2.1, Ext.trans hH.2.2.2.2.2.2.2.2 hE9⟩ (fun hH9 => ?_)
              clear hK hH; have hH := hH9; clear hH9
              try simp only [Act.put, List.setIfInBounds_toArray, List.set_cons_zero, List.set_cons_succ]
              refine wpAnyH_take_dst (i := 8) (v := .bool true) (d := some 85) rfl rfl (by kernel_rfl) (by kernel_rfl) (by kernel_rfl) (fun _ _ _ h => h) (Or.inl ⟨by rfl, ?_⟩) hH ?_
              · (intro w hSw; (try dsimp only at hSw); go_split_ands; go_simp; try with_reducible rfl)
              try simp only [Act.put, List.setIfInBounds_toArray, List.set_cons_zero, List.set_cons_succ]
              refine wpAnyH_take_dst (i := 9) (v := .pointer (some ⟨e1, 3, none⟩)) (d := some 86) rfl rfl (by kernel_rfl) (by kernel_rfl) (by kernel_rfl) (fun _ _ _ h => h) (Or.inl ⟨by rfl, ?_⟩) hH ?_
              · (intro w hSw; (try dsimp only at hSw); go_split_ands; go_simp; try with_reducible rfl)
              try simp only [Act.put, List.setIfInBounds_toArray, List.set_cons_zero, List.set_cons_succ]
              refine wpAnyH_take_dst (i := 10) (v := .int .i64 p1.at_) (d := some 87) rfl rfl (by kernel_rfl) (by kernel_rfl) (by kernel_rfl) (fun _ _ _ h => h) (Or.inl ⟨by rfl, ?_⟩) hH ?_
              · (intro w hSw; (try dsimp only at hSw); go_split_ands; go_simp; try with_reducible rfl)
              try simp only [Act.put, List.setIfInBounds_toArray, List.set_cons_zero, List.set_cons_succ]
              refine wpAnyH_take_dst (i := 11) (v := .pointer (some ⟨e2, 3, none⟩)) (d := some 88) rfl rfl (by kernel_rfl) (by kernel_rfl) (by kernel_rfl) (fun _ _ _ h => h) (Or.inl ⟨by rfl, ?_⟩) hH ?_
              · (intro w hSw; (try dsimp only at hSw); go_split_ands; go_simp; try with_reducible rfl)
              try simp only [Act.put, List.setIfInBounds_toArray, List.set_cons_zero, List.set_cons_succ]
              refine wpAnyH_take_dst (i := 12) (v := .int .i64 p2.at_) (d := some 89) rfl rfl (by kernel_rfl) (by kernel_rfl) (by kernel_rfl) (fun _ _ _ h => h) (Or.inl ⟨by rfl, ?_⟩) hH ?_
              · (intro w hSw; (try dsimp only at hSw); go_split_ands; go_simp; try with_reducible rfl)
              try simp only [Act.put, List.setIfInBounds_toArray, List.set_cons_zero, List.set_cons_succ]
              refine wpAnyH_take_dst (i := 13) (v := .bool true) (d := some 90) rfl rfl (by kernel_rfl) (by kernel_rfl) (by kernel_rfl) (fun _ _ _ h => h) (Or.inl ⟨by rfl, ?_⟩) hH ?_
              · (intro w hSw; (try dsimp only at hSw); go_split_ands; go_simp; try with_reducible rfl)
              try simp only [Act.put, List.setIfInBounds_toArray, List.set_cons_zero, List.set_cons_succ]
              refine wpAnyH_take_dst (i := 14) (v := .bool true) (d := some 91) rfl rfl (by kernel_rfl) (by kernel_rfl) (by kernel_rfl) (fun _ _ _ h => h) (Or.inl ⟨by rfl, ?_⟩) hH ?_
              · (intro w hSw; (try dsimp only at hSw); go_split_ands; go_simp; try with_reducible rfl)
              try simp only [Act.put, List.setIfInBounds_toArray, List.set_cons_zero, List.set_cons_succ]
              refine wpAnyH_take_dst (i := 15) (v := .bool true) (d := some 92) rfl rfl (by kernel_rfl) (by kernel_rfl) (by kernel_rfl) (fun _ _ _ h => h) (Or.inl ⟨by rfl, ?_⟩) hH ?_
              · (intro w hSw; (try dsimp only at hSw); go_split_ands; go_simp; try with_reducible rfl)
              try simp only [Act.put, List.setIfInBounds_toArray, List.set_cons_zero, List.set_cons_succ]
              refine wpAnyH_take_dst (i := 16) (v := .bool true) (d := some 2) rfl rfl (by kernel_rfl) (by kernel_rfl) (by kernel_rfl) (fun _ _ _ h => h) (Or.inl ⟨by rfl, ?_⟩) hH ?_
              · (intro w hSw; (try dsimp only at hSw); go_split_ands; go_simp; try with_reducible rfl)
              try simp only [Act.put, List.setIfInBounds_toArray, List.set_cons_zero, List.set_cons_succ]
              refine wpAnyH_done (by kernel_rfl) ?_ _
              have hH2 := hH.2.2.2.2.2.2.2.2
              clear hH
              go_wp2_with fail
              go_ret
              exact ⟨by first | rfl | simp, Ext.trans hE013 hH2⟩
      | false =>
        cases dd with
        | true => exact absurd (HU.out rfl) (by simp)
        | false =>
          go_quiet (fail)
          obtain ⟨w13, hw13⟩ : ∃ w13, w13 = w12.drewN nq := ⟨_, rfl⟩
          have hE1213 : Ext w12 w13 := by rw [hw13]; exact (Ext.refl w12).drewN nq
          rw [← hw13]
          have hE013 := Ext.trans hE012 hE1213
          have HB13 := Lib.hid (HB12.out.ext hE1213)
          have HC13 := Lib.hid (HC12.out.ext hE1213)
          clear hw13 hE1213 hcx hcy z0 z1 z2 z3 u0 u1 u2 u3
          have z0 := HB13.out.e0
          have z1 := HB13.out.e1
          have z2 := HB13.out.e2
          have z3 := HB13.out.e3
          have u0 := HC13.out.e0
          have u1 := HC13.out.e1
          have u2 := HC13.out.e2
          have u3 := HC13.out.e3
          cases hre : (p1.rule == p2.rule) with
          | false =>
            have HSB := Lib.hid (show p1.same p2 = false by rw [HSM.out, hre]; rfl)
            go_wp2_with fail
            refine wp_region_held_drew (S := (fun w' => w'.cell? ⟨e1, 0, none⟩ = some (.slice A1 n1 c1) ∧ w'.cell? ⟨e1, 1, none⟩ = some (.slice (some ⟨f1, g1, none⟩) n2 c2) ∧ w'.cell? ⟨e1, 2, none⟩ = some (.int .i64 p1.rule) ∧ w'.cell? ⟨e1, 3, none⟩ = some (.int .i64 p1.at_) ∧ w'.cell? ⟨e2, 0, none⟩ = some (.slice (some ⟨f2, g2, none⟩) m1 d1) ∧ w'.cell? ⟨e2, 1, none⟩ = some (.slice B2 m2 d2) ∧ w'.cell? ⟨e2, 2, none⟩ = some (.int .i64 p2.rule) ∧ w'.cell? ⟨e2, 3, none⟩ = some (.int .i64 p2.at_) ∧ Ext w13 w')) (by kernel_rfl) ?_ (fun hH => ?_)
            · exact ⟨z0, z1, z2, z3, u0, u1, u2, u3, (Ext.refl w13).drew⟩
            refine wpAnyH_take_dst (i := 0) (v := .agg #[.slice A1 n1 c1, .slice (some ⟨f1, g1, none⟩) n2 c2, .int .i64 p1.rule, .int .i64 p1.at_]) (d := some 77) rfl rfl (by kernel_rfl) (by kernel_rfl) (by kernel_rfl) (fun _ _ _ h => h) (Or.inl ⟨by rfl, ?_⟩) hH ?_
            · (intro w hSw; (try dsimp only at hSw); go_split_ands; go_simp; try with_reducible rfl)
            try simp only [Act.put, List.setIfInBounds_toArray, List.set_cons_zero, List.set_cons_succ]
            refine wpAnyH_take_dst (i := 1) (v := .agg #[.slice (some ⟨f2, g2, none⟩) m1 d1, .slice B2 m2 d2, .int .i64 p2.rule, .int .i64 p2.at_]) (d := some 78) rfl rfl (by kernel_rfl) (by kernel_rfl) (by kernel_rfl) (fun _ _ _ h => h) (Or.inl ⟨by rfl, ?_⟩) hH ?_
            · (intro w hSw; (try dsimp only at hSw); go_split_ands; go_simp; try with_reducible rfl)
            try simp only [Act.put, List.setIfInBounds_toArray, List.set_cons_zero, List.set_cons_succ]
            refine wpAnyH_take_dst (i := 3) (v := .pointer (some ⟨e1, 2, none⟩)) (d := some 80) rfl rfl (by kernel_rfl) (by kernel_rfl) (by kernel_rfl) (fun _ _ _ h => h) (Or.inl ⟨by rfl, ?_⟩) hH ?_
            · (intro w hSw; (try dsimp only at hSw); go_split_ands; go_simp; try with_reducible rfl)
            try simp only [Act.put, List.setIfInBounds_toArray, List.set_cons_zero, List.set_cons_succ]
            refine wpAnyH_take_dst (i := 4) (v := .int .i64 p1.rule) (d := some 81) rfl rfl (by kernel_rfl) (by kernel_rfl) (by kernel_rfl) (fun _ _ _ h => h) (Or.inl ⟨by rfl, ?_⟩) hH ?_
            · (intro w hSw; (try dsimp only at hSw); go_split_ands; go_simp; try with_reducible rfl)
            try simp only [Act.put, List.setIfInBounds_toArray, List.set_cons_zero, List.set_cons_succ]
            refine wpAnyH_take_dst (i := 5) (v := .pointer (some ⟨e2, 2, none⟩)) (d := some 82) rfl rfl (by kernel_rfl) (by kernel_rfl) (by kernel_rfl) (fun _ _ _ h => h) (Or.inl ⟨by rfl, ?_⟩) hH ?_
            · (intro w hSw; (try dsimp only at hSw); go_split_ands; go_simp; try with_reducible rfl)
            try simp only [Act.put, List.setIfInBounds_toArray, List.set_cons_zero, List.set_cons_succ]
            refine wpAnyH_take_dst (i := 6) (v := .int .i64 p2.rule) (d := some 83) rfl rfl (by kernel_rfl) (by kernel_rfl) (by kernel_rfl) (fun _ _ _ h => h) (Or.inl ⟨by rfl, ?_⟩) hH ?_
            · (intro w hSw; (try dsimp only at hSw); go_split_ands; go_simp; try with_reducible rfl)
            try simp only [Act.put, List.setIfInBounds_toArray, List.set_cons_zero, List.set_cons_succ]
            refine wpAnyH_take_dst (i := 7) (v := .bool false) (d := some 84) rfl rfl (by kernel_rfl) (by kernel_rfl) (by kernel_rfl) (fun _ _ _ h => h) (Or.inl ⟨by rfl, ?_⟩) hH ?_
            · (intro w hSw; (try dsimp only at hSw); go_split_ands; go_simp; try with_reducible rfl)
            try simp only [Act.put, List.setIfInBounds_toArray, List.set_cons_zero, List.set_cons_succ]
            refine wpAnyH_ready (rs := [2]) (by kernel_rfl) (by simp) ?_
            refine AllReadyH.cons rfl (fun K hK => ?_) AllReadyH.nil
            rw [if_pos (by rfl)]
            go_wp2_with (go_at_call 21; (with_reducible refine ((c_iSameDepB HSB.out (HB13.out.ext hH.2.2.2.2.2.2.2.2).dq (HC13.out.ext hH.2.2.2.2.2.2.2.2).dq)).mono ?_); rintro e w9 ⟨rfl, hE9⟩)
            refine hK.out _ _ ⟨Ext.keep hE9 hH.1, Ext.keep hE9 hH.2.1, Ext.keep hE9 hH.2.2.1, Ext.keep hE9 hH.2.2.2.1, Ext.keep hE9 hH.2.2.2.2.1, Ext.keep hE9 hH.2.2.2.2.2.1, Ext.keep hE9 hH.2.2.2.2.2.2.1, Ext.keep hE9 hH.2.2.2.2.2.2.2.1, Ext.trans hH.2.2.2.2.2.2.2.2 hE9⟩ (fun hH9 => ?_)
            clear hK hH; have hH := hH9; clear hH9
            try simp only [Act.put, List.setIfInBounds_toArray, List.set_cons_zero, List.set_cons_succ]
            refine wpAnyH_take_dst (i := 8) (v := .bool false) (d := some 85) rfl rfl (by kernel_rfl) (by kernel_rfl) (by kernel_rfl) (fun _ _ _ h => h) (Or.inl ⟨by rfl, ?_⟩) hH ?_
            · (intro w hSw; (try dsimp only at hSw); go_split_ands; go_simp; try with_reducible rfl)
            try simp only [Act.put, List.setIfInBounds_toArray, List.set_cons_zero, List.set_cons_succ]
            refine wpAnyH_take_dst (i := 9) (v := undef) (d := some 86) rfl rfl (by kernel_rfl) (by kernel_rfl) (by kernel_rfl) (fun _ _ _ h => h) (Or.inr ⟨by rfl, rfl⟩) hH ?_
            try simp only [Act.put, List.setIfInBounds_toArray, List.set_cons_zero, List.set_cons_succ]
            refine wpAnyH_take_dst (i := 10) (v := undef) (d := some 87) rfl rfl (by kernel_rfl) (by kernel_rfl) (by kernel_rfl) (fun _ _ _ h => h) (Or.inr ⟨by rfl, rfl⟩) hH ?_
            try simp only [Act.put, List.setIfInBounds_toArray, List.set_cons_zero, List.set_cons_succ]
            refine wpAnyH_take_dst (i := 11) (v := undef) (d := some 88) rfl rfl (by kernel_rfl) (by kernel_rfl) (by kernel_rfl) (fun _ _ _ h => h) (Or.inr ⟨by rfl, rfl⟩) hH ?_
            try simp only [Act.put, List.setIfInBounds_toArray, List.set_cons_zero, List.set_cons_succ]
            refine wpAnyH_take_dst (i := 12) (v := undef) (d := some 89) rfl rfl (by kernel_rfl) (by kernel_rfl) (by kernel_rfl) (fun _ _ _ h => h) (Or.inr ⟨by rfl, rfl⟩) hH ?_
            try simp only [Act.put, List.setIfInBounds_toArray, List.set_cons_zero, List.set_cons_succ]
            refine wpAnyH_take_dst (i := 13) (v := undef) (d := some 90) rfl rfl (by kernel_rfl) (by kernel_rfl) (by kernel_rfl) (fun _ _ _ h => h) (Or.inr ⟨by rfl, rfl⟩) hH ?_
            try simp only [Act.put, List.setIfInBounds_toArray, List.set_cons_zero, List.set_cons_succ]
            refine wpAnyH_take_dst (i := 14) (v := .bool false) (d := some 91) rfl rfl (by kernel_rfl) (by kernel_rfl) (by kernel_rfl) (fun _ _ _ h => h) (Or.inl ⟨by rfl, ?_⟩) hH ?_
            · (intro w hSw; (try dsimp only at hSw); go_split_ands; go_simp; try with_reducible rfl)
            try simp only [Act.put, List.setIfInBounds_toArray, List.set_cons_zero, List.set_cons_succ]
            refine wpAnyH_take_dst (i := 15) (v := .bool true) (d := some 92) rfl rfl (by kernel_rfl) (by kernel_rfl) (by kernel_rfl) (fun _ _ _ h => h) (Or.inl ⟨by rfl, ?_⟩) hH ?_
            · (intro w hSw; (try dsimp only at hSw); go_split_ands; go_simp; try with_reducible rfl)
            try simp only [Act.put, List.setIfInBounds_toArray, List.set_cons_zero, List.set_cons_succ]
            refine wpAnyH_take_dst (i := 16) (v := .bool true) (d := some 2) rfl rfl (by kernel_rfl) (by kernel_rfl) (by kernel_rfl) (fun _ _ _ h => h) (Or.inl ⟨by rfl, ?_⟩) hH ?_
            · (intro w hSw; (try dsimp only at hSw); go_split_ands; go_simp; try with_reducible rfl)
            try simp only [Act.put, List.setIfInBounds_toArray, List.set_cons_zero, List.set_cons_succ]
            refine wpAnyH_done (by kernel_rfl) ?_ _
            have hH2 := hH.2.2.2.2.2.2.2.2
            clear hH
            go_wp2_with fail
            go_ret
            exact ⟨by first | rfl | simp, Ext.trans hE013 hH2⟩
          | true =>
            cases hae : (p1.at_ == p2.at_) with
            | false =>
              have HSB := Lib.hid (show p1.same p2 = false by rw [HSM.out, hre, hae]; rfl)
              go_wp2_with fail
              refine wp_region_held_drew (S := (fun w' => w'.cell? ⟨e1, 0, none⟩ = some (.slice A1 n1 c1) ∧ w'.cell? ⟨e1, 1, none⟩ = some (.slice (some ⟨f1, g1, none⟩) n2 c2) ∧ w'.cell? ⟨e1, 2, none⟩ = some (.int .i64 p1.rule) ∧ w'.cell? ⟨e1, 3, none⟩ = some (.int .i64 p1.at_) ∧ w'.cell? ⟨e2, 0, none⟩ = some (.slice (some ⟨f2, g2, none⟩) m1 d1) ∧ w'.cell? ⟨e2, 1, none⟩ = some (.slice B2 m2 d2) ∧ w'.cell? ⟨e2, 2, none⟩ = some (.int .i64 p2.rule) ∧ w'.cell? ⟨e2, 3, none⟩ = some (.int .i64 p2.at_) ∧ Ext w13 w')) (by kernel_rfl) ?_ (fun hH => ?_)
              · exact ⟨z0, z1, z2, z3, u0, u1, u2, u3, (Ext.refl w13).drew⟩
              refine wpAnyH_take_dst (i := 0) (v := .agg #[.slice A1 n1 c1, .slice (some ⟨f1, g1, none⟩) n2 c2, .int .i64 p1.rule, .int .i64 p1.at_]) (d := some 77) rfl rfl (by kernel_rfl) (by kernel_rfl) (by kernel_rfl) (fun _ _ _ h => h) (Or.inl ⟨by rfl, ?_⟩) hH ?_
              · (intro w hSw; (try dsimp only at hSw); go_split_ands; go_simp; try with_reducible rfl)
              try simp only [Act.put, List.setIfInBounds_toArray, List.set_cons_zero, List.set_cons_succ]
              refine wpAnyH_take_dst (i := 1) (v := .agg #[.slice (some ⟨f2, g2, none⟩) m1 d1, .slice B2 m2 d2, .int .i64 p2.rule, .int .i64 p2.at_]) (d := some 78) rfl rfl (by kernel_rfl) (by kernel_rfl) (by kernel_rfl) (fun _ _ _ h => h) (Or.inl ⟨by rfl, ?_⟩) hH ?_
              · (intro w hSw; (try dsimp only at hSw); go_split_ands; go_simp; try with_reducible rfl)
              try simp only [Act.put, List.setIfInBounds_toArray, List.set_cons_zero, List.set_cons_succ]
              refine wpAnyH_take_dst (i := 3) (v := .pointer (some ⟨e1, 2, none⟩)) (d := some 80) rfl rfl (by kernel_rfl) (by kernel_rfl) (by kernel_rfl) (fun _ _ _ h => h) (Or.inl ⟨by rfl, ?_⟩) hH ?_
              · (intro w hSw; (try dsimp only at hSw); go_split_ands; go_simp; try with_reducible rfl)
              try simp only [Act.put, List.setIfInBounds_toArray, List.set_cons_zero, List.set_cons_succ]
              refine wpAnyH_take_dst (i := 4) (v := .int .i64 p1.rule) (d := some 81) rfl rfl (by kernel_rfl) (by kernel_rfl) (by kernel_rfl) (fun _ _ _ h => h) (Or.inl ⟨by rfl, ?_⟩) hH ?_
              · (intro w hSw; (try dsimp only at hSw); go_split_ands; go_simp; try with_reducible rfl)
              try simp only [Act.put, List.setIfInBounds_toArray, List.set_cons_zero, List.set_cons_succ]
              refine wpAnyH_take_dst (i := 5) (v := .pointer (some ⟨e2, 2, none⟩)) (d := some 82) rfl rfl (by kernel_rfl) (by kernel_rfl) (by kernel_rfl) (fun _ _ _ h => h) (Or.inl ⟨by rfl, ?_⟩) hH ?_
              · (intro w hSw; (try dsimp only at hSw); go_split_ands; go_simp; try with_reducible rfl)
              try simp only [Act.put, List.setIfInBounds_toArray, List.set_cons_zero, List.set_cons_succ]
              refine wpAnyH_take_dst (i := 6) (v := .int .i64 p2.rule) (d := some 83) rfl rfl (by kernel_rfl) (by kernel_rfl) (by kernel_rfl) (fun _ _ _ h => h) (Or.inl ⟨by rfl, ?_⟩) hH ?_
              · (intro w hSw; (try dsimp only at hSw); go_split_ands; go_simp; try with_reducible rfl)
              try simp only [Act.put, List.setIfInBounds_toArray, List.set_cons_zero, List.set_cons_succ]
              refine wpAnyH_take_dst (i := 7) (v := .bool true) (d := some 84) rfl rfl (by kernel_rfl) (by kernel_rfl) (by kernel_rfl) (fun _ _ _ h => h) (Or.inl ⟨by rfl, ?_⟩) hH ?_
              · (intro w hSw; (try dsimp only at hSw); go_split_ands; go_simp; try with_reducible rfl)
              try simp only [Act.put, List.setIfInBounds_toArray, List.set_cons_zero, List.set_cons_succ]
              refine wpAnyH_ready (rs := [2]) (by kernel_rfl) (by simp) ?_
              refine AllReadyH.cons rfl (fun K hK => ?_) AllReadyH.nil
              rw [if_pos (by rfl)]
              go_wp2_with (go_at_call 21; (with_reducible refine ((c_iSameDepB HSB.out (HB13.out.ext hH.2.2.2.2.2.2.2.2).dq (HC13.out.ext hH.2.2.2.2.2.2.2.2).dq)).mono ?_); rintro e w9 ⟨rfl, hE9⟩)
              refine hK.out _ _ ⟨Ext.keep hE9 hH.1, Ext.keep hE9 hH.2.1, Ext.keep hE9 hH.2.2.1, Ext.keep hE9 hH.2.2.2.1, Ext.keep hE9 hH.2.2.2.2.1, Ext.keep hE9 hH.2.2.2.2.2.1, Ext.keep hE9 hH.2.2.2.2.2.2.1, Ext.keep hE9 hH.2.2.2.2.2.2.2.1, Ext.trans hH.2.2.2.2.2.2.2.2 hE9⟩ (fun hH9 => ?_)
              clear hK hH; have hH := hH9; clear hH9
              try simp only [Act.put, List.setIfInBounds_toArray, List.set_cons_zero, List.set_cons_succ]
              refine wpAnyH_take_dst (i := 8) (v := .bool true) (d := some 85) rfl rfl (by kernel_rfl) (by kernel_rfl) (by kernel_rfl) (fun _ _ _ h => h) (Or.inl ⟨by rfl, ?_⟩) hH ?_
              · (intro w hSw; (try dsimp only at hSw); go_split_ands; go_simp; try with_reducible rfl)
              try simp only [Act.put, List.setIfInBounds_toArray, List.set_cons_zero, List.set_cons_succ]
              refine wpAnyH_take_dst (i := 9) (v := .pointer (some ⟨e1, 3, none⟩)) (d := some 86) rfl rfl (by kernel_rfl) (by kernel_rfl) (by kernel_rfl) (fun _ _ _ h => h) (Or.inl ⟨by rfl, ?_⟩) hH ?_
              · (intro w hSw; (try dsimp only at hSw); go_split_ands; go_simp; try with_reducible rfl)
              try simp only [Act.put, List.setIfInBounds_toArray, List.set_cons_zero, List.set_cons_succ]
              refine wpAnyH_take_dst (i := 10) (v := .int .i64 p1.at_) (d := some 87) rfl rfl (by kernel_rfl) (by kernel_rfl) (by kernel_rfl) (fun _ _ _ h => h) (Or.inl ⟨by rfl, ?_⟩) hH ?_
              · (intro w hSw; (try dsimp only at hSw); go_split_ands; go_simp; try with_reducible rfl)
              try simp only [Act.put, List.setIfInBounds_toArray, List.set_cons_zero, List.set_cons_succ]
              refine wpAnyH_take_dst (i := 11) (v := .pointer (some ⟨e2, 3, none⟩)) (d := some 88) rfl rfl (by kernel_rfl) (by kernel_rfl) (by kernel_rfl) (fun _ _ _ h => h) (Or.inl ⟨by rfl, ?_⟩) hH ?_
              · (intro w hSw; (try dsimp only at hSw); go_split_ands; go_simp; try with_reducible rfl)
              try simp only [Act.put, List.setIfInBounds_toArray, List.set_cons_zero, List.set_cons_succ]
              refine wpAnyH_take_dst (i := 12) (v := .int .i64 p2.at_) (d := some 89) rfl rfl (by kernel_rfl) (by kernel_rfl) (by kernel_rfl) (fun _ _ _ h => h) (Or.inl ⟨by rfl, ?_⟩) hH ?_
              · (intro w hSw; (try dsimp only at hSw); go_split_ands; go_simp; try with_reducible rfl)
              try simp only [Act.put, List.setIfInBounds_toArray, List.set_cons_zero, List.set_cons_succ]
              refine wpAnyH_take_dst (i := 13) (v := .bool false) (d := some 90) rfl rfl (by kernel_rfl) (by kernel_rfl) (by kernel_rfl) (fun _ _ _ h => h) (Or.inl ⟨by rfl, ?_⟩) hH ?_
              · (intro w hSw; (try dsimp only at hSw); go_split_ands; go_simp; try with_reducible rfl)
              try simp only [Act.put, List.setIfInBounds_toArray, List.set_cons_zero, List.set_cons_succ]
              refine wpAnyH_take_dst (i := 14) (v := .bool false) (d := some 91) rfl rfl (by kernel_rfl) (by kernel_rfl) (by kernel_rfl) (fun _ _ _ h => h) (Or.inl ⟨by rfl, ?_⟩) hH ?_
              · (intro w hSw; (try dsimp only at hSw); go_split_ands; go_simp; try with_reducible rfl)
              try simp only [Act.put, List.setIfInBounds_toArray, List.set_cons_zero, List.set_cons_succ]
              refine wpAnyH_take_dst (i := 15) (v := .bool true) (d := some 92) rfl rfl (by kernel_rfl) (by kernel_rfl) (by kernel_rfl) (fun _ _ _ h => h) (Or.inl ⟨by rfl, ?_⟩) hH ?_
              · (intro w hSw; (try dsimp only at hSw); go_split_ands; go_simp; try with_reducible rfl)
              try simp only [Act.put, List.setIfInBounds_toArray, List.set_cons_zero, List.set_cons_succ]
              refine wpAnyH_take_dst (i := 16) (v := .bool true) (d := some 2) rfl rfl (by kernel_rfl) (by kernel_rfl) (by kernel_rfl) (fun _ _ _ h => h) (Or.inl ⟨by rfl, ?_⟩) hH ?_
              · (intro w hSw; (try dsimp only at hSw); go_split_ands; go_simp; try with_reducible rfl)
              try simp only [Act.put, List.setIfInBounds_toArray, List.set_cons_zero, List.set_cons_succ]
              refine wpAnyH_done (by kernel_rfl) ?_ _
              have hH2 := hH.2.2.2.2.2.2.2.2
              clear hH
              go_wp2_with fail
              go_ret
              exact ⟨by first | rfl | simp, Ext.trans hE013 hH2⟩
            | true =>
              have HSB := Lib.hid (show p1.same p2 = true by rw [HSM.out, hre, hae]; rfl)
              go_wp2_with fail
              refine wp_region_held_drew (S := (fun w' => w'.cell? ⟨e1, 0, none⟩ = some (.slice A1 n1 c1) ∧ w'.cell? ⟨e1, 1, none⟩ = some (.slice (some ⟨f1, g1, none⟩) n2 c2) ∧ w'.cell? ⟨e1, 2, none⟩ = some (.int .i64 p1.rule) ∧ w'.cell? ⟨e1, 3, none⟩ = some (.int .i64 p1.at_) ∧ w'.cell? ⟨e2, 0, none⟩ = some (.slice (some ⟨f2, g2, none⟩) m1 d1) ∧ w'.cell? ⟨e2, 1, none⟩ = some (.slice B2 m2 d2) ∧ w'.cell? ⟨e2, 2, none⟩ = some (.int .i64 p2.rule) ∧ w'.cell? ⟨e2, 3, none⟩ = some (.int .i64 p2.at_) ∧ Ext w13 w')) (by kernel_rfl) ?_ (fun hH => ?_)
              · exact ⟨z0, z1, z2, z3, u0, u1, u2, u3, (Ext.refl w13).drew⟩
              refine wpAnyH_take_dst (i := 0) (v := .agg #[.slice A1 n1 c1, .slice (some ⟨f1, g1, none⟩) n2 c2, .int .i64 p1.rule, .int .i64 p1.at_]) (d := some 77) rfl rfl (by kernel_rfl) (by kernel_rfl) (by kernel_rfl) (fun _ _ _ h => h) (Or.inl ⟨by rfl, ?_⟩) hH ?_
              · (intro w hSw; (try dsimp only at hSw); go_split_ands; go_simp; try with_reducible rfl)
              try simp only [Act.put, List.setIfInBounds_toArray, List.set_cons_zero, List.set_cons_succ]
              refine wpAnyH_take_dst (i := 1) (v := .agg #[.slice (some ⟨f2, g2, none⟩) m1 d1, .slice B2 m2 d2, .int .i64 p2.rule, .int .i64 p2.at_]) (d := some 78) rfl rfl (by kernel_rfl) (by kernel_rfl) (by kernel_rfl) (fun _ _ _ h => h) (Or.inl ⟨by rfl, ?_⟩) hH ?_
              · (intro w hSw; (try dsimp only at hSw); go_split_ands; go_simp; try with_reducible rfl)
              try simp only [Act.put, List.setIfInBounds_toArray, List.set_cons_zero, List.set_cons_succ]
              refine wpAnyH_take_dst (i := 3) (v := .pointer (some ⟨e1, 2, none⟩)) (d := some 80) rfl rfl (by kernel_rfl) (by kernel_rfl) (by kernel_rfl) (fun _ _ _ h => h) (Or.inl ⟨by rfl, ?_⟩) hH ?_
              · (intro w hSw; (try dsimp only at hSw); go_split_ands; go_simp; try with_reducible rfl)
              try simp only [Act.put, List.setIfInBounds_toArray, List.set_cons_zero, List.set_cons_succ]
              refine wpAnyH_take_dst (i := 4) (v := .int .i64 p1.rule) (d := some 81) rfl rfl (by kernel_rfl) (by kernel_rfl) (by kernel_rfl) (fun _ _ _ h => h) (Or.inl ⟨by rfl, ?_⟩) hH ?_
              · (intro w hSw; (try dsimp only at hSw); go_split_ands; go_simp; try with_reducible rfl)
              try simp only [Act.put, List.setIfInBounds_toArray, List.set_cons_zero, List.set_cons_succ]
              refine wpAnyH_take_dst (i := 5) (v := .pointer (some ⟨e2, 2, none⟩)) (d := some 82) rfl rfl (by kernel_rfl) (by kernel_rfl) (by kernel_rfl) (fun _ _ _ h => h) (Or.inl ⟨by rfl, ?_⟩) hH ?_
              · (intro w hSw; (try dsimp only at hSw); go_split_ands; go_simp; try with_reducible rfl)
              try simp only [Act.put, List.setIfInBounds_toArray, List.set_cons_zero, List.set_cons_succ]
              refine wpAnyH_take_dst (i := 6) (v := .int .i64 p2.rule) (d := some 83) rfl rfl (by kernel_rfl) (by kernel_rfl) (by kernel_rfl) (fun _ _ _ h => h) (Or.inl ⟨by rfl, ?_⟩) hH ?_
              · (intro w hSw; (try dsimp only at hSw); go_split_ands; go_simp; try with_reducible rfl)
              try simp only [Act.put, List.setIfInBounds_toArray, List.set_cons_zero, List.set_cons_succ]
              refine wpAnyH_take_dst (i := 7) (v := .bool true) (d := some 84) rfl rfl (by kernel_rfl) (by kernel_rfl) (by kernel_rfl) (fun _ _ _ h => h) (Or.inl ⟨by rfl, ?_⟩) hH ?_
              · (intro w hSw; (try dsimp only at hSw); go_split_ands; go_simp; try with_reducible rfl)
              try simp only [Act.put, List.setIfInBounds_toArray, List.set_cons_zero, List.set_cons_succ]
              refine wpAnyH_ready (rs := [2]) (by kernel_rfl) (by simp) ?_
              refine AllReadyH.cons rfl (fun K hK => ?_) AllReadyH.nil
              rw [if_pos (by rfl)]
              go_wp2_with (go_at_call 21; (with_reducible refine ((c_iSameDepB HSB.out (HB13.out.ext hH.2.2.2.2.2.2.2.2).dq (HC13.out.ext hH.2.2.2.2.2.2.2.2).dq)).mono ?_); rintro e w9 ⟨rfl, hE9⟩)
              refine hK.out _ _ ⟨Ext.keep hE9 hH.1, Ext.keep hE9 hH.2.1, Ext.keep hE9 hH.2.2.1, Ext.keep hE9 hH.2.2.2.1, Ext.keep hE9 hH.2.2.2.2.1, Ext.keep hE9 hH.2.2.2.2.2.1, Ext.keep hE9 hH.2.2.2.2.2.2.1, Ext.keep hE9 hH.2.2.2.2.2.2.2.1, Ext.trans hH.2.2.2.2.2.2.2.2 hE9⟩ (fun hH9 => ?_)
              clear hK hH; have hH := hH9; clear hH9
              try simp only [Act.put, List.setIfInBounds_toArray, List.set_cons_zero, List.set_cons_succ]
              refine wpAnyH_take_dst (i := 8) (v := .bool true) (d := some 85) rfl rfl (by kernel_rfl) (by kernel_rfl) (by kernel_rfl) (fun _ _ _ h => h) (Or.inl ⟨by rfl, ?_⟩) hH ?_
              · (intro w hSw; (try dsimp only at hSw); go_split_ands; go_simp; try with_reducible rfl)
              try simp only [Act.put, List.setIfInBounds_toArray, List.set_cons_zero, List.set_cons_succ]
              refine wpAnyH_take_dst (i := 9) (v := .pointer (some ⟨e1, 3, none⟩)) (d := some 86) rfl rfl (by kernel_rfl) (by kernel_rfl) (by kernel_rfl) (fun _ _ _ h => h) (Or.inl ⟨by rfl, ?_⟩) hH ?_
              · (intro w hSw; (try dsimp only at hSw); go_split_ands; go_simp; try with_reducible rfl)
              try simp only [Act.put, List.setIfInBounds_toArray, List.set_cons_zero, List.set_cons_succ]
              refine wpAnyH_take_dst (i := 10) (v := .int .i64 p1.at_) (d := some 87) rfl rfl (by kernel_rfl) (by kernel_rfl) (by kernel_rfl) (fun _ _ _ h => h) (Or.inl ⟨by rfl, ?_⟩) hH ?_
              · (intro w hSw; (try dsimp only at hSw); go_split_ands; go_simp; try with_reducible rfl)
              try simp only [Act.put, List.setIfInBounds_toArray, List.set_cons_zero, List.set_cons_succ]
              refine wpAnyH_take_dst (i := 11) (v := .pointer (some ⟨e2, 3, none⟩)) (d := some 88) rfl rfl (by kernel_rfl) (by kernel_rfl) (by kernel_rfl) (fun _ _ _ h => h) (Or.inl ⟨by rfl, ?_⟩) hH ?_
              · (intro w hSw; (try dsimp only at hSw); go_split_ands; go_simp; try with_reducible rfl)
              try simp only [Act.put, List.setIfInBounds_toArray, List.set_cons_zero, List.set_cons_succ]
              refine wpAnyH_take_dst (i := 12) (v := .int .i64 p2.at_) (d := some 89) rfl rfl (by kernel_rfl) (by kernel_rfl) (by kernel_rfl) (fun _ _ _ h => h) (Or.inl ⟨by rfl, ?_⟩) hH ?_
              · (intro w hSw; (try dsimp only at hSw); go_split_ands; go_simp; try with_reducible rfl)
              try simp only [Act.put, List.setIfInBounds_toArray, List.set_cons_zero, List.set_cons_succ]
              refine wpAnyH_take_dst (i := 13) (v := .bool true) (d := some 90) rfl rfl (by kernel_rfl) (by kernel_rfl) (by kernel_rfl) (fun _ _ _ h => h) (Or.inl ⟨by rfl, ?_⟩) hH ?_
              · (intro w hSw; (try dsimp only at hSw); go_split_ands; go_simp; try with_reducible rfl)
              try simp only [Act.put, List.setIfInBounds_toArray, List.set_cons_zero, List.set_cons_succ]
              refine wpAnyH_take_dst (i := 14) (v := .bool true) (d := some 91) rfl rfl (by kernel_rfl) (by kernel_rfl) (by kernel_rfl) (fun _ _ _ h => h) (Or.inl ⟨by rfl, ?_⟩) hH ?_
              · (intro w hSw; (try dsimp only at hSw); go_split_ands; go_simp; try with_reducible rfl)
              try simp only [Act.put, List.setIfInBounds_toArray, List.set_cons_zero, List.set_cons_succ]
              refine wpAnyH_take_dst (i := 15) (v := .bool true) (d := some 92) rfl rfl (by kernel_rfl) (by kernel_rfl) (by kernel_rfl) (fun _ _ _ h => h) (Or.inl ⟨by rfl, ?_⟩) hH ?_
              · (intro w hSw; (try dsimp only at hSw); go_split_ands; go_simp; try with_reducible rfl)
              try simp only [Act.put, List.setIfInBounds_toArray, List.set_cons_zero, List.set_cons_succ]
              refine wpAnyH_take_dst (i := 16) (v := .bool true) (d := some 2) rfl rfl (by kernel_rfl) (by kernel_rfl) (by kernel_rfl) (fun _ _ _ h => h) (Or.inl ⟨by rfl, ?_⟩) hH ?_
              · (intro w hSw; (try dsimp only at hSw); go_split_ands; go_simp; try with_reducible rfl)
              try simp only [Act.put, List.setIfInBounds_toArray, List.set_cons_zero, List.set_cons_succ]
              refine wpAnyH_done (by kernel_rfl) ?_ _
              have hH2 := hH.2.2.2.2.2.2.2.2
              clear hH
              go_wp2_with fail
              go_ret
              exact ⟨by first | rfl | simp, Ext.trans hE013 hH2⟩

set_option maxRecDepth 100000 in
theorem lifted (os : Os) (started : os.Started) (H : Type) (enc : TypeId × Value → H) :
    ReturnsInHanded {} Try.checked os 4 .any (Rows.fnConnectedSpec.pre6 enc Try.prog Try.f4 Rows.fnConnectedRow.domain false) (Rows.fnConnectedSpec.post enc Try.prog Try.f4 false true false false) := by
  refine returnsInHanded_of_change (C := Try.checked) own started (by kernel_rfl) Try.func4
    (ChangeSpec.witness6 (enc := enc) (C := Try.checked) false ⟨#[], #[.slice none 0 0], []⟩ 8 (by kernel_rfl) (by kernel_rfl) (by kernel_rfl) (by kernel_rfl)) ?_
  intro W base args ds gs before hval0 hW hcnd _
  have hval : ∀ (j : Nat) t v, Try.f4.params[j]? = some t → args[j]? = some v → Value.okWide Try.prog W .any base t v := hval0
  have hW' := hW
  obtain ⟨p, q, hA0, hV, rfl, hfz, hnd⟩ := hW
  have hA : DataW.TrodAll enc Try.prog W 0 (fun _ => true) true Try.f4.params.toList args.toList ds p := hA0
  rw [Try.params4] at hA hval
  obtain ⟨v0, vs0, d0, ds0, p0, q0, hargs, rfl, rfl, h0, r0⟩ := trodAll_cons hA
  obtain ⟨rfl, rfl, rfl⟩ := trodAll_nil r0
  obtain rfl : args = #[v0] := by cases args; simp_all
  obtain ⟨rfl, rfl⟩ := trodVars_none hV
  have k0 := h0
  have lt0 : ∀ x ∈ p0, x.block < W.heap.size := by obtain ⟨m, hm⟩ := k0; exact DataW.trod_lt m _ _ _ hm
  obtain ⟨x0, w0⟩ := raw_By (hval 0 41 v0 rfl rfl) h0
  clear hA0 hval0
  refine (walk w0).mono fun e W' ⟨he, bel⟩ => ?_
  subst he
  exact ⟨_, rfl, _, _, _, [], _, [], hW', trodAll_mk1 (shut_bool Try.underlying4 _), (trodAll_cons_mk (Below.trod laidOut (by kernel_rfl) (of_decide_eq_true (by kernel_rfl)) k0 bel lt0) trodAll_mk0), rfl, bel.frame _, fun h => by cases h⟩

theorem over : Rows.fnConnectedRow.holds Try.pinned (OpenSpec.ofChange Rows.fnConnectedSpec) :=
  OpenClaim.holds_of_wide 4 Try.f4 rfl rfl rfl rfl rfl rfl rfl ⟨rfl, rfl, rfl, rfl, rfl⟩ rfl rfl rfl rfl rfl (by kernel_rfl) Try.func4 (by kernel_rfl)
    (of_decide_eq_true (by kernel_rfl)) (by unfold Func.isWrapper; first | (rw [if_pos (by decide +kernel)]; kernel_rfl) | (rw [if_neg (by decide +kernel)]; exact ⟨rfl, rfl⟩))
    (fun os started H enc _ => lifted os started H enc)

theorem proved : Rows.FnConnectedSaid := over

end Go.Proofs.Ytempekmenkeigaa.FnConnected
