/- Proved: for every input the law FnPairs returns true, does not panic, and its argument reads afterwards as it read before. Conditions: none. -/
import Derived.Test.YtlcneilmnbnedaaHeld
import Derived.Test.YtlcneilmnbnedaaOpenBy
import Derived.Test.YtlcneilmnbnedaaMPairW
import Derived.Test.YtlcneilmnbnedaaDepO
import Derived.Test.YtlcneilmnbnedaaDicSy
-- rd: RdSyK RdDq
namespace Go.Proofs.Ytlcneilmnbnedaa.FnPairs
open Go.ChangeShapes Go.WideShapes Go.ChangeAt Go.RowKit
set_option linter.unusedSimpArgs false
set_option linter.unusedVariables false
set_option linter.constructorNameAsVariable false

abbrev arU : List Int := [2, 1, 0]
theorem c_iDepOkB {v0 v1 : Value} {s : Sy} {p : DepP} {w : World} (hb : depOk s p = true) (h0 : RdSyC w v0 s) (h1 : RdDq w v1 p) :
    Calls Try.prog 14 #[v0, v1] w fun e w' => e = .returned (.bool true) ∧ Ext w w' := by rw [← hb]; exact c_iDepOk h0 h1
set_option maxRecDepth 100000 in
set_option maxHeartbeats 16000000 in
theorem walk {v0 : Value} {x0 : Nat} {w : World} (h0 : RawBy w v0 x0) :
    Calls Try.prog 3 #[v0] w fun e w' => e = .returned (.bool true) ∧ Ext w w' := by
  have H0 := Lib.hid h0
  obtain ⟨bb, hbb⟩ : ∃ bb, decide (4096 < x0) = bb := ⟨_, rfl⟩
  have HBB := Lib.hid hbb
  clear h0 hbb
  go_enter Try.func3, Try.ntmps3
  go_wp2_with fail
  (with_reducible refine (c_big HBB.out H0.out).mono ?_)
  rintro e w1 ⟨rfl, hE1⟩
  cases bb with
  | true =>
    go_wp2
    go_ret
    exact ⟨rfl, hE1⟩
  | false =>
    have hx : x0 ≤ 4096 := by have := HBB.out; simpa using this
    have H1 := Lib.hid (H0.out.ext hE1)
    go_wp2_with fail
    (with_reducible refine (c_roll H1.out hx).mono ?_)
    rintro e w2 ⟨g, rfl, hD2, hg2, hE2⟩
    have hE02 : Ext w w2 := Ext.trans hE1 hE2
    have hgw : w.heap.size ≤ g := by have := hE1.size; omega
    have hgl := hD2.lt
    go_wp2_with fail
    (with_reducible refine (c_w9System hD2).mono ?_)
    rintro e w3 ⟨AS, cS, B, m, d, rs, rfl, hS3, hR3, hl3, hG3, hD3, hO3⟩
    have hs3 := hO3.size
    have HY4 := Lib.hid (SysAt.mk' (c := cS) (d := d) (v := .bool true) hS3 hR3 hs3)
    have HSY := Lib.hid (show SysP ⟨arU, rs⟩ from good_sys hl3 hG3)
    have HG3 := Lib.hid (show ∀ (j : Nat) (r : Ru), rs[j]? = some r → r.r.length ≤ 15 from fun j r hr => by have := (hG3 r (List.mem_of_getElem? hr)).2.2; omega)
    have hE03 : Ext w w3 := hO3.ext hE02 hgw
    obtain ⟨w4, hw4⟩ : ∃ w4, w4 = w3.alloc (.cells #[.slice AS 3 cS, .slice B m d] 32) := ⟨_, rfl⟩
    rw [← hw4] at HY4
    have hE34 : Ext w3 w4 := by rw [hw4]; exact extX
    have hE04 := Ext.trans hE03 hE34
    have hs34 := hE34.size
    have t0 := HY4.out.c0
    have t1 := HY4.out.c1
    obtain ⟨hb1, hv1⟩ := prB_15 HSY.out hl3 HG3.out
    have HPB := Lib.hid hb1
    obtain ⟨ps, hps⟩ : ∃ ps, prV ⟨arU, rs⟩ = ps := ⟨_, rfl⟩
    have HPS := Lib.hid hps
    have HPA := Lib.hid (show prAll ⟨arU, rs⟩ = ps by rw [← hv1, hps])
    clear hS3 hR3 hD3 hO3 hG3 hps hb1 hv1
    go_wp2_with fail
    rw [← hw4]
    clear hw4
    obtain ⟨p, hp⟩ : ∃ p, p = w3.heap.size := ⟨_, rfl⟩
    rw [← hp] at HY4 t0 t1 ⊢
    clear hp
    (with_reducible refine (c_iPairsOf HPS.out HPB.out HY4.out.rd).mono ?_)
    rintro e w5 ⟨PA, pn, pc, rfl, hOP, hE5⟩
    have HP5 := Lib.hid hOP.re
    have hpn : pn ≤ 4194304 := hOP.re.1.2
    have HPL := Lib.hid (show ps.length = pn from hOP.re.1.1)
    have HY5 := Lib.hid (HY4.out.ext hE5)
    have hE05 := Ext.trans hE04 hE5
    have t2 := HY5.out.c0
    have t3 := HY5.out.c1
    clear hOP t0 t1 HY4
    go_wp2_with fail
    (with_reducible refine (c_DefinedA HSY.out HY5.out.rd).mono ?_)
    rintro e w6 ⟨DA, dn, dc, ds, rfl, hDR, hDH, hE6⟩
    have hdn : dn ≤ 4194304 := hDR.le
    have HDR := Lib.hid hDR
    have HDH := Lib.hid hDH
    have HY6 := Lib.hid (HY5.out.ext hE6)
    have HP6 := Lib.hid (HP5.out.ext hE6)
    have hE06 := Ext.trans hE05 hE6
    clear hDR hDH t2 t3 HY5 HP5
    have hml : rs.length = m := HY6.out.rr.rr.len
    have HML := Lib.hid hml
    have hm3 : m ≤ 3 := by omega
    clear hml
    go_wp2_with fail
    go_loopw [8, 9] (fun nv kv wr => ∃ k nn : Nat, kv = .int .i64 k ∧ k ≤ m ∧ nv = .int .i64 nn ∧ nn ≤ 45 ∧ Hid (nn = (prS ⟨arU, rs⟩ k).length) ∧ Ext w6 wr) (fun _ kv _ => m - (intOf kv).toNat)
    case atStart => exact ⟨0, 0, rfl, Nat.zero_le _, rfl, by omega, Lib.hid rfl, Ext.refl _⟩
    case round =>
      obtain ⟨k, nn0, rfl, hk, rfl, hnn45, hnn, hE⟩ := hrel
      have HYr := Lib.hid (HY6.out.ext hE)
      have hyc0 := HYr.out.c0
      have hyc1 := HYr.out.c1
      obtain ⟨wa, rfl⟩ : ∃ wa : World, wa = wr := ⟨_, rfl⟩
      by_cases hlt : k < m
      · have hki : (k : Int) < (m : Int) := by omega
        have hk0 : (0 : Int) ≤ (k : Int) := by omega
        obtain ⟨rb, ro, rfl, hrules⟩ := HYr.out.rr.rr.2 (by omega)
        obtain ⟨r, hr⟩ : ∃ r, rs[k]? = some r := ⟨rs[k]'(by have := HML.out; omega), List.getElem?_eq_getElem _⟩
        obtain ⟨⟨L1, l1n, l1c, hrc0, hcap1, hrL⟩, R1, r1n, r1c, hrc1, hcap2, hrR⟩ := hrules k r hr
        have hRP := HSY.out.2.2 k r hr
        have HR := Lib.hid hr
        have HTL := Lib.hid (show TermP arU r.l from hRP.1)
        have HTR := Lib.hid (show TermP arU r.r from hRP.2.1)
        have HRL := Lib.hid hrL
        have HRR := Lib.hid hrR
        have HCL := Lib.hid (hcap1 rfl)
        have hcR := hcap2 rfl
        have hr15 := HG3.out k r hr
        have hrlen := hrR.len
        have hr1n : r1n ≤ 15 := by omega
        have HRLEN := Lib.hid hrlen
        clear hrules hr hRP hrL hrR hcap1 hcap2 hrlen hr15
        go_wp2_with fail
        go_loopw [8, 11] (fun nv av wr => ∃ a nn : Nat, av = .int .i64 a ∧ a ≤ r1n ∧ nv = .int .i64 nn ∧ nn ≤ nn0 + a ∧ Hid (nn = (prS ⟨arU, rs⟩ k).length + (prR ⟨arU, rs⟩ r k a).length) ∧ Ext wa wr) (fun _ av _ => r1n - (intOf av).toNat)
        case atStart => exact ⟨0, nn0, rfl, Nat.zero_le _, rfl, by omega, Lib.hid (by rw [hnn.out]; rfl), Ext.refl _⟩
        case round =>
          obtain ⟨a, nn, rfl, ha, rfl, hnna, hnn2, hEa⟩ := hrel
          obtain ⟨wb, rfl⟩ : ∃ wb : World, wb = wr := ⟨_, rfl⟩
          by_cases hla : a < r1n
          · have hai : (a : Int) < (r1n : Int) := by omega
            have ha0 : (0 : Int) ≤ (a : Int) := by omega
            have HYb := Lib.hid (HYr.out.ext hEa)
            have hb0 := HYb.out.c0
            have hb1 := HYb.out.c1
            have HLT := Lib.hid (show a < r.r.length by have := HRLEN.out; omega)
            obtain ⟨u, hu⟩ : ∃ u, u = (subT arU r.r a).flat := ⟨_, rfl⟩
            have HU := Lib.hid hu
            obtain ⟨hTU, _, hrest⟩ := sub_term (ar := arU) HTR.out HLT.out
            have HTU := Lib.hid (show TermP arU u by rw [hu]; exact hTU)
            obtain ⟨x, hxa⟩ : ∃ x, r.r[a]? = some x := ⟨_, List.getElem?_eq_getElem HLT.out⟩
            have hux : u[0]? = some x := by
              obtain ⟨rest, hd⟩ := hrest
              have h5 : (r.r.drop a)[0]? = some x := by rw [List.getElem?_drop, Nat.add_zero]; exact hxa
              rw [hd, ← hu, List.getElem?_append_left HTU.out.2.1.1] at h5
              exact h5
            have HXA := Lib.hid hxa
            have HUX := Lib.hid hux
            clear hu hTU hrest hxa hux
            go_wp2_with fail
            (with_reducible refine (c_SubAtA HU.out HYb.out.sig (RI.ext HRR.out hEa) hcR HTR.out HLT.out).mono ?_)
            rintro e w7 ⟨UA, un, uc, rfl, hOU, hE7⟩
            have HUI := Lib.hid hOU.ri
            have hucap := hOU.cap
            have HY7 := Lib.hid (HYb.out.ext hE7)
            have hEa7 := Ext.trans hEa hE7
            have hq0 := HY7.out.c0
            have hq1 := HY7.out.c1
            have hq2 := Ext.keep hEa7 hrc0
            have hup : 0 < un := by have := hOU.len; have := HTU.out.2.1.1; omega
            clear hOU hb0 hb1
            go_wp2_with fail
            refine wp_region_held_drew (S := (fun w' => w'.cell? ⟨p, 0, none⟩ = some (.slice AS 3 cS) ∧ w'.cell? ⟨p, 1, none⟩ = some (.slice (some ⟨rb, ro, none⟩) m d) ∧ w'.cell? ⟨rb, ro + k * 2, none⟩ = some (.slice L1 l1n l1c) ∧ Ext w7 w')) (by kernel_rfl) ?_ (fun hH => ?_)
            · exact ⟨hq0, hq1, hq2, (Ext.refl w7).drew⟩
            refine wpAnyH_take_dst (i := 0) (v := .pointer (some ⟨p, 0, none⟩)) (d := some 57) rfl rfl (by kernel_rfl) (by kernel_rfl) (by kernel_rfl) (fun _ _ _ h => h) (Or.inl ⟨by rfl, ?_⟩) hH ?_
            · (intro w hSw; (try dsimp only at hSw); go_split_ands; go_simp; try with_reducible rfl)
            try simp only [Act.put, List.setIfInBounds_toArray, List.set_cons_zero, List.set_cons_succ]
            refine wpAnyH_take_dst (i := 1) (v := .agg #[.slice AS 3 cS]) (d := some 58) rfl rfl (by kernel_rfl) (by kernel_rfl) (by kernel_rfl) (fun _ _ _ h => h) (Or.inl ⟨by rfl, ?_⟩) hH ?_
            · (intro w hSw; (try dsimp only at hSw); go_split_ands; go_simp; try with_reducible rfl)
            try simp only [Act.put, List.setIfInBounds_toArray, List.set_cons_zero, List.set_cons_succ]
            refine wpAnyH_take_dst (i := 2) (v := .slice UA un uc) (d := some 59) rfl rfl (by kernel_rfl) (by kernel_rfl) (by kernel_rfl) (fun _ _ _ h => h) (Or.inl ⟨by rfl, ?_⟩) hH ?_
            · (intro w hSw; (try dsimp only at hSw); go_split_ands; go_simp; try with_reducible rfl)
            try simp only [Act.put, List.setIfInBounds_toArray, List.set_cons_zero, List.set_cons_succ]
            refine wpAnyH_take_dst (i := 3) (v := .pointer (some ⟨p, 1, none⟩)) (d := some 60) rfl rfl (by kernel_rfl) (by kernel_rfl) (by kernel_rfl) (fun _ _ _ h => h) (Or.inl ⟨by rfl, ?_⟩) hH ?_
            · (intro w hSw; (try dsimp only at hSw); go_split_ands; go_simp; try with_reducible rfl)
            try simp only [Act.put, List.setIfInBounds_toArray, List.set_cons_zero, List.set_cons_succ]
            refine wpAnyH_take_dst (i := 4) (v := .slice (some ⟨rb, ro, none⟩) m d) (d := some 61) rfl rfl (by kernel_rfl) (by kernel_rfl) (by kernel_rfl) (fun _ _ _ h => h) (Or.inl ⟨by rfl, ?_⟩) hH ?_
            · (intro w hSw; (try dsimp only at hSw); go_split_ands; go_simp; try with_reducible rfl)
            try simp only [Act.put, List.setIfInBounds_toArray, List.set_cons_zero, List.set_cons_succ]
            refine wpAnyH_take_dst (i := 5) (v := .int .i64 (k : Int)) (d := some 62) rfl rfl (by kernel_rfl) (by kernel_rfl) (by kernel_rfl) (fun _ _ _ h => h) (Or.inl ⟨by rfl, ?_⟩) hH ?_
            · (intro w hSw; (try dsimp only at hSw); go_split_ands; go_simp; try with_reducible rfl)
            try simp only [Act.put, List.setIfInBounds_toArray, List.set_cons_zero, List.set_cons_succ]
            refine wpAnyH_take_dst (i := 6) (v := .pointer (some ⟨rb, ro + k * 2, none⟩)) (d := some 63) rfl rfl (by kernel_rfl) (by kernel_rfl) (by kernel_rfl) (fun _ _ _ h => h) (Or.inl ⟨by rfl, ?_⟩) hH ?_
            · (intro w hSw; (try dsimp only at hSw); go_split_ands; go_simp; try with_reducible rfl)
            try simp only [Act.put, List.setIfInBounds_toArray, List.set_cons_zero, List.set_cons_succ]
            refine wpAnyH_take_dst (i := 7) (v := .pointer (some ⟨rb, ro + k * 2, none⟩)) (d := some 64) rfl rfl (by kernel_rfl) (by kernel_rfl) (by kernel_rfl) (fun _ _ _ h => h) (Or.inl ⟨by rfl, ?_⟩) hH ?_
            · (intro w hSw; (try dsimp only at hSw); go_split_ands; go_simp; try with_reducible rfl)
            try simp only [Act.put, List.setIfInBounds_toArray, List.set_cons_zero, List.set_cons_succ]
            refine wpAnyH_take_dst (i := 8) (v := .slice L1 l1n l1c) (d := some 65) rfl rfl (by kernel_rfl) (by kernel_rfl) (by kernel_rfl) (fun _ _ _ h => h) (Or.inl ⟨by rfl, ?_⟩) hH ?_
            · (intro w hSw; (try dsimp only at hSw); go_split_ands; go_simp; try with_reducible rfl)
            try simp only [Act.put, List.setIfInBounds_toArray, List.set_cons_zero, List.set_cons_succ]
            refine wpAnyH_ready (rs := [9]) (by kernel_rfl) (by simp) ?_
            refine AllReadyH.cons rfl (fun K hK => ?_) AllReadyH.nil
            rw [if_pos (by rfl)]
            go_wp2_with (go_at_call 12; (with_reducible refine ((c_EmbedsA (HY7.out.ext hH.2.2.2).sig (RI.ext HUI.out hH.2.2.2) (RI.ext HRL.out (Ext.trans hEa7 hH.2.2.2)) HCL.out HTU.out HTL.out)).mono ?_); rintro e w8 ⟨EA, en, ec, ys, rfl, hr8, hn8, hM8, hE9⟩)
            refine hK.out _ _ ⟨Ext.keep hE9 hH.1, Ext.keep hE9 hH.2.1, Ext.keep hE9 hH.2.2.1, Ext.trans hH.2.2.2 hE9⟩ (fun hH9 => ?_)
            clear hK hH; have hH := hH9; clear hH9
            try simp only [Act.put, List.setIfInBounds_toArray, List.set_cons_zero, List.set_cons_succ]
            refine wpAnyH_take_dst (i := 10) (v := .slice EA en ec) (d := some 13) rfl rfl (by kernel_rfl) (by kernel_rfl) (by kernel_rfl) (fun _ _ _ h => h) (Or.inl ⟨by rfl, ?_⟩) hH ?_
            · (intro w hSw; (try dsimp only at hSw); go_split_ands; go_simp; try with_reducible rfl)
            try simp only [Act.put, List.setIfInBounds_toArray, List.set_cons_zero, List.set_cons_succ]
            refine wpAnyH_done (by kernel_rfl) ?_ _
            have hE78 := hH.2.2.2
            have HEI := Lib.hid hr8
            have HEM := Lib.hid hM8
            have HEL := Lib.hid hr8.len
            clear hH hr8 hM8 hq0 hq1 hq2
            have HYd := Lib.hid (HY7.out.ext hE78)
            have hEa8 := Ext.trans hEa7 hE78
            go_wp2_with fail
            go_loopw [14, 15] (fun pv jv wr => ∃ j : Nat, jv = .int .i64 j ∧ j ≤ en ∧ (∃ q : Bool, pv = .bool q ∧ Hid (q = true ↔ PartTo arU r.l u j ys)) ∧ Ext w8 wr) (fun _ jv _ => en - (intOf jv).toNat)
            case atStart => exact ⟨0, rfl, Nat.zero_le _, ⟨false, rfl, Lib.hid ⟨(by intro h; cases h), (by rintro ⟨j, y, h, _⟩; omega)⟩⟩, Ext.refl _⟩
            case round =>
              obtain ⟨j, rfl, hj, ⟨q, rfl, hq⟩, hEc8⟩ := hrel
              have hE7c := Ext.trans hE78 hEc8
              have hEc := Ext.trans hEa8 hEc8
              have HYc := Lib.hid (HYd.out.ext hEc8)
              by_cases hjl : j < en
              · obtain ⟨eb, eo, y0, rfl, hy, hyc⟩ := RI.at_ (RI.ext HEI.out hEc8) hjl
                obtain ⟨y, rfl, hyL⟩ := HEM.out.lt y0 (List.mem_of_getElem? hy)
                have HYL := Lib.hid hyL
                have hji : (j : Int) < (en : Int) := by omega
                have hj0 : (0 : Int) ≤ (j : Int) := by omega
                have hps := PartTo.succ (ar := arU) (L := r.l) (u := u) hy
                have HPSU := Lib.hid hps
                have hq0 := HYc.out.c0
                have hq1 := HYc.out.c1
                have hq2 := Ext.keep hEc hrc0
                clear hy hyL hps
                cases q with
                | true =>
                  have HN := Lib.hid (show PartTo arU r.l u (j + 1) ys from HPSU.out.2 (.inl (hq.out.1 rfl)))
                  go_wp2_with fail
                  refine wp_region_held_drew (S := (fun w' => Ext wr w')) (by kernel_rfl) ?_ (fun hH => ?_)
                  · exact (Ext.refl wr).drew
                  refine wpAnyH_take_dst (i := 0) (v := .bool true) (d := some 73) rfl rfl (by kernel_rfl) (by kernel_rfl) (by kernel_rfl) (fun _ _ _ h => h) (Or.inl ⟨by rfl, ?_⟩) hH ?_
                  · (intro w hSw; (try dsimp only at hSw); go_split_ands; go_simp; try with_reducible rfl)
                  try simp only [Act.put, List.setIfInBounds_toArray, List.set_cons_zero, List.set_cons_succ]
                  refine wpAnyH_take_dst (i := 1) (v := .bool true) (d := some 74) rfl rfl (by kernel_rfl) (by kernel_rfl) (by kernel_rfl) (fun _ _ _ h => h) (Or.inl ⟨by rfl, ?_⟩) hH ?_
                  · (intro w hSw; (try dsimp only at hSw); go_split_ands; go_simp; try with_reducible rfl)
                  try simp only [Act.put, List.setIfInBounds_toArray, List.set_cons_zero, List.set_cons_succ]
                  refine wpAnyH_take_dst (i := 2) (v := undef) (d := some 75) rfl rfl (by kernel_rfl) (by kernel_rfl) (by kernel_rfl) (fun _ _ _ h => h) (Or.inr ⟨by rfl, rfl⟩) hH ?_
                  try simp only [Act.put, List.setIfInBounds_toArray, List.set_cons_zero, List.set_cons_succ]
                  refine wpAnyH_take_dst (i := 3) (v := undef) (d := some 76) rfl rfl (by kernel_rfl) (by kernel_rfl) (by kernel_rfl) (fun _ _ _ h => h) (Or.inr ⟨by rfl, rfl⟩) hH ?_
                  try simp only [Act.put, List.setIfInBounds_toArray, List.set_cons_zero, List.set_cons_succ]
                  refine wpAnyH_take_dst (i := 4) (v := undef) (d := some 77) rfl rfl (by kernel_rfl) (by kernel_rfl) (by kernel_rfl) (fun _ _ _ h => h) (Or.inr ⟨by rfl, rfl⟩) hH ?_
                  try simp only [Act.put, List.setIfInBounds_toArray, List.set_cons_zero, List.set_cons_succ]
                  refine wpAnyH_take_dst (i := 5) (v := undef) (d := some 78) rfl rfl (by kernel_rfl) (by kernel_rfl) (by kernel_rfl) (fun _ _ _ h => h) (Or.inr ⟨by rfl, rfl⟩) hH ?_
                  try simp only [Act.put, List.setIfInBounds_toArray, List.set_cons_zero, List.set_cons_succ]
                  refine wpAnyH_take_dst (i := 6) (v := undef) (d := some 79) rfl rfl (by kernel_rfl) (by kernel_rfl) (by kernel_rfl) (fun _ _ _ h => h) (Or.inr ⟨by rfl, rfl⟩) hH ?_
                  try simp only [Act.put, List.setIfInBounds_toArray, List.set_cons_zero, List.set_cons_succ]
                  refine wpAnyH_take_dst (i := 7) (v := undef) (d := some 80) rfl rfl (by kernel_rfl) (by kernel_rfl) (by kernel_rfl) (fun _ _ _ h => h) (Or.inr ⟨by rfl, rfl⟩) hH ?_
                  try simp only [Act.put, List.setIfInBounds_toArray, List.set_cons_zero, List.set_cons_succ]
                  refine wpAnyH_take_dst (i := 8) (v := undef) (d := some 81) rfl rfl (by kernel_rfl) (by kernel_rfl) (by kernel_rfl) (fun _ _ _ h => h) (Or.inr ⟨by rfl, rfl⟩) hH ?_
                  try simp only [Act.put, List.setIfInBounds_toArray, List.set_cons_zero, List.set_cons_succ]
                  refine wpAnyH_take_dst (i := 9) (v := undef) (d := some 82) rfl rfl (by kernel_rfl) (by kernel_rfl) (by kernel_rfl) (fun _ _ _ h => h) (Or.inr ⟨by rfl, rfl⟩) hH ?_
                  try simp only [Act.put, List.setIfInBounds_toArray, List.set_cons_zero, List.set_cons_succ]
                  refine wpAnyH_take_dst (i := 10) (v := undef) (d := some 83) rfl rfl (by kernel_rfl) (by kernel_rfl) (by kernel_rfl) (fun _ _ _ h => h) (Or.inr ⟨by rfl, rfl⟩) hH ?_
                  try simp only [Act.put, List.setIfInBounds_toArray, List.set_cons_zero, List.set_cons_succ]
                  refine wpAnyH_take_dst (i := 11) (v := undef) (d := some 84) rfl rfl (by kernel_rfl) (by kernel_rfl) (by kernel_rfl) (fun _ _ _ h => h) (Or.inr ⟨by rfl, rfl⟩) hH ?_
                  try simp only [Act.put, List.setIfInBounds_toArray, List.set_cons_zero, List.set_cons_succ]
                  refine wpAnyH_take_dst (i := 12) (v := undef) (d := some 85) rfl rfl (by kernel_rfl) (by kernel_rfl) (by kernel_rfl) (fun _ _ _ h => h) (Or.inr ⟨by rfl, rfl⟩) hH ?_
                  try simp only [Act.put, List.setIfInBounds_toArray, List.set_cons_zero, List.set_cons_succ]
                  refine wpAnyH_take_dst (i := 13) (v := undef) (d := some 86) rfl rfl (by kernel_rfl) (by kernel_rfl) (by kernel_rfl) (fun _ _ _ h => h) (Or.inr ⟨by rfl, rfl⟩) hH ?_
                  try simp only [Act.put, List.setIfInBounds_toArray, List.set_cons_zero, List.set_cons_succ]
                  refine wpAnyH_take_dst (i := 14) (v := undef) (d := some 87) rfl rfl (by kernel_rfl) (by kernel_rfl) (by kernel_rfl) (fun _ _ _ h => h) (Or.inr ⟨by rfl, rfl⟩) hH ?_
                  try simp only [Act.put, List.setIfInBounds_toArray, List.set_cons_zero, List.set_cons_succ]
                  refine wpAnyH_take_dst (i := 15) (v := undef) (d := some 88) rfl rfl (by kernel_rfl) (by kernel_rfl) (by kernel_rfl) (fun _ _ _ h => h) (Or.inr ⟨by rfl, rfl⟩) hH ?_
                  try simp only [Act.put, List.setIfInBounds_toArray, List.set_cons_zero, List.set_cons_succ]
                  refine wpAnyH_take_dst (i := 16) (v := undef) (d := some 89) rfl rfl (by kernel_rfl) (by kernel_rfl) (by kernel_rfl) (fun _ _ _ h => h) (Or.inr ⟨by rfl, rfl⟩) hH ?_
                  try simp only [Act.put, List.setIfInBounds_toArray, List.set_cons_zero, List.set_cons_succ]
                  refine wpAnyH_take_dst (i := 17) (v := undef) (d := some 90) rfl rfl (by kernel_rfl) (by kernel_rfl) (by kernel_rfl) (fun _ _ _ h => h) (Or.inr ⟨by rfl, rfl⟩) hH ?_
                  try simp only [Act.put, List.setIfInBounds_toArray, List.set_cons_zero, List.set_cons_succ]
                  refine wpAnyH_take_dst (i := 18) (v := undef) (d := some 91) rfl rfl (by kernel_rfl) (by kernel_rfl) (by kernel_rfl) (fun _ _ _ h => h) (Or.inr ⟨by rfl, rfl⟩) hH ?_
                  try simp only [Act.put, List.setIfInBounds_toArray, List.set_cons_zero, List.set_cons_succ]
                  refine wpAnyH_take_dst (i := 19) (v := undef) (d := some 92) rfl rfl (by kernel_rfl) (by kernel_rfl) (by kernel_rfl) (fun _ _ _ h => h) (Or.inr ⟨by rfl, rfl⟩) hH ?_
                  try simp only [Act.put, List.setIfInBounds_toArray, List.set_cons_zero, List.set_cons_succ]
                  refine wpAnyH_take_dst (i := 20) (v := undef) (d := some 93) rfl rfl (by kernel_rfl) (by kernel_rfl) (by kernel_rfl) (fun _ _ _ h => h) (Or.inr ⟨by rfl, rfl⟩) hH ?_
                  try simp only [Act.put, List.setIfInBounds_toArray, List.set_cons_zero, List.set_cons_succ]
                  refine wpAnyH_take_dst (i := 21) (v := undef) (d := some 94) rfl rfl (by kernel_rfl) (by kernel_rfl) (by kernel_rfl) (fun _ _ _ h => h) (Or.inr ⟨by rfl, rfl⟩) hH ?_
                  try simp only [Act.put, List.setIfInBounds_toArray, List.set_cons_zero, List.set_cons_succ]
                  refine wpAnyH_take_dst (i := 22) (v := undef) (d := some 95) rfl rfl (by kernel_rfl) (by kernel_rfl) (by kernel_rfl) (fun _ _ _ h => h) (Or.inr ⟨by rfl, rfl⟩) hH ?_
                  try simp only [Act.put, List.setIfInBounds_toArray, List.set_cons_zero, List.set_cons_succ]
                  refine wpAnyH_take_dst (i := 23) (v := undef) (d := some 96) rfl rfl (by kernel_rfl) (by kernel_rfl) (by kernel_rfl) (fun _ _ _ h => h) (Or.inr ⟨by rfl, rfl⟩) hH ?_
                  try simp only [Act.put, List.setIfInBounds_toArray, List.set_cons_zero, List.set_cons_succ]
                  refine wpAnyH_take_dst (i := 24) (v := .bool true) (d := some 97) rfl rfl (by kernel_rfl) (by kernel_rfl) (by kernel_rfl) (fun _ _ _ h => h) (Or.inl ⟨by rfl, ?_⟩) hH ?_
                  · (intro w hSw; (try dsimp only at hSw); go_split_ands; go_simp; try with_reducible rfl)
                  try simp only [Act.put, List.setIfInBounds_toArray, List.set_cons_zero, List.set_cons_succ]
                  refine wpAnyH_take_dst (i := 25) (v := .bool true) (d := some 14) rfl rfl (by kernel_rfl) (by kernel_rfl) (by kernel_rfl) (fun _ _ _ h => h) (Or.inl ⟨by rfl, ?_⟩) hH ?_
                  · (intro w hSw; (try dsimp only at hSw); go_split_ands; go_simp; try with_reducible rfl)
                  try simp only [Act.put, List.setIfInBounds_toArray, List.set_cons_zero, List.set_cons_succ]
                  refine wpAnyH_done (by kernel_rfl) ?_ _
                  go_wp2_with fail
                  go_roundw
                  case rel => exact ⟨j + 1, by go_num, by omega, ⟨true, rfl, Lib.hid ⟨fun _ => HN.out, fun _ => rfl⟩⟩, Ext.trans hEc8 hH⟩
                  case measure => simp only [intOf]; omega
                | false =>
                  by_cases hy0 : 0 < y
                  · have hyd : decide ((y : Int) > 0) = true := by simp; omega
                    have hyg : (y : Int) > 0 := by omega
                    obtain ⟨V, hV⟩ : ∃ V, V = (subT arU r.l y).flat := ⟨_, rfl⟩
                    have HV := Lib.hid hV
                    obtain ⟨z, hz⟩ : ∃ z, (V == u) = z := ⟨_, rfl⟩
                    have HZ := Lib.hid hz
                    have HN := Lib.hid (show z = true ↔ PartTo arU r.l u (j + 1) ys by
                      rw [HPSU.out, ← hz, beq_iff_eq, hV, Int.toNat_natCast]
                      constructor
                      · intro e; exact .inr ⟨by omega, e⟩
                      · rintro (h | h)
                        · have := hq.out.2 h; cases this
                        · exact h.2)
                    clear hV hz
                    go_wp2_with fail
                    refine wp_region_held_drew (S := (fun w' => w'.cell? ⟨p, 0, none⟩ = some (.slice AS 3 cS) ∧ w'.cell? ⟨p, 1, none⟩ = some (.slice (some ⟨rb, ro, none⟩) m d) ∧ w'.cell? ⟨rb, ro + k * 2, none⟩ = some (.slice L1 l1n l1c) ∧ w'.cell? ⟨eb, eo + j, none⟩ = some (.int .i64 (y : Int)) ∧ Ext wr w')) (by kernel_rfl) ?_ (fun hH => ?_)
                    · exact ⟨hq0, hq1, hq2, hyc, (Ext.refl wr).drew⟩
                    refine wpAnyH_take_dst (i := 0) (v := .bool false) (d := some 73) rfl rfl (by kernel_rfl) (by kernel_rfl) (by kernel_rfl) (fun _ _ _ h => h) (Or.inl ⟨by rfl, ?_⟩) hH ?_
                    · (intro w hSw; (try dsimp only at hSw); go_split_ands; go_simp; try with_reducible rfl)
                    try simp only [Act.put, List.setIfInBounds_toArray, List.set_cons_zero, List.set_cons_succ]
                    refine wpAnyH_take_dst (i := 1) (v := .bool false) (d := some 74) rfl rfl (by kernel_rfl) (by kernel_rfl) (by kernel_rfl) (fun _ _ _ h => h) (Or.inl ⟨by rfl, ?_⟩) hH ?_
                    · (intro w hSw; (try dsimp only at hSw); go_split_ands; go_simp; try with_reducible rfl)
                    try simp only [Act.put, List.setIfInBounds_toArray, List.set_cons_zero, List.set_cons_succ]
                    refine wpAnyH_take_dst (i := 2) (v := .slice (some ⟨eb, eo, none⟩) en ec) (d := some 75) rfl rfl (by kernel_rfl) (by kernel_rfl) (by kernel_rfl) (fun _ _ _ h => h) (Or.inl ⟨by rfl, ?_⟩) hH ?_
                    · (intro w hSw; (try dsimp only at hSw); go_split_ands; go_simp; try with_reducible rfl)
                    try simp only [Act.put, List.setIfInBounds_toArray, List.set_cons_zero, List.set_cons_succ]
                    refine wpAnyH_take_dst (i := 3) (v := .int .i64 (j : Int)) (d := some 76) rfl rfl (by kernel_rfl) (by kernel_rfl) (by kernel_rfl) (fun _ _ _ h => h) (Or.inl ⟨by rfl, ?_⟩) hH ?_
                    · (intro w hSw; (try dsimp only at hSw); go_split_ands; go_simp; try with_reducible rfl)
                    try simp only [Act.put, List.setIfInBounds_toArray, List.set_cons_zero, List.set_cons_succ]
                    refine wpAnyH_take_dst (i := 4) (v := .pointer (some ⟨eb, eo + j, none⟩)) (d := some 77) rfl rfl (by kernel_rfl) (by kernel_rfl) (by kernel_rfl) (fun _ _ _ h => h) (Or.inl ⟨by rfl, ?_⟩) hH ?_
                    · (intro w hSw; (try dsimp only at hSw); go_split_ands; go_simp; try with_reducible rfl)
                    try simp only [Act.put, List.setIfInBounds_toArray, List.set_cons_zero, List.set_cons_succ]
                    refine wpAnyH_take_dst (i := 5) (v := .int .i64 (y : Int)) (d := some 78) rfl rfl (by kernel_rfl) (by kernel_rfl) (by kernel_rfl) (fun _ _ _ h => h) (Or.inl ⟨by rfl, ?_⟩) hH ?_
                    · (intro w hSw; (try dsimp only at hSw); go_split_ands; go_simp; try with_reducible rfl)
                    try simp only [Act.put, List.setIfInBounds_toArray, List.set_cons_zero, List.set_cons_succ]
                    refine wpAnyH_take_dst (i := 6) (v := .bool true) (d := some 79) rfl rfl (by kernel_rfl) (by kernel_rfl) (by kernel_rfl) (fun _ _ _ h => h) (Or.inl ⟨by rfl, ?_⟩) hH ?_
                    · (intro w hSw; (try dsimp only at hSw); go_split_ands; go_simp; try with_reducible rfl)
                    try simp only [Act.put, List.setIfInBounds_toArray, List.set_cons_zero, List.set_cons_succ]
                    refine wpAnyH_take_dst (i := 7) (v := .bool true) (d := some 80) rfl rfl (by kernel_rfl) (by kernel_rfl) (by kernel_rfl) (fun _ _ _ h => h) (Or.inl ⟨by rfl, ?_⟩) hH ?_
                    · (intro w hSw; (try dsimp only at hSw); go_split_ands; go_simp; try with_reducible rfl)
                    try simp only [Act.put, List.setIfInBounds_toArray, List.set_cons_zero, List.set_cons_succ]
                    refine wpAnyH_take_dst (i := 8) (v := .pointer (some ⟨p, 0, none⟩)) (d := some 81) rfl rfl (by kernel_rfl) (by kernel_rfl) (by kernel_rfl) (fun _ _ _ h => h) (Or.inl ⟨by rfl, ?_⟩) hH ?_
                    · (intro w hSw; (try dsimp only at hSw); go_split_ands; go_simp; try with_reducible rfl)
                    try simp only [Act.put, List.setIfInBounds_toArray, List.set_cons_zero, List.set_cons_succ]
                    refine wpAnyH_take_dst (i := 9) (v := .agg #[.slice AS 3 cS]) (d := some 82) rfl rfl (by kernel_rfl) (by kernel_rfl) (by kernel_rfl) (fun _ _ _ h => h) (Or.inl ⟨by rfl, ?_⟩) hH ?_
                    · (intro w hSw; (try dsimp only at hSw); go_split_ands; go_simp; try with_reducible rfl)
                    try simp only [Act.put, List.setIfInBounds_toArray, List.set_cons_zero, List.set_cons_succ]
                    refine wpAnyH_take_dst (i := 10) (v := .pointer (some ⟨p, 1, none⟩)) (d := some 83) rfl rfl (by kernel_rfl) (by kernel_rfl) (by kernel_rfl) (fun _ _ _ h => h) (Or.inl ⟨by rfl, ?_⟩) hH ?_
                    · (intro w hSw; (try dsimp only at hSw); go_split_ands; go_simp; try with_reducible rfl)
                    try simp only [Act.put, List.setIfInBounds_toArray, List.set_cons_zero, List.set_cons_succ]
                    refine wpAnyH_take_dst (i := 11) (v := .slice (some ⟨rb, ro, none⟩) m d) (d := some 84) rfl rfl (by kernel_rfl) (by kernel_rfl) (by kernel_rfl) (fun _ _ _ h => h) (Or.inl ⟨by rfl, ?_⟩) hH ?_
                    · (intro w hSw; (try dsimp only at hSw); go_split_ands; go_simp; try with_reducible rfl)
                    try simp only [Act.put, List.setIfInBounds_toArray, List.set_cons_zero, List.set_cons_succ]
                    refine wpAnyH_take_dst (i := 12) (v := .int .i64 (k : Int)) (d := some 85) rfl rfl (by kernel_rfl) (by kernel_rfl) (by kernel_rfl) (fun _ _ _ h => h) (Or.inl ⟨by rfl, ?_⟩) hH ?_
                    · (intro w hSw; (try dsimp only at hSw); go_split_ands; go_simp; try with_reducible rfl)
                    try simp only [Act.put, List.setIfInBounds_toArray, List.set_cons_zero, List.set_cons_succ]
                    refine wpAnyH_take_dst (i := 13) (v := .pointer (some ⟨rb, ro + k * 2, none⟩)) (d := some 86) rfl rfl (by kernel_rfl) (by kernel_rfl) (by kernel_rfl) (fun _ _ _ h => h) (Or.inl ⟨by rfl, ?_⟩) hH ?_
                    · (intro w hSw; (try dsimp only at hSw); go_split_ands; go_simp; try with_reducible rfl)
                    try simp only [Act.put, List.setIfInBounds_toArray, List.set_cons_zero, List.set_cons_succ]
                    refine wpAnyH_take_dst (i := 14) (v := .pointer (some ⟨rb, ro + k * 2, none⟩)) (d := some 87) rfl rfl (by kernel_rfl) (by kernel_rfl) (by kernel_rfl) (fun _ _ _ h => h) (Or.inl ⟨by rfl, ?_⟩) hH ?_
                    · (intro w hSw; (try dsimp only at hSw); go_split_ands; go_simp; try with_reducible rfl)
                    try simp only [Act.put, List.setIfInBounds_toArray, List.set_cons_zero, List.set_cons_succ]
                    refine wpAnyH_take_dst (i := 15) (v := .slice L1 l1n l1c) (d := some 88) rfl rfl (by kernel_rfl) (by kernel_rfl) (by kernel_rfl) (fun _ _ _ h => h) (Or.inl ⟨by rfl, ?_⟩) hH ?_
                    · (intro w hSw; (try dsimp only at hSw); go_split_ands; go_simp; try with_reducible rfl)
                    try simp only [Act.put, List.setIfInBounds_toArray, List.set_cons_zero, List.set_cons_succ]
                    refine wpAnyH_take_dst (i := 16) (v := .slice (some ⟨eb, eo, none⟩) en ec) (d := some 89) rfl rfl (by kernel_rfl) (by kernel_rfl) (by kernel_rfl) (fun _ _ _ h => h) (Or.inl ⟨by rfl, ?_⟩) hH ?_
                    · (intro w hSw; (try dsimp only at hSw); go_split_ands; go_simp; try with_reducible rfl)
                    try simp only [Act.put, List.setIfInBounds_toArray, List.set_cons_zero, List.set_cons_succ]
                    refine wpAnyH_take_dst (i := 17) (v := .int .i64 (j : Int)) (d := some 90) rfl rfl (by kernel_rfl) (by kernel_rfl) (by kernel_rfl) (fun _ _ _ h => h) (Or.inl ⟨by rfl, ?_⟩) hH ?_
                    · (intro w hSw; (try dsimp only at hSw); go_split_ands; go_simp; try with_reducible rfl)
                    try simp only [Act.put, List.setIfInBounds_toArray, List.set_cons_zero, List.set_cons_succ]
                    refine wpAnyH_take_dst (i := 18) (v := .pointer (some ⟨eb, eo + j, none⟩)) (d := some 91) rfl rfl (by kernel_rfl) (by kernel_rfl) (by kernel_rfl) (fun _ _ _ h => h) (Or.inl ⟨by rfl, ?_⟩) hH ?_
                    · (intro w hSw; (try dsimp only at hSw); go_split_ands; go_simp; try with_reducible rfl)
                    try simp only [Act.put, List.setIfInBounds_toArray, List.set_cons_zero, List.set_cons_succ]
                    refine wpAnyH_take_dst (i := 19) (v := .int .i64 (y : Int)) (d := some 92) rfl rfl (by kernel_rfl) (by kernel_rfl) (by kernel_rfl) (fun _ _ _ h => h) (Or.inl ⟨by rfl, ?_⟩) hH ?_
                    · (intro w hSw; (try dsimp only at hSw); go_split_ands; go_simp; try with_reducible rfl)
                    try simp only [Act.put, List.setIfInBounds_toArray, List.set_cons_zero, List.set_cons_succ]
                    refine wpAnyH_take_dst (i := 21) (v := .slice UA un uc) (d := some 94) rfl rfl (by kernel_rfl) (by kernel_rfl) (by kernel_rfl) (fun _ _ _ h => h) (Or.inl ⟨by rfl, ?_⟩) hH ?_
                    · (intro w hSw; (try dsimp only at hSw); go_split_ands; go_simp; try with_reducible rfl)
                    try simp only [Act.put, List.setIfInBounds_toArray, List.set_cons_zero, List.set_cons_succ]
                    refine wpAnyH_ready (rs := [20]) (by kernel_rfl) (by simp) ?_
                    refine AllReadyH.cons rfl (fun K hK => ?_) AllReadyH.nil
                    rw [if_pos (by rfl)]
                    go_wp2_with (go_at_call 11; (with_reducible refine ((c_SubAtA HV.out (HYc.out.ext hH.2.2.2.2).sig (RI.ext HRL.out (Ext.trans hEc hH.2.2.2.2)) HCL.out HTL.out HYL.out)).mono ?_); rintro e w9 ⟨VA, vn, vc, rfl, hOV, hE9⟩)
                    refine hK.out _ _ ⟨Ext.keep hE9 hH.1, Ext.keep hE9 hH.2.1, Ext.keep hE9 hH.2.2.1, Ext.keep hE9 hH.2.2.2.1, Ext.trans hH.2.2.2.2 hE9⟩ (fun hH9 => ?_)
                    clear hK hH; have hH := hH9; clear hH9
                    try simp only [Act.put, List.setIfInBounds_toArray, List.set_cons_zero, List.set_cons_succ]
                    refine wpAnyH_ready (rs := [22]) (by kernel_rfl) (by simp) ?_
                    refine AllReadyH.cons rfl (fun K hK => ?_) AllReadyH.nil
                    rw [if_pos (by rfl)]
                    go_wp2_with (go_at_call 13; (with_reducible refine ((c_likeInts HZ.out (RdI.mk hOV.ri) (RdI.mk (RI.ext HUI.out (Ext.trans hE7c (by first | exact Ext.trans hH.2.2.2.2 hE9 | exact hH.2.2.2.2)))))).mono ?_); rintro e w9 ⟨rfl, hE9⟩)
                    refine hK.out _ _ ⟨Ext.keep hE9 hH.1, Ext.keep hE9 hH.2.1, Ext.keep hE9 hH.2.2.1, Ext.keep hE9 hH.2.2.2.1, Ext.trans hH.2.2.2.2 hE9⟩ (fun hH9 => ?_)
                    clear hK hH; have hH := hH9; clear hH9
                    try simp only [Act.put, List.setIfInBounds_toArray, List.set_cons_zero, List.set_cons_succ]
                    refine wpAnyH_take_dst (i := 23) (v := .bool z) (d := some 96) rfl rfl (by kernel_rfl) (by kernel_rfl) (by kernel_rfl) (fun _ _ _ h => h) (Or.inl ⟨by rfl, ?_⟩) hH ?_
                    · (intro w hSw; (try dsimp only at hSw); go_split_ands; go_simp; try with_reducible rfl)
                    try simp only [Act.put, List.setIfInBounds_toArray, List.set_cons_zero, List.set_cons_succ]
                    refine wpAnyH_take_dst (i := 24) (v := .bool z) (d := some 97) rfl rfl (by kernel_rfl) (by kernel_rfl) (by kernel_rfl) (fun _ _ _ h => h) (Or.inl ⟨by rfl, ?_⟩) hH ?_
                    · (intro w hSw; (try dsimp only at hSw); go_split_ands; go_simp; try with_reducible rfl)
                    try simp only [Act.put, List.setIfInBounds_toArray, List.set_cons_zero, List.set_cons_succ]
                    refine wpAnyH_take_dst (i := 25) (v := .bool z) (d := some 14) rfl rfl (by kernel_rfl) (by kernel_rfl) (by kernel_rfl) (fun _ _ _ h => h) (Or.inl ⟨by rfl, ?_⟩) hH ?_
                    · (intro w hSw; (try dsimp only at hSw); go_split_ands; go_simp; try with_reducible rfl)
                    try simp only [Act.put, List.setIfInBounds_toArray, List.set_cons_zero, List.set_cons_succ]
                    refine wpAnyH_done (by kernel_rfl) ?_ _
                    have hH2 := hH.2.2.2.2
                    clear hH
                    go_wp2_with fail
                    go_roundw
                    case rel => exact ⟨j + 1, by go_num, by omega, ⟨z, rfl, HN⟩, Ext.trans hEc8 hH2⟩
                    case measure => simp only [intOf]; omega
                  · have hyd : decide ((y : Int) > 0) = false := by simp; omega
                    have hyg : ¬ (y : Int) > 0 := by omega
                    have HN := Lib.hid (show ¬ PartTo arU r.l u (j + 1) ys by
                      rw [HPSU.out]
                      rintro (h | h)
                      · have := hq.out.2 h; cases this
                      · omega)
                    go_wp2_with fail
                    refine wp_region_held_drew (S := (fun w' => w'.cell? ⟨eb, eo + j, none⟩ = some (.int .i64 (y : Int)) ∧ Ext wr w')) (by kernel_rfl) ?_ (fun hH => ?_)
                    · exact ⟨hyc, (Ext.refl wr).drew⟩
                    refine wpAnyH_take_dst (i := 0) (v := .bool false) (d := some 73) rfl rfl (by kernel_rfl) (by kernel_rfl) (by kernel_rfl) (fun _ _ _ h => h) (Or.inl ⟨by rfl, ?_⟩) hH ?_
                    · (intro w hSw; (try dsimp only at hSw); go_split_ands; go_simp; try with_reducible rfl)
                    try simp only [Act.put, List.setIfInBounds_toArray, List.set_cons_zero, List.set_cons_succ]
                    refine wpAnyH_take_dst (i := 1) (v := .bool false) (d := some 74) rfl rfl (by kernel_rfl) (by kernel_rfl) (by kernel_rfl) (fun _ _ _ h => h) (Or.inl ⟨by rfl, ?_⟩) hH ?_
                    · (intro w hSw; (try dsimp only at hSw); go_split_ands; go_simp; try with_reducible rfl)
                    try simp only [Act.put, List.setIfInBounds_toArray, List.set_cons_zero, List.set_cons_succ]
                    refine wpAnyH_take_dst (i := 2) (v := .slice (some ⟨eb, eo, none⟩) en ec) (d := some 75) rfl rfl (by kernel_rfl) (by kernel_rfl) (by kernel_rfl) (fun _ _ _ h => h) (Or.inl ⟨by rfl, ?_⟩) hH ?_
                    · (intro w hSw; (try dsimp only at hSw); go_split_ands; go_simp; try with_reducible rfl)
                    try simp only [Act.put, List.setIfInBounds_toArray, List.set_cons_zero, List.set_cons_succ]
                    refine wpAnyH_take_dst (i := 3) (v := .int .i64 (j : Int)) (d := some 76) rfl rfl (by kernel_rfl) (by kernel_rfl) (by kernel_rfl) (fun _ _ _ h => h) (Or.inl ⟨by rfl, ?_⟩) hH ?_
                    · (intro w hSw; (try dsimp only at hSw); go_split_ands; go_simp; try with_reducible rfl)
                    try simp only [Act.put, List.setIfInBounds_toArray, List.set_cons_zero, List.set_cons_succ]
                    refine wpAnyH_take_dst (i := 4) (v := .pointer (some ⟨eb, eo + j, none⟩)) (d := some 77) rfl rfl (by kernel_rfl) (by kernel_rfl) (by kernel_rfl) (fun _ _ _ h => h) (Or.inl ⟨by rfl, ?_⟩) hH ?_
                    · (intro w hSw; (try dsimp only at hSw); go_split_ands; go_simp; try with_reducible rfl)
                    try simp only [Act.put, List.setIfInBounds_toArray, List.set_cons_zero, List.set_cons_succ]
                    refine wpAnyH_take_dst (i := 5) (v := .int .i64 (y : Int)) (d := some 78) rfl rfl (by kernel_rfl) (by kernel_rfl) (by kernel_rfl) (fun _ _ _ h => h) (Or.inl ⟨by rfl, ?_⟩) hH ?_
                    · (intro w hSw; (try dsimp only at hSw); go_split_ands; go_simp; try with_reducible rfl)
                    try simp only [Act.put, List.setIfInBounds_toArray, List.set_cons_zero, List.set_cons_succ]
                    refine wpAnyH_take_dst (i := 6) (v := .bool false) (d := some 79) rfl rfl (by kernel_rfl) (by kernel_rfl) (by kernel_rfl) (fun _ _ _ h => h) (Or.inl ⟨by rfl, ?_⟩) hH ?_
                    · (intro w hSw; (try dsimp only at hSw); go_split_ands; go_simp; try with_reducible rfl)
                    try simp only [Act.put, List.setIfInBounds_toArray, List.set_cons_zero, List.set_cons_succ]
                    refine wpAnyH_take_dst (i := 7) (v := .bool false) (d := some 80) rfl rfl (by kernel_rfl) (by kernel_rfl) (by kernel_rfl) (fun _ _ _ h => h) (Or.inl ⟨by rfl, ?_⟩) hH ?_
                    · (intro w hSw; (try dsimp only at hSw); go_split_ands; go_simp; try with_reducible rfl)
                    try simp only [Act.put, List.setIfInBounds_toArray, List.set_cons_zero, List.set_cons_succ]
                    refine wpAnyH_take_dst (i := 8) (v := undef) (d := some 81) rfl rfl (by kernel_rfl) (by kernel_rfl) (by kernel_rfl) (fun _ _ _ h => h) (Or.inr ⟨by rfl, rfl⟩) hH ?_
                    try simp only [Act.put, List.setIfInBounds_toArray, List.set_cons_zero, List.set_cons_succ]
                    refine wpAnyH_take_dst (i := 9) (v := undef) (d := some 82) rfl rfl (by kernel_rfl) (by kernel_rfl) (by kernel_rfl) (fun _ _ _ h => h) (Or.inr ⟨by rfl, rfl⟩) hH ?_
                    try simp only [Act.put, List.setIfInBounds_toArray, List.set_cons_zero, List.set_cons_succ]
                    refine wpAnyH_take_dst (i := 10) (v := undef) (d := some 83) rfl rfl (by kernel_rfl) (by kernel_rfl) (by kernel_rfl) (fun _ _ _ h => h) (Or.inr ⟨by rfl, rfl⟩) hH ?_
                    try simp only [Act.put, List.setIfInBounds_toArray, List.set_cons_zero, List.set_cons_succ]
                    refine wpAnyH_take_dst (i := 11) (v := undef) (d := some 84) rfl rfl (by kernel_rfl) (by kernel_rfl) (by kernel_rfl) (fun _ _ _ h => h) (Or.inr ⟨by rfl, rfl⟩) hH ?_
                    try simp only [Act.put, List.setIfInBounds_toArray, List.set_cons_zero, List.set_cons_succ]
                    refine wpAnyH_take_dst (i := 12) (v := undef) (d := some 85) rfl rfl (by kernel_rfl) (by kernel_rfl) (by kernel_rfl) (fun _ _ _ h => h) (Or.inr ⟨by rfl, rfl⟩) hH ?_
                    try simp only [Act.put, List.setIfInBounds_toArray, List.set_cons_zero, List.set_cons_succ]
                    refine wpAnyH_take_dst (i := 13) (v := undef) (d := some 86) rfl rfl (by kernel_rfl) (by kernel_rfl) (by kernel_rfl) (fun _ _ _ h => h) (Or.inr ⟨by rfl, rfl⟩) hH ?_
                    try simp only [Act.put, List.setIfInBounds_toArray, List.set_cons_zero, List.set_cons_succ]
                    refine wpAnyH_take_dst (i := 14) (v := undef) (d := some 87) rfl rfl (by kernel_rfl) (by kernel_rfl) (by kernel_rfl) (fun _ _ _ h => h) (Or.inr ⟨by rfl, rfl⟩) hH ?_
                    try simp only [Act.put, List.setIfInBounds_toArray, List.set_cons_zero, List.set_cons_succ]
                    refine wpAnyH_take_dst (i := 15) (v := undef) (d := some 88) rfl rfl (by kernel_rfl) (by kernel_rfl) (by kernel_rfl) (fun _ _ _ h => h) (Or.inr ⟨by rfl, rfl⟩) hH ?_
                    try simp only [Act.put, List.setIfInBounds_toArray, List.set_cons_zero, List.set_cons_succ]
                    refine wpAnyH_take_dst (i := 16) (v := undef) (d := some 89) rfl rfl (by kernel_rfl) (by kernel_rfl) (by kernel_rfl) (fun _ _ _ h => h) (Or.inr ⟨by rfl, rfl⟩) hH ?_
                    try simp only [Act.put, List.setIfInBounds_toArray, List.set_cons_zero, List.set_cons_succ]
                    refine wpAnyH_take_dst (i := 17) (v := undef) (d := some 90) rfl rfl (by kernel_rfl) (by kernel_rfl) (by kernel_rfl) (fun _ _ _ h => h) (Or.inr ⟨by rfl, rfl⟩) hH ?_
                    try simp only [Act.put, List.setIfInBounds_toArray, List.set_cons_zero, List.set_cons_succ]
                    refine wpAnyH_take_dst (i := 18) (v := undef) (d := some 91) rfl rfl (by kernel_rfl) (by kernel_rfl) (by kernel_rfl) (fun _ _ _ h => h) (Or.inr ⟨by rfl, rfl⟩) hH ?_
                    try simp only [Act.put, List.setIfInBounds_toArray, List.set_cons_zero, List.set_cons_succ]
                    refine wpAnyH_take_dst (i := 19) (v := undef) (d := some 92) rfl rfl (by kernel_rfl) (by kernel_rfl) (by kernel_rfl) (fun _ _ _ h => h) (Or.inr ⟨by rfl, rfl⟩) hH ?_
                    try simp only [Act.put, List.setIfInBounds_toArray, List.set_cons_zero, List.set_cons_succ]
                    refine wpAnyH_take_dst (i := 20) (v := undef) (d := some 93) rfl rfl (by kernel_rfl) (by kernel_rfl) (by kernel_rfl) (fun _ _ _ h => h) (Or.inr ⟨by rfl, rfl⟩) hH ?_
                    try simp only [Act.put, List.setIfInBounds_toArray, List.set_cons_zero, List.set_cons_succ]
                    refine wpAnyH_take_dst (i := 21) (v := undef) (d := some 94) rfl rfl (by kernel_rfl) (by kernel_rfl) (by kernel_rfl) (fun _ _ _ h => h) (Or.inr ⟨by rfl, rfl⟩) hH ?_
                    try simp only [Act.put, List.setIfInBounds_toArray, List.set_cons_zero, List.set_cons_succ]
                    refine wpAnyH_take_dst (i := 22) (v := undef) (d := some 95) rfl rfl (by kernel_rfl) (by kernel_rfl) (by kernel_rfl) (fun _ _ _ h => h) (Or.inr ⟨by rfl, rfl⟩) hH ?_
                    try simp only [Act.put, List.setIfInBounds_toArray, List.set_cons_zero, List.set_cons_succ]
                    refine wpAnyH_take_dst (i := 23) (v := .bool false) (d := some 96) rfl rfl (by kernel_rfl) (by kernel_rfl) (by kernel_rfl) (fun _ _ _ h => h) (Or.inl ⟨by rfl, ?_⟩) hH ?_
                    · (intro w hSw; (try dsimp only at hSw); go_split_ands; go_simp; try with_reducible rfl)
                    try simp only [Act.put, List.setIfInBounds_toArray, List.set_cons_zero, List.set_cons_succ]
                    refine wpAnyH_take_dst (i := 24) (v := .bool false) (d := some 97) rfl rfl (by kernel_rfl) (by kernel_rfl) (by kernel_rfl) (fun _ _ _ h => h) (Or.inl ⟨by rfl, ?_⟩) hH ?_
                    · (intro w hSw; (try dsimp only at hSw); go_split_ands; go_simp; try with_reducible rfl)
                    try simp only [Act.put, List.setIfInBounds_toArray, List.set_cons_zero, List.set_cons_succ]
                    refine wpAnyH_take_dst (i := 25) (v := .bool false) (d := some 14) rfl rfl (by kernel_rfl) (by kernel_rfl) (by kernel_rfl) (fun _ _ _ h => h) (Or.inl ⟨by rfl, ?_⟩) hH ?_
                    · (intro w hSw; (try dsimp only at hSw); go_split_ands; go_simp; try with_reducible rfl)
                    try simp only [Act.put, List.setIfInBounds_toArray, List.set_cons_zero, List.set_cons_succ]
                    refine wpAnyH_done (by kernel_rfl) ?_ _
                    have hH2 := hH.2
                    clear hH
                    go_wp2_with fail
                    go_roundw
                    case rel => exact ⟨j + 1, by go_num, by omega, ⟨false, rfl, Lib.hid ⟨(by intro h; cases h), fun h => absurd h HN.out⟩⟩, Ext.trans hEc8 hH2⟩
                    case measure => simp only [intOf]; omega
              · have HPT := Lib.hid (show q = true ↔ has arU r.l u = true from by
                  rw [← part_has HEM.out, show ys.length = j by have := HEL.out; omega]
                  exact hq.out)
                obtain ⟨wc, rfl⟩ : ∃ wc : World, wc = wr := ⟨_, rfl⟩
                go_wp2_with fail
                go_loopw [16, 17] (fun pv jv wr => ∃ j : Nat, jv = .int .i64 j ∧ j ≤ dn ∧ (∃ b : Bool, pv = .bool b ∧ Hid (b = true ↔ ∃ i, i < j ∧ ds[i]? = some x)) ∧ Ext wc wr) (fun _ jv _ => dn - (intOf jv).toNat)
                case atStart => exact ⟨0, rfl, Nat.zero_le _, ⟨false, rfl, Lib.hid ⟨(by intro h; cases h), (by rintro ⟨j, h, _⟩; omega)⟩⟩, Ext.refl _⟩
                case round =>
                  obtain ⟨j, rfl, hjd, ⟨b, rfl, hb⟩, hEd⟩ := hrel
                  have hE6d := Ext.trans hE (Ext.trans hEc hEd)
                  by_cases hjl2 : j < dn
                  · obtain ⟨db, do_, y, rfl, hy, hyc⟩ := RI.at_ (RI.ext HDR.out hE6d) hjl2
                    obtain ⟨ub, uo, x', rfl, hx', hxc⟩ := RI.at_ (RI.ext HUI.out (Ext.trans hE7c hEd)) hup
                    have hxx : x' = x := by rw [HUX.out] at hx'; exact (Option.some.inj hx').symm
                    rw [hxx] at hxc
                    have hxc0 : wr.cell? ⟨ub, uo, none⟩ = some (.int .i64 x) := hxc
                    have hji : (j : Int) < (dn : Int) := by omega
                    have hj0 : (0 : Int) ≤ (j : Int) := by omega
                    have hdn2 : dn ≤ 4194304 := hdn
                    have HY2 := Lib.hid hy
                    clear hy hx' hxc
                    cases b with
                    | true =>
                      have HN := Lib.hid (show ∃ i, i < j + 1 ∧ ds[i]? = some x by
                        obtain ⟨i, h1, h2⟩ := hb.out.1 rfl
                        exact ⟨i, by omega, h2⟩)
                      go_wp2_with fail
                      refine wp_region_held_drew (S := (fun w' => Ext wr w')) (by kernel_rfl) ?_ (fun hH => ?_)
                      · exact (Ext.refl wr).drew
                      refine wpAnyH_take_dst (i := 0) (v := .bool true) (d := some 104) rfl rfl (by kernel_rfl) (by kernel_rfl) (by kernel_rfl) (fun _ _ _ h => h) (Or.inl ⟨by rfl, ?_⟩) hH ?_
                      · (intro w hSw; (try dsimp only at hSw); go_split_ands; go_simp; try with_reducible rfl)
                      try simp only [Act.put, List.setIfInBounds_toArray, List.set_cons_zero, List.set_cons_succ]
                      refine wpAnyH_take_dst (i := 1) (v := .bool true) (d := some 105) rfl rfl (by kernel_rfl) (by kernel_rfl) (by kernel_rfl) (fun _ _ _ h => h) (Or.inl ⟨by rfl, ?_⟩) hH ?_
                      · (intro w hSw; (try dsimp only at hSw); go_split_ands; go_simp; try with_reducible rfl)
                      try simp only [Act.put, List.setIfInBounds_toArray, List.set_cons_zero, List.set_cons_succ]
                      refine wpAnyH_take_dst (i := 2) (v := undef) (d := some 106) rfl rfl (by kernel_rfl) (by kernel_rfl) (by kernel_rfl) (fun _ _ _ h => h) (Or.inr ⟨by rfl, rfl⟩) hH ?_
                      try simp only [Act.put, List.setIfInBounds_toArray, List.set_cons_zero, List.set_cons_succ]
                      refine wpAnyH_take_dst (i := 3) (v := undef) (d := some 107) rfl rfl (by kernel_rfl) (by kernel_rfl) (by kernel_rfl) (fun _ _ _ h => h) (Or.inr ⟨by rfl, rfl⟩) hH ?_
                      try simp only [Act.put, List.setIfInBounds_toArray, List.set_cons_zero, List.set_cons_succ]
                      refine wpAnyH_take_dst (i := 4) (v := undef) (d := some 108) rfl rfl (by kernel_rfl) (by kernel_rfl) (by kernel_rfl) (fun _ _ _ h => h) (Or.inr ⟨by rfl, rfl⟩) hH ?_
                      try simp only [Act.put, List.setIfInBounds_toArray, List.set_cons_zero, List.set_cons_succ]
                      refine wpAnyH_take_dst (i := 5) (v := undef) (d := some 109) rfl rfl (by kernel_rfl) (by kernel_rfl) (by kernel_rfl) (fun _ _ _ h => h) (Or.inr ⟨by rfl, rfl⟩) hH ?_
                      try simp only [Act.put, List.setIfInBounds_toArray, List.set_cons_zero, List.set_cons_succ]
                      refine wpAnyH_take_dst (i := 6) (v := undef) (d := some 110) rfl rfl (by kernel_rfl) (by kernel_rfl) (by kernel_rfl) (fun _ _ _ h => h) (Or.inr ⟨by rfl, rfl⟩) hH ?_
                      try simp only [Act.put, List.setIfInBounds_toArray, List.set_cons_zero, List.set_cons_succ]
                      refine wpAnyH_take_dst (i := 7) (v := undef) (d := some 111) rfl rfl (by kernel_rfl) (by kernel_rfl) (by kernel_rfl) (fun _ _ _ h => h) (Or.inr ⟨by rfl, rfl⟩) hH ?_
                      try simp only [Act.put, List.setIfInBounds_toArray, List.set_cons_zero, List.set_cons_succ]
                      refine wpAnyH_take_dst (i := 8) (v := undef) (d := some 112) rfl rfl (by kernel_rfl) (by kernel_rfl) (by kernel_rfl) (fun _ _ _ h => h) (Or.inr ⟨by rfl, rfl⟩) hH ?_
                      try simp only [Act.put, List.setIfInBounds_toArray, List.set_cons_zero, List.set_cons_succ]
                      refine wpAnyH_take_dst (i := 9) (v := undef) (d := some 113) rfl rfl (by kernel_rfl) (by kernel_rfl) (by kernel_rfl) (fun _ _ _ h => h) (Or.inr ⟨by rfl, rfl⟩) hH ?_
                      try simp only [Act.put, List.setIfInBounds_toArray, List.set_cons_zero, List.set_cons_succ]
                      refine wpAnyH_take_dst (i := 10) (v := .bool true) (d := some 114) rfl rfl (by kernel_rfl) (by kernel_rfl) (by kernel_rfl) (fun _ _ _ h => h) (Or.inl ⟨by rfl, ?_⟩) hH ?_
                      · (intro w hSw; (try dsimp only at hSw); go_split_ands; go_simp; try with_reducible rfl)
                      try simp only [Act.put, List.setIfInBounds_toArray, List.set_cons_zero, List.set_cons_succ]
                      refine wpAnyH_take_dst (i := 11) (v := .bool true) (d := some 16) rfl rfl (by kernel_rfl) (by kernel_rfl) (by kernel_rfl) (fun _ _ _ h => h) (Or.inl ⟨by rfl, ?_⟩) hH ?_
                      · (intro w hSw; (try dsimp only at hSw); go_split_ands; go_simp; try with_reducible rfl)
                      try simp only [Act.put, List.setIfInBounds_toArray, List.set_cons_zero, List.set_cons_succ]
                      refine wpAnyH_done (by kernel_rfl) ?_ _
                      go_wp2_with fail
                      go_roundw
                      case rel => exact ⟨j + 1, by go_num, by omega, ⟨true, rfl, Lib.hid ⟨fun _ => HN.out, fun _ => rfl⟩⟩, Ext.trans hEd hH⟩
                      case measure => simp only [intOf]; omega
                    | false =>
                      obtain ⟨z, hz⟩ : ∃ z, (x == y) = z := ⟨_, rfl⟩
                      have HN := Lib.hid (show z = true ↔ ∃ i, i < j + 1 ∧ ds[i]? = some x by
                        rw [← hz, beq_iff_eq]
                        constructor
                        · intro e; exact ⟨j, by omega, by rw [e]; exact HY2.out⟩
                        · rintro ⟨i, h1, h2⟩
                          rcases Nat.lt_or_ge i j with h | h
                          · have := hb.out.2 ⟨i, h, h2⟩; cases this
                          · obtain rfl : i = j := by omega
                            have := HY2.out; rw [h2] at this; exact Option.some.inj this)
                      go_wp2_with fail
                      refine wp_region_held_drew (S := (fun w' => w'.cell? ⟨ub, uo, none⟩ = some (.int .i64 x) ∧ w'.cell? ⟨db, do_ + j, none⟩ = some (.int .i64 y) ∧ Ext wr w')) (by kernel_rfl) ?_ (fun hH => ?_)
                      · exact ⟨hxc0, hyc, (Ext.refl wr).drew⟩
                      refine wpAnyH_take_dst (i := 0) (v := .bool false) (d := some 104) rfl rfl (by kernel_rfl) (by kernel_rfl) (by kernel_rfl) (fun _ _ _ h => h) (Or.inl ⟨by rfl, ?_⟩) hH ?_
                      · (intro w hSw; (try dsimp only at hSw); go_split_ands; go_simp; try with_reducible rfl)
                      try simp only [Act.put, List.setIfInBounds_toArray, List.set_cons_zero, List.set_cons_succ]
                      refine wpAnyH_take_dst (i := 1) (v := .bool false) (d := some 105) rfl rfl (by kernel_rfl) (by kernel_rfl) (by kernel_rfl) (fun _ _ _ h => h) (Or.inl ⟨by rfl, ?_⟩) hH ?_
                      · (intro w hSw; (try dsimp only at hSw); go_split_ands; go_simp; try with_reducible rfl)
                      try simp only [Act.put, List.setIfInBounds_toArray, List.set_cons_zero, List.set_cons_succ]
                      refine wpAnyH_take_dst (i := 2) (v := .slice (some ⟨ub, uo, none⟩) un uc) (d := some 106) rfl rfl (by kernel_rfl) (by kernel_rfl) (by kernel_rfl) (fun _ _ _ h => h) (Or.inl ⟨by rfl, ?_⟩) hH ?_
                      · (intro w hSw; (try dsimp only at hSw); go_split_ands; go_simp; try with_reducible rfl)
                      try simp only [Act.put, List.setIfInBounds_toArray, List.set_cons_zero, List.set_cons_succ]
                      refine wpAnyH_take_dst (i := 3) (v := .pointer (some ⟨ub, uo, none⟩)) (d := some 107) rfl rfl (by kernel_rfl) (by kernel_rfl) (by kernel_rfl) (fun _ _ _ h => h) (Or.inl ⟨by rfl, ?_⟩) hH ?_
                      · (intro w hSw; (try dsimp only at hSw); go_split_ands; go_simp; try with_reducible rfl)
                      try simp only [Act.put, List.setIfInBounds_toArray, List.set_cons_zero, List.set_cons_succ]
                      refine wpAnyH_take_dst (i := 4) (v := .int .i64 x) (d := some 108) rfl rfl (by kernel_rfl) (by kernel_rfl) (by kernel_rfl) (fun _ _ _ h => h) (Or.inl ⟨by rfl, ?_⟩) hH ?_
                      · (intro w hSw; (try dsimp only at hSw); go_split_ands; go_simp; try with_reducible rfl)
                      try simp only [Act.put, List.setIfInBounds_toArray, List.set_cons_zero, List.set_cons_succ]
                      refine wpAnyH_take_dst (i := 5) (v := .slice (some ⟨db, do_, none⟩) dn dc) (d := some 109) rfl rfl (by kernel_rfl) (by kernel_rfl) (by kernel_rfl) (fun _ _ _ h => h) (Or.inl ⟨by rfl, ?_⟩) hH ?_
                      · (intro w hSw; (try dsimp only at hSw); go_split_ands; go_simp; try with_reducible rfl)
                      try simp only [Act.put, List.setIfInBounds_toArray, List.set_cons_zero, List.set_cons_succ]
                      refine wpAnyH_take_dst (i := 6) (v := .int .i64 (j : Int)) (d := some 110) rfl rfl (by kernel_rfl) (by kernel_rfl) (by kernel_rfl) (fun _ _ _ h => h) (Or.inl ⟨by rfl, ?_⟩) hH ?_
                      · (intro w hSw; (try dsimp only at hSw); go_split_ands; go_simp; try with_reducible rfl)
                      try simp only [Act.put, List.setIfInBounds_toArray, List.set_cons_zero, List.set_cons_succ]
                      refine wpAnyH_take_dst (i := 7) (v := .pointer (some ⟨db, do_ + j, none⟩)) (d := some 111) rfl rfl (by kernel_rfl) (by kernel_rfl) (by kernel_rfl) (fun _ _ _ h => h) (Or.inl ⟨by rfl, ?_⟩) hH ?_
                      · (intro w hSw; (try dsimp only at hSw); go_split_ands; go_simp; try with_reducible rfl)
                      try simp only [Act.put, List.setIfInBounds_toArray, List.set_cons_zero, List.set_cons_succ]
                      refine wpAnyH_take_dst (i := 8) (v := .int .i64 y) (d := some 112) rfl rfl (by kernel_rfl) (by kernel_rfl) (by kernel_rfl) (fun _ _ _ h => h) (Or.inl ⟨by rfl, ?_⟩) hH ?_
                      · (intro w hSw; (try dsimp only at hSw); go_split_ands; go_simp; try with_reducible rfl)
                      try simp only [Act.put, List.setIfInBounds_toArray, List.set_cons_zero, List.set_cons_succ]
                      refine wpAnyH_take_dst (i := 9) (v := .bool z) (d := some 113) rfl rfl (by kernel_rfl) (by kernel_rfl) (by kernel_rfl) (fun _ _ _ h => h) (Or.inl ⟨by rfl, ?_⟩) hH ?_
                      · (intro w hSw; (try dsimp only at hSw); go_split_ands; go_simp; try with_reducible rfl)
                      try simp only [Act.put, List.setIfInBounds_toArray, List.set_cons_zero, List.set_cons_succ]
                      refine wpAnyH_take_dst (i := 10) (v := .bool z) (d := some 114) rfl rfl (by kernel_rfl) (by kernel_rfl) (by kernel_rfl) (fun _ _ _ h => h) (Or.inl ⟨by rfl, ?_⟩) hH ?_
                      · (intro w hSw; (try dsimp only at hSw); go_split_ands; go_simp; try with_reducible rfl)
                      try simp only [Act.put, List.setIfInBounds_toArray, List.set_cons_zero, List.set_cons_succ]
                      refine wpAnyH_take_dst (i := 11) (v := .bool z) (d := some 16) rfl rfl (by kernel_rfl) (by kernel_rfl) (by kernel_rfl) (fun _ _ _ h => h) (Or.inl ⟨by rfl, ?_⟩) hH ?_
                      · (intro w hSw; (try dsimp only at hSw); go_split_ands; go_simp; try with_reducible rfl)
                      try simp only [Act.put, List.setIfInBounds_toArray, List.set_cons_zero, List.set_cons_succ]
                      refine wpAnyH_done (by kernel_rfl) ?_ _
                      have hH2 := hH.2.2
                      clear hH
                      go_wp2_with fail
                      go_roundw
                      case rel => exact ⟨j + 1, by go_num, by omega, ⟨z, rfl, HN⟩, Ext.trans hEd hH2⟩
                      case measure => simp only [intOf]; omega
                  · have HCA := Lib.hid (show b = true ↔ dfd ⟨arU, rs⟩ x = true from by
                      rw [hb.out, ← heads_dfd HDH.out]
                      constructor
                      · rintro ⟨i, _, h⟩; exact List.mem_of_getElem? h
                      · intro h
                        obtain ⟨i, hi, e⟩ := List.mem_iff_getElem.1 h
                        exact ⟨i, by have := HDR.out.len; omega, by rw [List.getElem?_eq_getElem hi, e]⟩)
                    have hEad := Ext.trans hEc hEd
                    cases b with
                    | false =>
                      have HDN := Lib.hid (show prR ⟨arU, rs⟩ r k (a + 1) = prR ⟨arU, rs⟩ r k a from prR_none HXA.out (dep_none (.inl (by
                        cases hd : dfd ⟨arU, rs⟩ x with
                        | false => rfl
                        | true => have := HCA.out.2 hd; cases this))))
                      go_wp2_with fail
                      go_roundw
                      case rel => exact ⟨a + 1, nn, by go_num, by omega, rfl, by omega, Lib.hid (by rw [HDN.out]; exact hnn2.out), hEad⟩
                      case measure => simp only [intOf]; omega
                    | true =>
                      cases q with
                      | true =>
                        have HDN := Lib.hid (show prR ⟨arU, rs⟩ r k (a + 1) = prR ⟨arU, rs⟩ r k a from prR_none HXA.out (dep_none (.inr (by rw [← HU.out]; exact HPT.out.1 rfl))))
                        go_wp2_with fail
                        go_roundw
                        case rel => exact ⟨a + 1, nn, by go_num, by omega, rfl, by omega, Lib.hid (by rw [HDN.out]; exact hnn2.out), hEad⟩
                        case measure => simp only [intOf]; omega
                      | false =>
                        have hdep : depOf ⟨arU, rs⟩ r k a x = some ⟨r.l, u, (k : Int), (a : Int)⟩ := by
                          rw [HU.out]
                          refine dep_some HSY.out (HCA.out.1 rfl) ?_
                          rw [← HU.out]
                          cases hh : has arU r.l u with
                          | false => rfl
                          | true => have := HPT.out.2 hh; cases this
                        have hat := pr_at (s := ⟨arU, rs⟩) HR.out HXA.out hdep
                        rw [← hnn2.out, HPA.out] at hat
                        have hnp : nn < pn := by have h1 := (List.getElem?_eq_some_iff.1 hat).1; have := HPL.out; omega
                        have HDN := Lib.hid (show (prR ⟨arU, rs⟩ r k (a + 1)).length = (prR ⟨arU, rs⟩ r k a).length + 1 by rw [prR_some HXA.out hdep]; simp)
                        have HDG := Lib.hid (dep_good HSY.out HR.out HXA.out hdep rfl rfl)
                        have hE6w := Ext.trans hE hEad
                        obtain ⟨q', pbb, po, E1, e1n, e1c, E2, e2n, e2c, hqq, rfl, hc0, hc1, hc2', hc3', hcp1, hcp2, hE1, hE2⟩ := RE.at_ (HP6.out.ext hE6w) hnp
                        rw [hat] at hqq
                        cases hqq
                        have hc2 : wr.cell? ⟨pbb, po + nn * 4 + 2, none⟩ = some (.int .i64 (k : Int)) := hc2'
                        have hc3 : wr.cell? ⟨pbb, po + nn * 4 + 3, none⟩ = some (.int .i64 (a : Int)) := hc3'
                        have HE1 := Lib.hid (show RI wr E1 e1n r.l from hE1)
                        have HE2 := Lib.hid (show RI wr E2 e2n u from hE2)
                        have HUW := Lib.hid (RI.ext HUI.out (Ext.trans hE7c hEd))
                        have HLW := Lib.hid (RI.ext HRL.out hEad)
                        have HYW := Lib.hid (HYr.out.ext hEad)
                        have hq0 := HYW.out.c0
                        have hq1 := HYW.out.c1
                        have hq2 := Ext.keep hEad hrc0
                        have HLI1 := Lib.hid (show (u == u) = true by simp)
                        have HLI2 := Lib.hid (show (r.l == r.l) = true by simp)
                        have hnpi : (nn : Int) < (pn : Int) := by omega
                        have hnpg : ¬ ((nn : Int) ≥ (pn : Int)) := by omega
                        have hnpd : decide ((nn : Int) ≥ (pn : Int)) = false := by simp; omega
                        have hn0 : (0 : Int) ≤ (nn : Int) := by omega
                        have hkk : ((k : Int) != (k : Int)) = false := by simp
                        have haa : ((a : Int) != (a : Int)) = false := by simp
                        clear hdep hat hc2' hc3' hE1 hE2
                        go_wp2_with fail
                        refine wp_region_held_drew (S := (fun w' => w'.cell? ⟨p, 0, none⟩ = some (.slice AS 3 cS) ∧ w'.cell? ⟨p, 1, none⟩ = some (.slice (some ⟨rb, ro, none⟩) m d) ∧ w'.cell? ⟨rb, ro + k * 2, none⟩ = some (.slice L1 l1n l1c) ∧ w'.cell? ⟨pbb, po + nn * 4, none⟩ = some (.slice E1 e1n e1c) ∧ w'.cell? ⟨pbb, po + nn * 4 + 1, none⟩ = some (.slice E2 e2n e2c) ∧ w'.cell? ⟨pbb, po + nn * 4 + 2, none⟩ = some (.int .i64 (k : Int)) ∧ w'.cell? ⟨pbb, po + nn * 4 + 3, none⟩ = some (.int .i64 (a : Int)) ∧ Ext wr w')) (by kernel_rfl) ?_ (fun hH => ?_)
                        · exact ⟨hq0, hq1, hq2, hc0, hc1, hc2, hc3, (Ext.refl wr).drew⟩
                        refine wpAnyH_take_dst (i := 0) (v := .int .i64 (nn : Int)) (d := some 120) rfl rfl (by kernel_rfl) (by kernel_rfl) (by kernel_rfl) (fun _ _ _ h => h) (Or.inl ⟨by rfl, ?_⟩) hH ?_
                        · (intro w hSw; (try dsimp only at hSw); go_split_ands; go_simp; try with_reducible rfl)
                        try simp only [Act.put, List.setIfInBounds_toArray, List.set_cons_zero, List.set_cons_succ]
                        refine wpAnyH_take_dst (i := 1) (v := .slice (some ⟨pbb, po, none⟩) pn pc) (d := some 121) rfl rfl (by kernel_rfl) (by kernel_rfl) (by kernel_rfl) (fun _ _ _ h => h) (Or.inl ⟨by rfl, ?_⟩) hH ?_
                        · (intro w hSw; (try dsimp only at hSw); go_split_ands; go_simp; try with_reducible rfl)
                        try simp only [Act.put, List.setIfInBounds_toArray, List.set_cons_zero, List.set_cons_succ]
                        refine wpAnyH_take_dst (i := 2) (v := .int .i64 (pn : Int)) (d := some 122) rfl rfl (by kernel_rfl) (by kernel_rfl) (by kernel_rfl) (fun _ _ _ h => h) (Or.inl ⟨by rfl, ?_⟩) hH ?_
                        · (intro w hSw; (try dsimp only at hSw); go_split_ands; go_simp; try with_reducible rfl)
                        try simp only [Act.put, List.setIfInBounds_toArray, List.set_cons_zero, List.set_cons_succ]
                        refine wpAnyH_take_dst (i := 3) (v := .bool false) (d := some 123) rfl rfl (by kernel_rfl) (by kernel_rfl) (by kernel_rfl) (fun _ _ _ h => h) (Or.inl ⟨by rfl, ?_⟩) hH ?_
                        · (intro w hSw; (try dsimp only at hSw); go_split_ands; go_simp; try with_reducible rfl)
                        try simp only [Act.put, List.setIfInBounds_toArray, List.set_cons_zero, List.set_cons_succ]
                        refine wpAnyH_take_dst (i := 4) (v := .bool false) (d := some 124) rfl rfl (by kernel_rfl) (by kernel_rfl) (by kernel_rfl) (fun _ _ _ h => h) (Or.inl ⟨by rfl, ?_⟩) hH ?_
                        · (intro w hSw; (try dsimp only at hSw); go_split_ands; go_simp; try with_reducible rfl)
                        try simp only [Act.put, List.setIfInBounds_toArray, List.set_cons_zero, List.set_cons_succ]
                        refine wpAnyH_take_dst (i := 5) (v := .slice (some ⟨pbb, po, none⟩) pn pc) (d := some 125) rfl rfl (by kernel_rfl) (by kernel_rfl) (by kernel_rfl) (fun _ _ _ h => h) (Or.inl ⟨by rfl, ?_⟩) hH ?_
                        · (intro w hSw; (try dsimp only at hSw); go_split_ands; go_simp; try with_reducible rfl)
                        try simp only [Act.put, List.setIfInBounds_toArray, List.set_cons_zero, List.set_cons_succ]
                        refine wpAnyH_take_dst (i := 6) (v := .int .i64 (nn : Int)) (d := some 126) rfl rfl (by kernel_rfl) (by kernel_rfl) (by kernel_rfl) (fun _ _ _ h => h) (Or.inl ⟨by rfl, ?_⟩) hH ?_
                        · (intro w hSw; (try dsimp only at hSw); go_split_ands; go_simp; try with_reducible rfl)
                        try simp only [Act.put, List.setIfInBounds_toArray, List.set_cons_zero, List.set_cons_succ]
                        refine wpAnyH_take_dst (i := 7) (v := .pointer (some ⟨pbb, po + nn * 4, none⟩)) (d := some 127) rfl rfl (by kernel_rfl) (by kernel_rfl) (by kernel_rfl) (fun _ _ _ h => h) (Or.inl ⟨by rfl, ?_⟩) hH ?_
                        · (intro w hSw; (try dsimp only at hSw); go_split_ands; go_simp; try with_reducible rfl)
                        try simp only [Act.put, List.setIfInBounds_toArray, List.set_cons_zero, List.set_cons_succ]
                        refine wpAnyH_take_dst (i := 8) (v := .pointer (some ⟨pbb, po + nn * 4 + 2, none⟩)) (d := some 128) rfl rfl (by kernel_rfl) (by kernel_rfl) (by kernel_rfl) (fun _ _ _ h => h) (Or.inl ⟨by rfl, ?_⟩) hH ?_
                        · (intro w hSw; (try dsimp only at hSw); go_split_ands; go_simp; try with_reducible rfl)
                        try simp only [Act.put, List.setIfInBounds_toArray, List.set_cons_zero, List.set_cons_succ]
                        refine wpAnyH_take_dst (i := 9) (v := .int .i64 (k : Int)) (d := some 129) rfl rfl (by kernel_rfl) (by kernel_rfl) (by kernel_rfl) (fun _ _ _ h => h) (Or.inl ⟨by rfl, ?_⟩) hH ?_
                        · (intro w hSw; (try dsimp only at hSw); go_split_ands; go_simp; try with_reducible rfl)
                        try simp only [Act.put, List.setIfInBounds_toArray, List.set_cons_zero, List.set_cons_succ]
                        refine wpAnyH_take_dst (i := 10) (v := .int .i64 (k : Int)) (d := some 130) rfl rfl (by kernel_rfl) (by kernel_rfl) (by kernel_rfl) (fun _ _ _ h => h) (Or.inl ⟨by rfl, ?_⟩) hH ?_
                        · (intro w hSw; (try dsimp only at hSw); go_split_ands; go_simp; try with_reducible rfl)
                        try simp only [Act.put, List.setIfInBounds_toArray, List.set_cons_zero, List.set_cons_succ]
                        refine wpAnyH_take_dst (i := 11) (v := .bool false) (d := some 131) rfl rfl (by kernel_rfl) (by kernel_rfl) (by kernel_rfl) (fun _ _ _ h => h) (Or.inl ⟨by rfl, ?_⟩) hH ?_
                        · (intro w hSw; (try dsimp only at hSw); go_split_ands; go_simp; try with_reducible rfl)
                        try simp only [Act.put, List.setIfInBounds_toArray, List.set_cons_zero, List.set_cons_succ]
                        refine wpAnyH_take_dst (i := 12) (v := .bool false) (d := some 132) rfl rfl (by kernel_rfl) (by kernel_rfl) (by kernel_rfl) (fun _ _ _ h => h) (Or.inl ⟨by rfl, ?_⟩) hH ?_
                        · (intro w hSw; (try dsimp only at hSw); go_split_ands; go_simp; try with_reducible rfl)
                        try simp only [Act.put, List.setIfInBounds_toArray, List.set_cons_zero, List.set_cons_succ]
                        refine wpAnyH_take_dst (i := 13) (v := .bool false) (d := some 133) rfl rfl (by kernel_rfl) (by kernel_rfl) (by kernel_rfl) (fun _ _ _ h => h) (Or.inl ⟨by rfl, ?_⟩) hH ?_
                        · (intro w hSw; (try dsimp only at hSw); go_split_ands; go_simp; try with_reducible rfl)
                        try simp only [Act.put, List.setIfInBounds_toArray, List.set_cons_zero, List.set_cons_succ]
                        refine wpAnyH_take_dst (i := 14) (v := .slice (some ⟨pbb, po, none⟩) pn pc) (d := some 134) rfl rfl (by kernel_rfl) (by kernel_rfl) (by kernel_rfl) (fun _ _ _ h => h) (Or.inl ⟨by rfl, ?_⟩) hH ?_
                        · (intro w hSw; (try dsimp only at hSw); go_split_ands; go_simp; try with_reducible rfl)
                        try simp only [Act.put, List.setIfInBounds_toArray, List.set_cons_zero, List.set_cons_succ]
                        refine wpAnyH_take_dst (i := 15) (v := .int .i64 (nn : Int)) (d := some 135) rfl rfl (by kernel_rfl) (by kernel_rfl) (by kernel_rfl) (fun _ _ _ h => h) (Or.inl ⟨by rfl, ?_⟩) hH ?_
                        · (intro w hSw; (try dsimp only at hSw); go_split_ands; go_simp; try with_reducible rfl)
                        try simp only [Act.put, List.setIfInBounds_toArray, List.set_cons_zero, List.set_cons_succ]
                        refine wpAnyH_take_dst (i := 16) (v := .pointer (some ⟨pbb, po + nn * 4, none⟩)) (d := some 136) rfl rfl (by kernel_rfl) (by kernel_rfl) (by kernel_rfl) (fun _ _ _ h => h) (Or.inl ⟨by rfl, ?_⟩) hH ?_
                        · (intro w hSw; (try dsimp only at hSw); go_split_ands; go_simp; try with_reducible rfl)
                        try simp only [Act.put, List.setIfInBounds_toArray, List.set_cons_zero, List.set_cons_succ]
                        refine wpAnyH_take_dst (i := 17) (v := .pointer (some ⟨pbb, po + nn * 4 + 3, none⟩)) (d := some 137) rfl rfl (by kernel_rfl) (by kernel_rfl) (by kernel_rfl) (fun _ _ _ h => h) (Or.inl ⟨by rfl, ?_⟩) hH ?_
                        · (intro w hSw; (try dsimp only at hSw); go_split_ands; go_simp; try with_reducible rfl)
                        try simp only [Act.put, List.setIfInBounds_toArray, List.set_cons_zero, List.set_cons_succ]
                        refine wpAnyH_take_dst (i := 18) (v := .int .i64 (a : Int)) (d := some 138) rfl rfl (by kernel_rfl) (by kernel_rfl) (by kernel_rfl) (fun _ _ _ h => h) (Or.inl ⟨by rfl, ?_⟩) hH ?_
                        · (intro w hSw; (try dsimp only at hSw); go_split_ands; go_simp; try with_reducible rfl)
                        try simp only [Act.put, List.setIfInBounds_toArray, List.set_cons_zero, List.set_cons_succ]
                        refine wpAnyH_take_dst (i := 19) (v := .int .i64 (a : Int)) (d := some 139) rfl rfl (by kernel_rfl) (by kernel_rfl) (by kernel_rfl) (fun _ _ _ h => h) (Or.inl ⟨by rfl, ?_⟩) hH ?_
                        · (intro w hSw; (try dsimp only at hSw); go_split_ands; go_simp; try with_reducible rfl)
                        try simp only [Act.put, List.setIfInBounds_toArray, List.set_cons_zero, List.set_cons_succ]
                        refine wpAnyH_take_dst (i := 20) (v := .bool false) (d := some 140) rfl rfl (by kernel_rfl) (by kernel_rfl) (by kernel_rfl) (fun _ _ _ h => h) (Or.inl ⟨by rfl, ?_⟩) hH ?_
                        · (intro w hSw; (try dsimp only at hSw); go_split_ands; go_simp; try with_reducible rfl)
                        try simp only [Act.put, List.setIfInBounds_toArray, List.set_cons_zero, List.set_cons_succ]
                        refine wpAnyH_take_dst (i := 21) (v := .bool false) (d := some 141) rfl rfl (by kernel_rfl) (by kernel_rfl) (by kernel_rfl) (fun _ _ _ h => h) (Or.inl ⟨by rfl, ?_⟩) hH ?_
                        · (intro w hSw; (try dsimp only at hSw); go_split_ands; go_simp; try with_reducible rfl)
                        try simp only [Act.put, List.setIfInBounds_toArray, List.set_cons_zero, List.set_cons_succ]
                        refine wpAnyH_take_dst (i := 22) (v := .bool false) (d := some 142) rfl rfl (by kernel_rfl) (by kernel_rfl) (by kernel_rfl) (fun _ _ _ h => h) (Or.inl ⟨by rfl, ?_⟩) hH ?_
                        · (intro w hSw; (try dsimp only at hSw); go_split_ands; go_simp; try with_reducible rfl)
                        try simp only [Act.put, List.setIfInBounds_toArray, List.set_cons_zero, List.set_cons_succ]
                        refine wpAnyH_take_dst (i := 23) (v := .slice (some ⟨pbb, po, none⟩) pn pc) (d := some 143) rfl rfl (by kernel_rfl) (by kernel_rfl) (by kernel_rfl) (fun _ _ _ h => h) (Or.inl ⟨by rfl, ?_⟩) hH ?_
                        · (intro w hSw; (try dsimp only at hSw); go_split_ands; go_simp; try with_reducible rfl)
                        try simp only [Act.put, List.setIfInBounds_toArray, List.set_cons_zero, List.set_cons_succ]
                        refine wpAnyH_take_dst (i := 24) (v := .int .i64 (nn : Int)) (d := some 144) rfl rfl (by kernel_rfl) (by kernel_rfl) (by kernel_rfl) (fun _ _ _ h => h) (Or.inl ⟨by rfl, ?_⟩) hH ?_
                        · (intro w hSw; (try dsimp only at hSw); go_split_ands; go_simp; try with_reducible rfl)
                        try simp only [Act.put, List.setIfInBounds_toArray, List.set_cons_zero, List.set_cons_succ]
                        refine wpAnyH_take_dst (i := 25) (v := .pointer (some ⟨pbb, po + nn * 4, none⟩)) (d := some 145) rfl rfl (by kernel_rfl) (by kernel_rfl) (by kernel_rfl) (fun _ _ _ h => h) (Or.inl ⟨by rfl, ?_⟩) hH ?_
                        · (intro w hSw; (try dsimp only at hSw); go_split_ands; go_simp; try with_reducible rfl)
                        try simp only [Act.put, List.setIfInBounds_toArray, List.set_cons_zero, List.set_cons_succ]
                        refine wpAnyH_take_dst (i := 26) (v := .pointer (some ⟨pbb, po + nn * 4 + 1, none⟩)) (d := some 146) rfl rfl (by kernel_rfl) (by kernel_rfl) (by kernel_rfl) (fun _ _ _ h => h) (Or.inl ⟨by rfl, ?_⟩) hH ?_
                        · (intro w hSw; (try dsimp only at hSw); go_split_ands; go_simp; try with_reducible rfl)
                        try simp only [Act.put, List.setIfInBounds_toArray, List.set_cons_zero, List.set_cons_succ]
                        refine wpAnyH_take_dst (i := 27) (v := .slice E2 e2n e2c) (d := some 147) rfl rfl (by kernel_rfl) (by kernel_rfl) (by kernel_rfl) (fun _ _ _ h => h) (Or.inl ⟨by rfl, ?_⟩) hH ?_
                        · (intro w hSw; (try dsimp only at hSw); go_split_ands; go_simp; try with_reducible rfl)
                        try simp only [Act.put, List.setIfInBounds_toArray, List.set_cons_zero, List.set_cons_succ]
                        refine wpAnyH_take_dst (i := 28) (v := .slice UA un uc) (d := some 148) rfl rfl (by kernel_rfl) (by kernel_rfl) (by kernel_rfl) (fun _ _ _ h => h) (Or.inl ⟨by rfl, ?_⟩) hH ?_
                        · (intro w hSw; (try dsimp only at hSw); go_split_ands; go_simp; try with_reducible rfl)
                        try simp only [Act.put, List.setIfInBounds_toArray, List.set_cons_zero, List.set_cons_succ]
                        refine wpAnyH_ready (rs := [29]) (by kernel_rfl) (by simp) ?_
                        refine AllReadyH.cons rfl (fun K hK => ?_) AllReadyH.nil
                        rw [if_pos (by rfl)]
                        go_wp2_with (go_at_call 13; (with_reducible refine ((c_likeInts HLI1.out (RdI.mk (RI.ext HE2.out hH.2.2.2.2.2.2.2)) (RdI.mk (RI.ext HUW.out hH.2.2.2.2.2.2.2)))).mono ?_); rintro e w9 ⟨rfl, hE9⟩)
                        refine hK.out _ _ ⟨Ext.keep hE9 hH.1, Ext.keep hE9 hH.2.1, Ext.keep hE9 hH.2.2.1, Ext.keep hE9 hH.2.2.2.1, Ext.keep hE9 hH.2.2.2.2.1, Ext.keep hE9 hH.2.2.2.2.2.1, Ext.keep hE9 hH.2.2.2.2.2.2.1, Ext.trans hH.2.2.2.2.2.2.2 hE9⟩ (fun hH9 => ?_)
                        clear hK hH; have hH := hH9; clear hH9
                        try simp only [Act.put, List.setIfInBounds_toArray, List.set_cons_zero, List.set_cons_succ]
                        refine wpAnyH_take_dst (i := 30) (v := .bool false) (d := some 150) rfl rfl (by kernel_rfl) (by kernel_rfl) (by kernel_rfl) (fun _ _ _ h => h) (Or.inl ⟨by rfl, ?_⟩) hH ?_
                        · (intro w hSw; (try dsimp only at hSw); go_split_ands; go_simp; try with_reducible rfl)
                        try simp only [Act.put, List.setIfInBounds_toArray, List.set_cons_zero, List.set_cons_succ]
                        refine wpAnyH_take_dst (i := 31) (v := .bool false) (d := some 151) rfl rfl (by kernel_rfl) (by kernel_rfl) (by kernel_rfl) (fun _ _ _ h => h) (Or.inl ⟨by rfl, ?_⟩) hH ?_
                        · (intro w hSw; (try dsimp only at hSw); go_split_ands; go_simp; try with_reducible rfl)
                        try simp only [Act.put, List.setIfInBounds_toArray, List.set_cons_zero, List.set_cons_succ]
                        refine wpAnyH_take_dst (i := 32) (v := .bool false) (d := some 152) rfl rfl (by kernel_rfl) (by kernel_rfl) (by kernel_rfl) (fun _ _ _ h => h) (Or.inl ⟨by rfl, ?_⟩) hH ?_
                        · (intro w hSw; (try dsimp only at hSw); go_split_ands; go_simp; try with_reducible rfl)
                        try simp only [Act.put, List.setIfInBounds_toArray, List.set_cons_zero, List.set_cons_succ]
                        refine wpAnyH_take_dst (i := 33) (v := .slice (some ⟨pbb, po, none⟩) pn pc) (d := some 153) rfl rfl (by kernel_rfl) (by kernel_rfl) (by kernel_rfl) (fun _ _ _ h => h) (Or.inl ⟨by rfl, ?_⟩) hH ?_
                        · (intro w hSw; (try dsimp only at hSw); go_split_ands; go_simp; try with_reducible rfl)
                        try simp only [Act.put, List.setIfInBounds_toArray, List.set_cons_zero, List.set_cons_succ]
                        refine wpAnyH_take_dst (i := 34) (v := .int .i64 (nn : Int)) (d := some 154) rfl rfl (by kernel_rfl) (by kernel_rfl) (by kernel_rfl) (fun _ _ _ h => h) (Or.inl ⟨by rfl, ?_⟩) hH ?_
                        · (intro w hSw; (try dsimp only at hSw); go_split_ands; go_simp; try with_reducible rfl)
                        try simp only [Act.put, List.setIfInBounds_toArray, List.set_cons_zero, List.set_cons_succ]
                        refine wpAnyH_take_dst (i := 35) (v := .pointer (some ⟨pbb, po + nn * 4, none⟩)) (d := some 155) rfl rfl (by kernel_rfl) (by kernel_rfl) (by kernel_rfl) (fun _ _ _ h => h) (Or.inl ⟨by rfl, ?_⟩) hH ?_
                        · (intro w hSw; (try dsimp only at hSw); go_split_ands; go_simp; try with_reducible rfl)
                        try simp only [Act.put, List.setIfInBounds_toArray, List.set_cons_zero, List.set_cons_succ]
                        refine wpAnyH_take_dst (i := 36) (v := .pointer (some ⟨pbb, po + nn * 4, none⟩)) (d := some 156) rfl rfl (by kernel_rfl) (by kernel_rfl) (by kernel_rfl) (fun _ _ _ h => h) (Or.inl ⟨by rfl, ?_⟩) hH ?_
                        · (intro w hSw; (try dsimp only at hSw); go_split_ands; go_simp; try with_reducible rfl)
                        try simp only [Act.put, List.setIfInBounds_toArray, List.set_cons_zero, List.set_cons_succ]
                        refine wpAnyH_take_dst (i := 37) (v := .slice E1 e1n e1c) (d := some 157) rfl rfl (by kernel_rfl) (by kernel_rfl) (by kernel_rfl) (fun _ _ _ h => h) (Or.inl ⟨by rfl, ?_⟩) hH ?_
                        · (intro w hSw; (try dsimp only at hSw); go_split_ands; go_simp; try with_reducible rfl)
                        try simp only [Act.put, List.setIfInBounds_toArray, List.set_cons_zero, List.set_cons_succ]
                        refine wpAnyH_take_dst (i := 38) (v := .pointer (some ⟨p, 1, none⟩)) (d := some 158) rfl rfl (by kernel_rfl) (by kernel_rfl) (by kernel_rfl) (fun _ _ _ h => h) (Or.inl ⟨by rfl, ?_⟩) hH ?_
                        · (intro w hSw; (try dsimp only at hSw); go_split_ands; go_simp; try with_reducible rfl)
                        try simp only [Act.put, List.setIfInBounds_toArray, List.set_cons_zero, List.set_cons_succ]
                        refine wpAnyH_take_dst (i := 39) (v := .slice (some ⟨rb, ro, none⟩) m d) (d := some 159) rfl rfl (by kernel_rfl) (by kernel_rfl) (by kernel_rfl) (fun _ _ _ h => h) (Or.inl ⟨by rfl, ?_⟩) hH ?_
                        · (intro w hSw; (try dsimp only at hSw); go_split_ands; go_simp; try with_reducible rfl)
                        try simp only [Act.put, List.setIfInBounds_toArray, List.set_cons_zero, List.set_cons_succ]
                        refine wpAnyH_take_dst (i := 40) (v := .int .i64 (k : Int)) (d := some 160) rfl rfl (by kernel_rfl) (by kernel_rfl) (by kernel_rfl) (fun _ _ _ h => h) (Or.inl ⟨by rfl, ?_⟩) hH ?_
                        · (intro w hSw; (try dsimp only at hSw); go_split_ands; go_simp; try with_reducible rfl)
                        try simp only [Act.put, List.setIfInBounds_toArray, List.set_cons_zero, List.set_cons_succ]
                        refine wpAnyH_take_dst (i := 41) (v := .pointer (some ⟨rb, ro + k * 2, none⟩)) (d := some 161) rfl rfl (by kernel_rfl) (by kernel_rfl) (by kernel_rfl) (fun _ _ _ h => h) (Or.inl ⟨by rfl, ?_⟩) hH ?_
                        · (intro w hSw; (try dsimp only at hSw); go_split_ands; go_simp; try with_reducible rfl)
                        try simp only [Act.put, List.setIfInBounds_toArray, List.set_cons_zero, List.set_cons_succ]
                        refine wpAnyH_take_dst (i := 42) (v := .pointer (some ⟨rb, ro + k * 2, none⟩)) (d := some 162) rfl rfl (by kernel_rfl) (by kernel_rfl) (by kernel_rfl) (fun _ _ _ h => h) (Or.inl ⟨by rfl, ?_⟩) hH ?_
                        · (intro w hSw; (try dsimp only at hSw); go_split_ands; go_simp; try with_reducible rfl)
                        try simp only [Act.put, List.setIfInBounds_toArray, List.set_cons_zero, List.set_cons_succ]
                        refine wpAnyH_take_dst (i := 43) (v := .slice L1 l1n l1c) (d := some 163) rfl rfl (by kernel_rfl) (by kernel_rfl) (by kernel_rfl) (fun _ _ _ h => h) (Or.inl ⟨by rfl, ?_⟩) hH ?_
                        · (intro w hSw; (try dsimp only at hSw); go_split_ands; go_simp; try with_reducible rfl)
                        try simp only [Act.put, List.setIfInBounds_toArray, List.set_cons_zero, List.set_cons_succ]
                        refine wpAnyH_ready (rs := [44]) (by kernel_rfl) (by simp) ?_
                        refine AllReadyH.cons rfl (fun K hK => ?_) AllReadyH.nil
                        rw [if_pos (by rfl)]
                        go_wp2_with (go_at_call 13; (with_reducible refine ((c_likeInts HLI2.out (RdI.mk (RI.ext HE1.out hH.2.2.2.2.2.2.2)) (RdI.mk (RI.ext HLW.out hH.2.2.2.2.2.2.2)))).mono ?_); rintro e w9 ⟨rfl, hE9⟩)
                        refine hK.out _ _ ⟨Ext.keep hE9 hH.1, Ext.keep hE9 hH.2.1, Ext.keep hE9 hH.2.2.1, Ext.keep hE9 hH.2.2.2.1, Ext.keep hE9 hH.2.2.2.2.1, Ext.keep hE9 hH.2.2.2.2.2.1, Ext.keep hE9 hH.2.2.2.2.2.2.1, Ext.trans hH.2.2.2.2.2.2.2 hE9⟩ (fun hH9 => ?_)
                        clear hK hH; have hH := hH9; clear hH9
                        try simp only [Act.put, List.setIfInBounds_toArray, List.set_cons_zero, List.set_cons_succ]
                        refine wpAnyH_take_dst (i := 45) (v := .bool false) (d := some 165) rfl rfl (by kernel_rfl) (by kernel_rfl) (by kernel_rfl) (fun _ _ _ h => h) (Or.inl ⟨by rfl, ?_⟩) hH ?_
                        · (intro w hSw; (try dsimp only at hSw); go_split_ands; go_simp; try with_reducible rfl)
                        try simp only [Act.put, List.setIfInBounds_toArray, List.set_cons_zero, List.set_cons_succ]
                        refine wpAnyH_take_dst (i := 46) (v := .bool false) (d := some 166) rfl rfl (by kernel_rfl) (by kernel_rfl) (by kernel_rfl) (fun _ _ _ h => h) (Or.inl ⟨by rfl, ?_⟩) hH ?_
                        · (intro w hSw; (try dsimp only at hSw); go_split_ands; go_simp; try with_reducible rfl)
                        try simp only [Act.put, List.setIfInBounds_toArray, List.set_cons_zero, List.set_cons_succ]
                        refine wpAnyH_take_dst (i := 47) (v := .bool false) (d := some 167) rfl rfl (by kernel_rfl) (by kernel_rfl) (by kernel_rfl) (fun _ _ _ h => h) (Or.inl ⟨by rfl, ?_⟩) hH ?_
                        · (intro w hSw; (try dsimp only at hSw); go_split_ands; go_simp; try with_reducible rfl)
                        try simp only [Act.put, List.setIfInBounds_toArray, List.set_cons_zero, List.set_cons_succ]
                        refine wpAnyH_take_dst (i := 48) (v := .agg #[.slice AS 3 cS, .slice (some ⟨rb, ro, none⟩) m d]) (d := some 168) rfl rfl (by kernel_rfl) (by kernel_rfl) (by kernel_rfl) (fun _ _ _ h => h) (Or.inl ⟨by rfl, ?_⟩) hH ?_
                        · (intro w hSw; (try dsimp only at hSw); go_split_ands; go_simp; try with_reducible rfl)
                        try simp only [Act.put, List.setIfInBounds_toArray, List.set_cons_zero, List.set_cons_succ]
                        refine wpAnyH_take_dst (i := 49) (v := .slice (some ⟨pbb, po, none⟩) pn pc) (d := some 169) rfl rfl (by kernel_rfl) (by kernel_rfl) (by kernel_rfl) (fun _ _ _ h => h) (Or.inl ⟨by rfl, ?_⟩) hH ?_
                        · (intro w hSw; (try dsimp only at hSw); go_split_ands; go_simp; try with_reducible rfl)
                        try simp only [Act.put, List.setIfInBounds_toArray, List.set_cons_zero, List.set_cons_succ]
                        refine wpAnyH_take_dst (i := 50) (v := .int .i64 (nn : Int)) (d := some 170) rfl rfl (by kernel_rfl) (by kernel_rfl) (by kernel_rfl) (fun _ _ _ h => h) (Or.inl ⟨by rfl, ?_⟩) hH ?_
                        · (intro w hSw; (try dsimp only at hSw); go_split_ands; go_simp; try with_reducible rfl)
                        try simp only [Act.put, List.setIfInBounds_toArray, List.set_cons_zero, List.set_cons_succ]
                        refine wpAnyH_take_dst (i := 51) (v := .pointer (some ⟨pbb, po + nn * 4, none⟩)) (d := some 171) rfl rfl (by kernel_rfl) (by kernel_rfl) (by kernel_rfl) (fun _ _ _ h => h) (Or.inl ⟨by rfl, ?_⟩) hH ?_
                        · (intro w hSw; (try dsimp only at hSw); go_split_ands; go_simp; try with_reducible rfl)
                        try simp only [Act.put, List.setIfInBounds_toArray, List.set_cons_zero, List.set_cons_succ]
                        refine wpAnyH_take_dst (i := 52) (v := .agg #[.slice E1 e1n e1c, .slice E2 e2n e2c, .int .i64 (k : Int), .int .i64 (a : Int)]) (d := some 172) rfl rfl (by kernel_rfl) (by kernel_rfl) (by kernel_rfl) (fun _ _ _ h => h) (Or.inl ⟨by rfl, ?_⟩) hH ?_
                        · (intro w hSw; (try dsimp only at hSw); go_split_ands; go_simp; try with_reducible rfl)
                        try simp only [Act.put, List.setIfInBounds_toArray, List.set_cons_zero, List.set_cons_succ]
                        refine wpAnyH_ready (rs := [53]) (by kernel_rfl) (by simp) ?_
                        refine AllReadyH.cons rfl (fun K hK => ?_) AllReadyH.nil
                        rw [if_pos (by rfl)]
                        go_wp2_with (go_at_call 14; (with_reducible refine ((c_iDepOkB HDG.out (HYW.out.ext hH.2.2.2.2.2.2.2).rd (RdDq.mk (p := ⟨_, _, (k : Int), (a : Int)⟩) (RI.ext HE1.out hH.2.2.2.2.2.2.2) (RI.ext HE2.out hH.2.2.2.2.2.2.2)))).mono ?_); rintro e w9 ⟨rfl, hE9⟩)
                        refine hK.out _ _ ⟨Ext.keep hE9 hH.1, Ext.keep hE9 hH.2.1, Ext.keep hE9 hH.2.2.1, Ext.keep hE9 hH.2.2.2.1, Ext.keep hE9 hH.2.2.2.2.1, Ext.keep hE9 hH.2.2.2.2.2.1, Ext.keep hE9 hH.2.2.2.2.2.2.1, Ext.trans hH.2.2.2.2.2.2.2 hE9⟩ (fun hH9 => ?_)
                        clear hK hH; have hH := hH9; clear hH9
                        try simp only [Act.put, List.setIfInBounds_toArray, List.set_cons_zero, List.set_cons_succ]
                        refine wpAnyH_take_dst (i := 54) (v := .bool false) (d := some 174) rfl rfl (by kernel_rfl) (by kernel_rfl) (by kernel_rfl) (fun _ _ _ h => h) (Or.inl ⟨by rfl, ?_⟩) hH ?_
                        · (intro w hSw; (try dsimp only at hSw); go_split_ands; go_simp; try with_reducible rfl)
                        try simp only [Act.put, List.setIfInBounds_toArray, List.set_cons_zero, List.set_cons_succ]
                        refine wpAnyH_take_dst (i := 55) (v := .bool false) (d := some 175) rfl rfl (by kernel_rfl) (by kernel_rfl) (by kernel_rfl) (fun _ _ _ h => h) (Or.inl ⟨by rfl, ?_⟩) hH ?_
                        · (intro w hSw; (try dsimp only at hSw); go_split_ands; go_simp; try with_reducible rfl)
                        try simp only [Act.put, List.setIfInBounds_toArray, List.set_cons_zero, List.set_cons_succ]
                        refine wpAnyH_done (by kernel_rfl) ?_ _
                        have hH2 := hH.2.2.2.2.2.2.2
                        clear hH
                        go_wp2_with fail
                        go_roundw
                        case rel => exact ⟨a + 1, nn + 1, by go_num, by omega, by go_num, by omega, Lib.hid (by rw [HDN.out, hnn2.out]; omega), Ext.trans hEad hH2⟩
                        case measure => simp only [intOf]; omega
          · have har : a = r1n := by omega
            have HNX := Lib.hid (show nn = (prS ⟨arU, rs⟩ (k + 1)).length by
              rw [prS_succ (s := ⟨arU, rs⟩) HR.out, List.length_append, ← show a = r.r.length by have := HRLEN.out; omega]
              exact hnn2.out)
            have hnn46 : nn ≤ 45 := by
              have h1 := prS_15 (s := ⟨arU, rs⟩) HG3.out (k + 1)
              have h2 := HNX.out
              omega
            have hEab := Ext.trans hE hEa
            go_wp2_with fail
            go_roundw
            case rel => exact ⟨k + 1, nn, by go_num, by omega, rfl, hnn46, HNX, hEab⟩
            case measure => simp only [intOf]; omega
      · have hkm : k = m := by omega
        have hnp : nn0 = pn := by
          have h1 := hnn.out
          have h2 := HML.out
          have h3 := HPL.out
          have h4 : (prAll ⟨arU, rs⟩).length = (prS ⟨arU, rs⟩ rs.length).length := rfl
          rw [HPA.out] at h4
          rw [hkm, ← h2] at h1
          omega
        subst hnp
        go_wp2_with fail
        go_ret
        exact ⟨by first | rfl | simp, Ext.trans hE06 hE⟩

set_option maxRecDepth 100000 in
theorem lifted (os : Os) (started : os.Started) (H : Type) (enc : TypeId × Value → H) :
    ReturnsInHanded {} Try.checked os 3 .any (Rows.fnPairsSpec.pre6 enc Try.prog Try.f3 Rows.fnPairsRow.domain false) (Rows.fnPairsSpec.post enc Try.prog Try.f3 false true false false) := by
  refine returnsInHanded_of_change (C := Try.checked) own started (by kernel_rfl) Try.func3
    (ChangeSpec.witness6 (enc := enc) (C := Try.checked) false ⟨#[], #[.slice none 0 0], []⟩ 8 (by kernel_rfl) (by kernel_rfl) (by kernel_rfl) (by kernel_rfl)) ?_
  intro W base args ds gs before hval0 hW hcnd _
  have hval : ∀ (j : Nat) t v, Try.f3.params[j]? = some t → args[j]? = some v → Value.okWide Try.prog W .any base t v := hval0
  have hW' := hW
  obtain ⟨p, q, hA0, hV, rfl, hfz, hnd⟩ := hW
  have hA : DataW.TrodAll enc Try.prog W 0 (fun _ => true) true Try.f3.params.toList args.toList ds p := hA0
  rw [Try.params3] at hA hval
  obtain ⟨v0, vs0, d0, ds0, p0, q0, hargs, rfl, rfl, h0, r0⟩ := trodAll_cons hA
  obtain ⟨rfl, rfl, rfl⟩ := trodAll_nil r0
  obtain rfl : args = #[v0] := by cases args; simp_all
  obtain ⟨rfl, rfl⟩ := trodVars_none hV
  have k0 := h0
  have lt0 : ∀ x ∈ p0, x.block < W.heap.size := by obtain ⟨m, hm⟩ := k0; exact DataW.trod_lt m _ _ _ hm
  obtain ⟨x0, w0⟩ := raw_By (hval 0 22 v0 rfl rfl) h0
  clear hA0 hval0
  refine (walk w0).mono fun e W' ⟨he, bel⟩ => ?_
  subst he
  exact ⟨_, rfl, _, _, _, [], _, [], hW', trodAll_mk1 (shut_bool Try.underlying4 _), (trodAll_cons_mk (Below.trod laidOut (by kernel_rfl) (of_decide_eq_true (by kernel_rfl)) k0 bel lt0) trodAll_mk0), rfl, bel.frame _, fun h => by cases h⟩

theorem over : Rows.fnPairsRow.holds Try.pinned (OpenSpec.ofChange Rows.fnPairsSpec) :=
  OpenClaim.holds_of_wide 3 Try.f3 rfl rfl rfl rfl rfl rfl rfl ⟨rfl, rfl, rfl, rfl, rfl⟩ rfl rfl rfl rfl rfl (by kernel_rfl) Try.func3 (by kernel_rfl)
    (of_decide_eq_true (by kernel_rfl)) (by unfold Func.isWrapper; first | (rw [if_pos (by decide +kernel)]; kernel_rfl) | (rw [if_neg (by decide +kernel)]; exact ⟨rfl, rfl⟩))
    (fun os started H enc _ => lifted os started H enc)

theorem proved : Rows.FnPairsSaid := over

end Go.Proofs.Ytlcneilmnbnedaa.FnPairs
