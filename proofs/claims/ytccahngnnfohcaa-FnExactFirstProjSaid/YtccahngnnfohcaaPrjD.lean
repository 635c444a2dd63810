/- What a projection removes: the reference's. -/
import Derived.Test.YtccahngnnfohcaaPrjC
-- rd: RdSyK RdDp RdDq
namespace Go.Proofs.Ytccahngnnfohcaa
open Go.RowKit
set_option linter.unusedSimpArgs false
set_option linter.unusedVariables false

/-- A list that is read and whether there is one. -/
def NewOr (w : World) (o : Option (List Int)) (e : Ending) (w' : World) : Prop := ∃ A n c, e = .returned (.tuple #[.slice A n c, .bool o.isSome]) ∧ RI w' A n (o.getD []) ∧ Ext w w'
theorem OwI.noneJ {w : World} {D : Nat} (hD : D ≤ w.heap.size) : OwI (w.alloc (.cells #[] 2)) D (some ⟨w.heap.size, 0, none⟩) 0 0 [] :=
  ⟨by omega, World.ownsRow_made w #[] 0 hD (by decide) rfl⟩
theorem c_sProjOk' {v0 v1 : Value} {ar pr : List Int} {b : Bool} {w : World} (hb : projOk ar pr = b) (h0 : RdSig w v0 ar) (h1 : RdI w v1 pr) :
    Calls Try.prog 71 #[v0, v1] w fun e w' => e = .returned (.bool b) ∧ Ext w w' := by subst hb; exact c_sProjOk h0 h1
theorem c_l17PartB {v0 v1 v2 : Value} {ar t u : List Int} {b : Bool} {w : World} (hb : has ar t u = b) (h0 : RdSig w v0 ar) (h1 : RdIc w v1 t) (h2 : RdI w v2 u) (ht : TermP ar t) :
    Calls Try.prog 73 #[v0, v1, v2] w fun e w' => e = .returned (.bool b) ∧ Ext w w' := by subst hb; exact c_l17Part h0 h1 h2 ht
theorem c_SameTermJ {v0 v1 : Value} {xs ys : List Int} {b : Bool} {w : World} (hb : (xs == ys) = b) (h0 : RdI w v0 xs) (h1 : RdI w v1 ys) :
    Calls Try.prog 74 #[v0, v1] w fun e w' => e = .returned (.bool b) ∧ Ext w w' := by subst hb; exact c_SameTerm h0 h1
set_option maxRecDepth 100000 in
set_option maxHeartbeats 8000000 in
theorem c_sProjectedBy {v0 v1 v2 : Value} {s : Sy} {set pj : List Int} {o : Option (List Int)} {w : World} (ho : prjV s set pj = o) (h0 : RdSyC w v0 s) (h1 : RdI w v1 set) (h2 : RdI w v2 pj) :
    Calls Try.prog 34 #[v0, v1, v2] w (NewOr w o) := by
  obtain ⟨A0, n0, c0, B0, m0, d0, rfl, ha, hb⟩ := h0
  obtain ⟨D, m, d, rfl, hd⟩ := h1
  obtain ⟨J, jn, jc, rfl, hj⟩ := h2
  have HA := Lib.hid ha
  have HB := Lib.hid hb
  have HD := Lib.hid hd
  have HJ := Lib.hid hj
  have hmle := hd.le
  have hml := hd.len
  clear ha hb hd hj
  obtain ⟨i0, hii, hiz, his, hib⟩ := info_parts int64_info
  cases hpb : prB s with
  | false =>
    have HO := Lib.hid (show o = none by rw [← ho]; exact prjV_no1 hpb)
    clear ho
    go_enter Try.func34, Try.ntmps34
    go_wp2_with fail
    (with_reducible refine (c_sPairsOf rfl hpb (RdSyK.mk (RI.ext HA.out (by (repeat' (first | (with_reducible exact Ext.refl _) | (with_reducible assumption) | (with_reducible refine Ext.alloc ?_ _) | (with_reducible refine Ext.set ?_ ?_ _) | (with_reducible refine Ext.drewN ?_ _) | (with_reducible refine Ext.drew ?_) | (with_reducible refine Ext.trans ?_ (by with_reducible assumption)) | go_size)))) (RR.ext HB.out (by (repeat' (first | (with_reducible exact Ext.refl _) | (with_reducible assumption) | (with_reducible refine Ext.alloc ?_ _) | (with_reducible refine Ext.set ?_ ?_ _) | (with_reducible refine Ext.drewN ?_ _) | (with_reducible refine Ext.drew ?_) | (with_reducible refine Ext.trans ?_ (by with_reducible assumption)) | go_size)))))).mono ?_)
    rintro e w2 ⟨A2, n2, c2, rfl, hO2, hE2⟩
    clear hO2
    go_wp2_with fail
    refine bodyPost_ret (v := .tuple #[.slice (some ⟨w2.heap.size, 0, none⟩) 0 0, .bool false]) (by simp [results, Try.results34, go_sem]) rfl ?_
    rw [HO.out]
    exact ⟨_, 0, 0, rfl, RI.nil _ _, by (repeat' (first | (with_reducible exact Ext.refl _) | (with_reducible assumption) | (with_reducible refine Ext.alloc ?_ _) | (with_reducible refine Ext.set ?_ ?_ _) | (with_reducible refine Ext.drewN ?_ _) | (with_reducible refine Ext.drew ?_) | (with_reducible refine Ext.trans ?_ (by with_reducible assumption)) | go_size))⟩
  | true =>
    have HPB := Lib.hid hpb
    go_enter Try.func34, Try.ntmps34
    go_wp2_with fail
    (with_reducible refine (c_sPairsOf rfl hpb (RdSyK.mk (RI.ext HA.out (by (repeat' (first | (with_reducible exact Ext.refl _) | (with_reducible assumption) | (with_reducible refine Ext.alloc ?_ _) | (with_reducible refine Ext.set ?_ ?_ _) | (with_reducible refine Ext.drewN ?_ _) | (with_reducible refine Ext.drew ?_) | (with_reducible refine Ext.trans ?_ (by with_reducible assumption)) | go_size)))) (RR.ext HB.out (by (repeat' (first | (with_reducible exact Ext.refl _) | (with_reducible assumption) | (with_reducible refine Ext.alloc ?_ _) | (with_reducible refine Ext.set ?_ ?_ _) | (with_reducible refine Ext.drewN ?_ _) | (with_reducible refine Ext.drew ?_) | (with_reducible refine Ext.trans ?_ (by with_reducible assumption)) | go_size)))))).mono ?_)
    rintro e w2 ⟨A2, n2, c2, rfl, hO2, hE2⟩
    have hlen := hO2.1.2.1
    have h64 := prV_le hpb
    rw [hlen] at h64
    have HR2 := Lib.hid hO2.re
    have hEw2 : Ext w w2 := by (repeat' (first | (with_reducible exact Ext.refl _) | (with_reducible assumption) | (with_reducible refine Ext.alloc ?_ _) | (with_reducible refine Ext.set ?_ ?_ _) | (with_reducible refine Ext.drewN ?_ _) | (with_reducible refine Ext.drew ?_) | (with_reducible refine Ext.trans ?_ (by with_reducible assumption)) | go_size))
    have hb0 : w2.cell? ⟨w.heap.size, 0, none⟩ = some (.slice A0 n0 c0) := Ext.keep hE2 (by simp [go_sem])
    clear hO2
    cases hst : setB (prV s).length set with
    | false =>
      have HO := Lib.hid (show o = none by rw [← ho]; exact prjV_no2 hst)
      rw [hlen] at hst
      clear ho
      go_wp2_with fail
      (with_reducible refine (c_l18Set hst (RdI.mk (RI.ext HD.out hEw2)) (by omega)).mono ?_)
      rintro e w3 ⟨rfl, hE3⟩
      go_wp2_with fail
      refine bodyPost_ret (v := .tuple #[.slice (some ⟨w3.heap.size, 0, none⟩) 0 0, .bool false]) (by simp [results, Try.results34, go_sem]) rfl ?_
      rw [HO.out]
      exact ⟨_, 0, 0, rfl, RI.nil _ _, by (repeat' (first | (with_reducible exact Ext.refl _) | (with_reducible assumption) | (with_reducible refine Ext.alloc ?_ _) | (with_reducible refine Ext.set ?_ ?_ _) | (with_reducible refine Ext.drewN ?_ _) | (with_reducible refine Ext.drew ?_) | (with_reducible refine Ext.trans ?_ (by with_reducible assumption)) | go_size))⟩
    | true =>
      have HST := Lib.hid (setB_iff.1 hst)
      have hst' := hst
      rw [hlen] at hst'
      cases hpj : projOk s.ar pj with
      | false =>
        have HO := Lib.hid (show o = none by rw [← ho]; exact prjV_no3 hpj)
        clear ho
        go_wp2_with fail
        (with_reducible refine (c_l18Set hst' (RdI.mk (RI.ext HD.out hEw2)) (by omega)).mono ?_)
        rintro e w3 ⟨rfl, hE3⟩
        have hEw3 := Ext.trans hEw2 hE3
        have hb3 := Ext.keep hE3 hb0
        go_wp2_with fail
        (with_reducible refine (c_sProjOk' hpj (RdSig.mk (RI.ext HA.out hEw3)) (RdI.mk (RI.ext HJ.out hEw3))).mono ?_)
        rintro e w4 ⟨rfl, hE4⟩
        go_wp2_with fail
        refine bodyPost_ret (v := .tuple #[.slice (some ⟨w4.heap.size, 0, none⟩) 0 0, .bool false]) (by simp [results, Try.results34, go_sem]) rfl ?_
        rw [HO.out]
        exact ⟨_, 0, 0, rfl, RI.nil _ _, by (repeat' (first | (with_reducible exact Ext.refl _) | (with_reducible assumption) | (with_reducible refine Ext.alloc ?_ _) | (with_reducible refine Ext.set ?_ ?_ _) | (with_reducible refine Ext.drewN ?_ _) | (with_reducible refine Ext.drew ?_) | (with_reducible refine Ext.trans ?_ (by with_reducible assumption)) | go_size))⟩
      | true =>
        have HO := Lib.hid (show prjGo s.ar pj (prV s) set [] = o by rw [← ho]; exact (prjV_yes hpb hst hpj).symm)
        have HPR := Lib.hid (show ProjP s.ar pj by simpa only [projOk, decide_eq_true_eq] using hpj)
        rw [hlen] at HST
        clear ho
        go_wp2_with fail
        (with_reducible refine (c_l18Set hst' (RdI.mk (RI.ext HD.out hEw2)) (by omega)).mono ?_)
        rintro e w3 ⟨rfl, hE3⟩
        have hEw3 := Ext.trans hEw2 hE3
        have hb3 := Ext.keep hE3 hb0
        go_wp2_with fail
        (with_reducible refine (c_sProjOk' hpj (RdSig.mk (RI.ext HA.out hEw3)) (RdI.mk (RI.ext HJ.out hEw3))).mono ?_)
        rintro e w4 ⟨rfl, hE4⟩
        have hEw4 := Ext.trans hEw3 hE4
        have hb4 := Ext.keep hE4 hb3
        have HA4 := Lib.hid (RE.ext HR2.out (Ext.trans hE3 hE4))
        have HO4 := Lib.hid (OwI.noneJ (w := w4) (D := w4.heap.size) (Nat.le_refl _))
        clear HR2
        go_wp2_with fail
        go_loopw [10, 11] (fun ov kv wr => ∃ k : Nat, kv = .int .i64 k ∧ k ≤ m ∧ (∃ A9 n9 c9, ov = .slice A9 n9 c9 ∧ n9 ≤ k ∧ Hid (∃ out, OwI wr w4.heap.size A9 n9 c9 out ∧ prjGo s.ar pj (prV s) (set.drop k) out = o)) ∧ Ext w4 wr) (fun _ kv _ => m - (intOf kv).toNat)
        case atStart => exact ⟨0, rfl, Nat.zero_le _, ⟨_, 0, 0, rfl, Nat.le_refl _, Lib.hid ⟨[], HO4.out, HO.out⟩⟩, (Ext.refl _).alloc _⟩
        case round =>
          obtain ⟨k, rfl, hk, ⟨A9, n9, c9, rfl, hn9, hO⟩, hE⟩ := hrel
          obtain ⟨out, hO9, hG9⟩ := hO.out
          have HO9 := Lib.hid hO9
          have HG9 := Lib.hid hG9
          clear hO hO9 hG9
          have hEw : Ext w wr := Ext.trans hEw4 hE
          have hr0 := Ext.keep hE hb4
          by_cases hlt : k < m
          · obtain ⟨b', o', x, rfl, hx, hcx⟩ := RI.at_ (RI.ext HD.out hEw) hlt
            have hxs := (HST.out k x hx).1
            obtain ⟨z, rfl⟩ := Int.eq_ofNat_of_zero_le hxs.1
            have hzn : z < n2 := by omega
            obtain ⟨q, b, o2, A1, n1, c1, B1, m1, d1, hq, rfl, hc0, hc1, _, _, hcap1, hcap2, hr1, hr2⟩ := RE.at_ (RE.ext HA4.out hE) hzn
            have hqp := prV_ok HPB.out q (List.mem_of_getElem? hq)
            have HX := Lib.hid hx
            have HQ := Lib.hid hq
            have HC1 := Lib.hid hcap1
            have HC2 := Lib.hid hcap2
            have HR1 := Lib.hid hr1
            have HR2 := Lib.hid hr2
            have HQ1 := Lib.hid hqp.1
            have HQ2 := Lib.hid hqp.2
            have hki : (k : Int) < (m : Int) := by omega
            have hk0 : (0 : Int) ≤ (k : Int) := by omega
            have hzi : (z : Int) < (n2 : Int) := by omega
            have hz0 : (0 : Int) ≤ (z : Int) := by omega
            have hbl := World.block_lt_of_cell? wr _ hc0
            have hbl' := World.block_lt_of_cell? wr _ hcx
            clear hx hxs hq hqp hcap1 hcap2 hr1 hr2
            obtain ⟨ol, hol⟩ : ∃ ol, argO s.ar pj q.l = ol := ⟨_, rfl⟩
            obtain ⟨orr, hor⟩ : ∃ orr, argO s.ar pj q.r = orr := ⟨_, rfl⟩
            have HOL := Lib.hid hol
            have HOR := Lib.hid hor
            clear hol hor
            go_wp2_with fail
            refine wp_region_held_drew (S := (fun w' => w'.cell? ⟨w.heap.size, 0, none⟩ = some (.slice A0 n0 c0) ∧ w'.cell? ⟨b', o' + k, none⟩ = some (.int .i64 (z : Int)) ∧ w'.cell? ⟨b, o2 + z * 4, none⟩ = some (.slice A1 n1 c1) ∧ Ext wr w')) (by kernel_rfl) ?_ (fun hH => ?_)
            · exact ⟨hr0, hcx, hc0, (Ext.refl wr).drew⟩
            refine wpAnyH_take_dst (i := 0) (v := .pointer (some ⟨w.heap.size, 0, none⟩)) (d := some 44) rfl rfl (by kernel_rfl) (by kernel_rfl) (by kernel_rfl) (fun _ _ _ h => h) (Or.inl ⟨by rfl, ?_⟩) hH ?_
            · (intro w hSw; (try dsimp only at hSw); go_split_ands; go_simp; try with_reducible rfl)
            try simp only [Act.put, List.setIfInBounds_toArray, List.set_cons_zero, List.set_cons_succ]
            refine wpAnyH_take_dst (i := 1) (v := .agg #[.slice A0 n0 c0]) (d := some 45) rfl rfl (by kernel_rfl) (by kernel_rfl) (by kernel_rfl) (fun _ _ _ h => h) (Or.inl ⟨by rfl, ?_⟩) hH ?_
            · (intro w hSw; (try dsimp only at hSw); go_split_ands; go_simp; try with_reducible rfl)
            try simp only [Act.put, List.setIfInBounds_toArray, List.set_cons_zero, List.set_cons_succ]
            refine wpAnyH_take_dst (i := 2) (v := .slice J jn jc) (d := some 46) rfl rfl (by kernel_rfl) (by kernel_rfl) (by kernel_rfl) (fun _ _ _ h => h) (Or.inl ⟨by rfl, ?_⟩) hH ?_
            · (intro w hSw; (try dsimp only at hSw); go_split_ands; go_simp; try with_reducible rfl)
            try simp only [Act.put, List.setIfInBounds_toArray, List.set_cons_zero, List.set_cons_succ]
            refine wpAnyH_take_dst (i := 3) (v := .slice (some ⟨b, o2, none⟩) n2 c2) (d := some 47) rfl rfl (by kernel_rfl) (by kernel_rfl) (by kernel_rfl) (fun _ _ _ h => h) (Or.inl ⟨by rfl, ?_⟩) hH ?_
            · (intro w hSw; (try dsimp only at hSw); go_split_ands; go_simp; try with_reducible rfl)
            try simp only [Act.put, List.setIfInBounds_toArray, List.set_cons_zero, List.set_cons_succ]
            refine wpAnyH_take_dst (i := 4) (v := .slice (some ⟨b', o', none⟩) m d) (d := some 48) rfl rfl (by kernel_rfl) (by kernel_rfl) (by kernel_rfl) (fun _ _ _ h => h) (Or.inl ⟨by rfl, ?_⟩) hH ?_
            · (intro w hSw; (try dsimp only at hSw); go_split_ands; go_simp; try with_reducible rfl)
            try simp only [Act.put, List.setIfInBounds_toArray, List.set_cons_zero, List.set_cons_succ]
            refine wpAnyH_take_dst (i := 5) (v := .int .i64 (k : Int)) (d := some 49) rfl rfl (by kernel_rfl) (by kernel_rfl) (by kernel_rfl) (fun _ _ _ h => h) (Or.inl ⟨by rfl, ?_⟩) hH ?_
            · (intro w hSw; (try dsimp only at hSw); go_split_ands; go_simp; try with_reducible rfl)
            try simp only [Act.put, List.setIfInBounds_toArray, List.set_cons_zero, List.set_cons_succ]
            refine wpAnyH_take_dst (i := 6) (v := .pointer (some ⟨b', o' + k, none⟩)) (d := some 50) rfl rfl (by kernel_rfl) (by kernel_rfl) (by kernel_rfl) (fun _ _ _ h => h) (Or.inl ⟨by rfl, ?_⟩) hH ?_
            · (intro w hSw; (try dsimp only at hSw); go_split_ands; go_simp; try with_reducible rfl)
            try simp only [Act.put, List.setIfInBounds_toArray, List.set_cons_zero, List.set_cons_succ]
            refine wpAnyH_take_dst (i := 7) (v := .int .i64 (z : Int)) (d := some 51) rfl rfl (by kernel_rfl) (by kernel_rfl) (by kernel_rfl) (fun _ _ _ h => h) (Or.inl ⟨by rfl, ?_⟩) hH ?_
            · (intro w hSw; (try dsimp only at hSw); go_split_ands; go_simp; try with_reducible rfl)
            try simp only [Act.put, List.setIfInBounds_toArray, List.set_cons_zero, List.set_cons_succ]
            refine wpAnyH_take_dst (i := 8) (v := .pointer (some ⟨b, o2 + z * 4, none⟩)) (d := some 52) rfl rfl (by kernel_rfl) (by kernel_rfl) (by kernel_rfl) (fun _ _ _ h => h) (Or.inl ⟨by rfl, ?_⟩) hH ?_
            · (intro w hSw; (try dsimp only at hSw); go_split_ands; go_simp; try with_reducible rfl)
            try simp only [Act.put, List.setIfInBounds_toArray, List.set_cons_zero, List.set_cons_succ]
            refine wpAnyH_take_dst (i := 9) (v := .pointer (some ⟨b, o2 + z * 4, none⟩)) (d := some 53) rfl rfl (by kernel_rfl) (by kernel_rfl) (by kernel_rfl) (fun _ _ _ h => h) (Or.inl ⟨by rfl, ?_⟩) hH ?_
            · (intro w hSw; (try dsimp only at hSw); go_split_ands; go_simp; try with_reducible rfl)
            try simp only [Act.put, List.setIfInBounds_toArray, List.set_cons_zero, List.set_cons_succ]
            refine wpAnyH_take_dst (i := 10) (v := .slice A1 n1 c1) (d := some 54) rfl rfl (by kernel_rfl) (by kernel_rfl) (by kernel_rfl) (fun _ _ _ h => h) (Or.inl ⟨by rfl, ?_⟩) hH ?_
            · (intro w hSw; (try dsimp only at hSw); go_split_ands; go_simp; try with_reducible rfl)
            try simp only [Act.put, List.setIfInBounds_toArray, List.set_cons_zero, List.set_cons_succ]
            refine wpAnyH_ready (rs := [11]) (by kernel_rfl) (by simp) ?_
            refine AllReadyH.cons rfl (fun K hK => ?_) AllReadyH.nil
            rw [if_pos (by rfl)]
            go_wp2_with (go_at_call 72; (with_reducible refine ((c_l18Arg HOL.out (RdSig.mk (RI.ext HA.out (Ext.trans hEw hH.2.2.2))) (RdI.mk (RI.ext HJ.out (Ext.trans hEw hH.2.2.2))) (RdIc.mk HC1.out (RI.ext HR1.out hH.2.2.2)) HPR.out HQ1.out.1 HQ1.out.2)).mono ?_); rintro e w6 ⟨A6, n6, c6, rfl, hcap6, hr6, hE9⟩)
            refine hK.out _ _ ⟨Ext.keep hE9 hH.1, Ext.keep hE9 hH.2.1, Ext.keep hE9 hH.2.2.1, Ext.trans hH.2.2.2 hE9⟩ (fun hH9 => ?_)
            clear hK hH; have hH := hH9; clear hH9
            try simp only [Act.put, List.setIfInBounds_toArray, List.set_cons_zero, List.set_cons_succ]
            refine wpAnyH_take_dst (i := 12) (v := .slice A6 n6 c6) (d := some 12) rfl rfl (by kernel_rfl) (by kernel_rfl) (by kernel_rfl) (fun _ _ _ h => h) (Or.inl ⟨by rfl, ?_⟩) hH ?_
            · (intro w hSw; (try dsimp only at hSw); go_split_ands; go_simp; try with_reducible rfl)
            try simp only [Act.put, List.setIfInBounds_toArray, List.set_cons_zero, List.set_cons_succ]
            refine wpAnyH_done (by kernel_rfl) ?_ _
            have hE6 := hH.2.2.2
            have hs0 := hH.1
            have hsx := hH.2.1
            have hs1 := Ext.keep hE6 hc1
            have HR6 := Lib.hid hr6
            clear hH hr6
            go_wp2_with fail
            refine wp_region_held_drew (S := (fun w' => w'.cell? ⟨w.heap.size, 0, none⟩ = some (.slice A0 n0 c0) ∧ w'.cell? ⟨b', o' + k, none⟩ = some (.int .i64 (z : Int)) ∧ w'.cell? ⟨b, o2 + z * 4 + 1, none⟩ = some (.slice B1 m1 d1) ∧ Ext w6 w')) (by kernel_rfl) ?_ (fun hH => ?_)
            · exact ⟨hs0, hsx, hs1, (Ext.refl w6).drew⟩
            refine wpAnyH_take_dst (i := 0) (v := .pointer (some ⟨w.heap.size, 0, none⟩)) (d := some 56) rfl rfl (by kernel_rfl) (by kernel_rfl) (by kernel_rfl) (fun _ _ _ h => h) (Or.inl ⟨by rfl, ?_⟩) hH ?_
            · (intro w hSw; (try dsimp only at hSw); go_split_ands; go_simp; try with_reducible rfl)
            try simp only [Act.put, List.setIfInBounds_toArray, List.set_cons_zero, List.set_cons_succ]
            refine wpAnyH_take_dst (i := 1) (v := .agg #[.slice A0 n0 c0]) (d := some 57) rfl rfl (by kernel_rfl) (by kernel_rfl) (by kernel_rfl) (fun _ _ _ h => h) (Or.inl ⟨by rfl, ?_⟩) hH ?_
            · (intro w hSw; (try dsimp only at hSw); go_split_ands; go_simp; try with_reducible rfl)
            try simp only [Act.put, List.setIfInBounds_toArray, List.set_cons_zero, List.set_cons_succ]
            refine wpAnyH_take_dst (i := 2) (v := .slice J jn jc) (d := some 58) rfl rfl (by kernel_rfl) (by kernel_rfl) (by kernel_rfl) (fun _ _ _ h => h) (Or.inl ⟨by rfl, ?_⟩) hH ?_
            · (intro w hSw; (try dsimp only at hSw); go_split_ands; go_simp; try with_reducible rfl)
            try simp only [Act.put, List.setIfInBounds_toArray, List.set_cons_zero, List.set_cons_succ]
            refine wpAnyH_take_dst (i := 3) (v := .slice (some ⟨b, o2, none⟩) n2 c2) (d := some 59) rfl rfl (by kernel_rfl) (by kernel_rfl) (by kernel_rfl) (fun _ _ _ h => h) (Or.inl ⟨by rfl, ?_⟩) hH ?_
            · (intro w hSw; (try dsimp only at hSw); go_split_ands; go_simp; try with_reducible rfl)
            try simp only [Act.put, List.setIfInBounds_toArray, List.set_cons_zero, List.set_cons_succ]
            refine wpAnyH_take_dst (i := 4) (v := .slice (some ⟨b', o', none⟩) m d) (d := some 60) rfl rfl (by kernel_rfl) (by kernel_rfl) (by kernel_rfl) (fun _ _ _ h => h) (Or.inl ⟨by rfl, ?_⟩) hH ?_
            · (intro w hSw; (try dsimp only at hSw); go_split_ands; go_simp; try with_reducible rfl)
            try simp only [Act.put, List.setIfInBounds_toArray, List.set_cons_zero, List.set_cons_succ]
            refine wpAnyH_take_dst (i := 5) (v := .int .i64 (k : Int)) (d := some 61) rfl rfl (by kernel_rfl) (by kernel_rfl) (by kernel_rfl) (fun _ _ _ h => h) (Or.inl ⟨by rfl, ?_⟩) hH ?_
            · (intro w hSw; (try dsimp only at hSw); go_split_ands; go_simp; try with_reducible rfl)
            try simp only [Act.put, List.setIfInBounds_toArray, List.set_cons_zero, List.set_cons_succ]
            refine wpAnyH_take_dst (i := 6) (v := .pointer (some ⟨b', o' + k, none⟩)) (d := some 62) rfl rfl (by kernel_rfl) (by kernel_rfl) (by kernel_rfl) (fun _ _ _ h => h) (Or.inl ⟨by rfl, ?_⟩) hH ?_
            · (intro w hSw; (try dsimp only at hSw); go_split_ands; go_simp; try with_reducible rfl)
            try simp only [Act.put, List.setIfInBounds_toArray, List.set_cons_zero, List.set_cons_succ]
            refine wpAnyH_take_dst (i := 7) (v := .int .i64 (z : Int)) (d := some 63) rfl rfl (by kernel_rfl) (by kernel_rfl) (by kernel_rfl) (fun _ _ _ h => h) (Or.inl ⟨by rfl, ?_⟩) hH ?_
            · (intro w hSw; (try dsimp only at hSw); go_split_ands; go_simp; try with_reducible rfl)
            try simp only [Act.put, List.setIfInBounds_toArray, List.set_cons_zero, List.set_cons_succ]
            refine wpAnyH_take_dst (i := 8) (v := .pointer (some ⟨b, o2 + z * 4, none⟩)) (d := some 64) rfl rfl (by kernel_rfl) (by kernel_rfl) (by kernel_rfl) (fun _ _ _ h => h) (Or.inl ⟨by rfl, ?_⟩) hH ?_
            · (intro w hSw; (try dsimp only at hSw); go_split_ands; go_simp; try with_reducible rfl)
            try simp only [Act.put, List.setIfInBounds_toArray, List.set_cons_zero, List.set_cons_succ]
            refine wpAnyH_take_dst (i := 9) (v := .pointer (some ⟨b, o2 + z * 4 + 1, none⟩)) (d := some 65) rfl rfl (by kernel_rfl) (by kernel_rfl) (by kernel_rfl) (fun _ _ _ h => h) (Or.inl ⟨by rfl, ?_⟩) hH ?_
            · (intro w hSw; (try dsimp only at hSw); go_split_ands; go_simp; try with_reducible rfl)
            try simp only [Act.put, List.setIfInBounds_toArray, List.set_cons_zero, List.set_cons_succ]
            refine wpAnyH_take_dst (i := 10) (v := .slice B1 m1 d1) (d := some 66) rfl rfl (by kernel_rfl) (by kernel_rfl) (by kernel_rfl) (fun _ _ _ h => h) (Or.inl ⟨by rfl, ?_⟩) hH ?_
            · (intro w hSw; (try dsimp only at hSw); go_split_ands; go_simp; try with_reducible rfl)
            try simp only [Act.put, List.setIfInBounds_toArray, List.set_cons_zero, List.set_cons_succ]
            refine wpAnyH_ready (rs := [11]) (by kernel_rfl) (by simp) ?_
            refine AllReadyH.cons rfl (fun K hK => ?_) AllReadyH.nil
            rw [if_pos (by rfl)]
            go_wp2_with (go_at_call 72; (with_reducible refine ((c_l18Arg HOR.out (RdSig.mk (RI.ext HA.out (Ext.trans hEw (Ext.trans hE6 hH.2.2.2)))) (RdI.mk (RI.ext HJ.out (Ext.trans hEw (Ext.trans hE6 hH.2.2.2)))) (RdIc.mk HC2.out (RI.ext HR2.out (Ext.trans hE6 hH.2.2.2))) HPR.out HQ2.out.1 HQ2.out.2)).mono ?_); rintro e w7 ⟨A7, n7, c7, rfl, hcap7, hr7, hE9⟩)
            refine hK.out _ _ ⟨Ext.keep hE9 hH.1, Ext.keep hE9 hH.2.1, Ext.keep hE9 hH.2.2.1, Ext.trans hH.2.2.2 hE9⟩ (fun hH9 => ?_)
            clear hK hH; have hH := hH9; clear hH9
            try simp only [Act.put, List.setIfInBounds_toArray, List.set_cons_zero, List.set_cons_succ]
            refine wpAnyH_take_dst (i := 12) (v := .slice A7 n7 c7) (d := some 13) rfl rfl (by kernel_rfl) (by kernel_rfl) (by kernel_rfl) (fun _ _ _ h => h) (Or.inl ⟨by rfl, ?_⟩) hH ?_
            · (intro w hSw; (try dsimp only at hSw); go_split_ands; go_simp; try with_reducible rfl)
            try simp only [Act.put, List.setIfInBounds_toArray, List.set_cons_zero, List.set_cons_succ]
            refine wpAnyH_done (by kernel_rfl) ?_ _
            have hE7 := hH.2.2.2
            have hr7' := hH.1
            have hx7 := hH.2.1
            have hEr := Ext.trans hE6 hE7
            have hE7w := Ext.trans hEw hEr
            have hE7b := Ext.trans hE hEr
            have HR6 := Lib.hid (RI.ext HR6.out hE7)
            have HR7 := Lib.hid hr7
            have HO7 := Lib.hid (HO9.out.ext hEr)
            have hl6 := HR6.out.len
            have hl7 := HR7.out.len
            clear hH hr7
            cases ol with
            | none =>
              obtain rfl : n6 = 0 := by simpa using hl6.symm
              have HP := Lib.hid (show o = none by rw [← HG9.out]; exact prjGo_none HX.out HQ.out (prjSt_l HOL.out))
              go_wp2_with fail
              refine bodyPost_ret (v := .tuple #[.slice (some ⟨w7.heap.size, 0, none⟩) 0 0, .bool false]) (by simp [results, Try.results34, go_sem]) rfl ?_
              rw [HP.out]
              exact ⟨_, 0, 0, rfl, RI.nil _ _, by (repeat' (first | (with_reducible exact Ext.refl _) | (with_reducible assumption) | (with_reducible refine Ext.alloc ?_ _) | (with_reducible refine Ext.set ?_ ?_ _) | (with_reducible refine Ext.drewN ?_ _) | (with_reducible refine Ext.drew ?_) | (with_reducible refine Ext.trans ?_ (by with_reducible assumption)) | go_size))⟩
            | some l =>
              have HL := Lib.hid (arg_pos HPR.out HQ1.out.1 HQ1.out.2 HOL.out)
              have hl1 := HL.out.1
              simp only [Option.getD_some] at hl6
              have h60 : (n6 : Int) > 0 := by omega
              have h6p : 0 < n6 := by omega
              have h6z : ((n6 : Int) == 0) = false := by simp; omega
              cases orr with
              | none =>
                obtain rfl : n7 = 0 := by simpa using hl7.symm
                have HP := Lib.hid (show o = none by rw [← HG9.out]; exact prjGo_none HX.out HQ.out (prjSt_r HOR.out))
                go_wp2_with fail
                (with_reducible refine (c_SameTermJ (xs := l) (ys := []) (b := false) (by cases l with | nil => simp at hl1 | cons => simp) (RdI.mk HR6.out) (RdI.mk HR7.out)).mono ?_)
                rintro e8 w8 ⟨rfl, hE8⟩
                go_wp2_with fail
                refine bodyPost_ret (v := .tuple #[.slice (some ⟨w8.heap.size, 0, none⟩) 0 0, .bool false]) (by simp [results, Try.results34, go_sem]) rfl ?_
                rw [HP.out]
                exact ⟨_, 0, 0, rfl, RI.nil _ _, by (repeat' (first | (with_reducible exact Ext.refl _) | (with_reducible assumption) | (with_reducible refine Ext.alloc ?_ _) | (with_reducible refine Ext.set ?_ ?_ _) | (with_reducible refine Ext.drewN ?_ _) | (with_reducible refine Ext.drew ?_) | (with_reducible refine Ext.trans ?_ (by with_reducible assumption)) | go_size))⟩
              | some r =>
                have HRR := Lib.hid (arg_pos HPR.out HQ2.out.1 HQ2.out.2 HOR.out)
                have hrr1 := HRR.out.1
                simp only [Option.getD_some] at hl7
                have h70 : (n7 : Int) > 0 := by omega
                have h7p : 0 < n7 := by omega
                cases h11 : has s.ar l r with
                | false =>
                  cases hlr : (l == r) with
                  | false =>
                    have HP := Lib.hid (show o = none by rw [← HG9.out]; exact prjGo_none HX.out HQ.out (prjSt_n HOL.out HOR.out (by unfold has0; rw [hlr, h11]; rfl)))
                    go_wp2_with fail
                    (with_reducible refine (c_l17PartB (t := l) (u := r) h11 (RdSig.mk (RI.ext HA.out hE7w)) (RdIc.mk hcap6 HR6.out) (RdI.mk HR7.out) HL.out.2).mono ?_)
                    rintro e8 w8 ⟨rfl, hE8⟩
                    go_wp2_with fail
                    (with_reducible refine (c_SameTermJ (xs := l) (ys := r) hlr (RdI.mk (RI.ext HR6.out hE8)) (RdI.mk (RI.ext HR7.out hE8))).mono ?_)
                    rintro e9 w9 ⟨rfl, hE9'⟩
                    go_wp2_with fail
                    refine bodyPost_ret (v := .tuple #[.slice (some ⟨w9.heap.size, 0, none⟩) 0 0, .bool false]) (by simp [results, Try.results34, go_sem]) rfl ?_
                    rw [HP.out]
                    exact ⟨_, 0, 0, rfl, RI.nil _ _, by (repeat' (first | (with_reducible exact Ext.refl _) | (with_reducible assumption) | (with_reducible refine Ext.alloc ?_ _) | (with_reducible refine Ext.set ?_ ?_ _) | (with_reducible refine Ext.drewN ?_ _) | (with_reducible refine Ext.drew ?_) | (with_reducible refine Ext.trans ?_ (by with_reducible assumption)) | go_size))⟩
                  | true =>
                    have HP := Lib.hid (show prjGo s.ar pj (prV s) (set.drop (k + 1)) out = o by rw [← HG9.out]; exact (prjGo_stay HX.out HQ.out (prjSt_s HOL.out HOR.out (by unfold has0; rw [hlr]; rfl) h11)).symm)
                    go_wp2_with fail
                    (with_reducible refine (c_l17PartB (t := l) (u := r) h11 (RdSig.mk (RI.ext HA.out hE7w)) (RdIc.mk hcap6 HR6.out) (RdI.mk HR7.out) HL.out.2).mono ?_)
                    rintro e8 w8 ⟨rfl, hE8⟩
                    go_wp2_with fail
                    (with_reducible refine (c_SameTermJ (xs := l) (ys := r) hlr (RdI.mk (RI.ext HR6.out hE8)) (RdI.mk (RI.ext HR7.out hE8))).mono ?_)
                    rintro e9 w9 ⟨rfl, hE9'⟩
                    go_wp2_with fail
                    go_roundw
                    case rel => exact ⟨k + 1, by go_num, by omega, ⟨_, _, _, rfl, by omega, Lib.hid ⟨out, (HO7.out.ext hE8).ext hE9', HP.out⟩⟩, Ext.trans hE7b (Ext.trans hE8 hE9')⟩
                    case measure => simp only [intOf]; omega
                | true =>
                  have HP := Lib.hid (show prjGo s.ar pj (prV s) (set.drop (k + 1)) (out ++ [(z : Int)]) = o by rw [← HG9.out]; exact (prjGo_go HX.out HQ.out (prjSt_s HOL.out HOR.out (by unfold has0; rw [h11]; simp) h11)).symm)
                  go_wp2_with fail
                  (with_reducible refine (c_l17PartB (t := l) (u := r) h11 (RdSig.mk (RI.ext HA.out hE7w)) (RdIc.mk hcap6 HR6.out) (RdI.mk HR7.out) HL.out.2).mono ?_)
                  rintro e8 w8 ⟨rfl, hE8⟩
                  have HO8 := Lib.hid (HO7.out.ext hE8)
                  have hx8 := Ext.keep hE8 hx7
                  have hE8b := Ext.trans hE7b hE8
                  have hsz8 := hE8b.size
                  have hbl8 := World.block_lt_of_cell? w8 _ hx8
                  go_wp2_with (at_builtin; go_loud (refine wpList_append_lies _ rfl (.tmp 98) (.tmp 103) 22 rfl w4.heap.size 2 i0 (.int .i64 0) 1 8 Try.underlying22 hii hiz his hib rfl (by decide) _ _ _ rfl (OwI.alloc HO8.out _).2 ⟨w8.heap.size, 0, none⟩ 1 1 [.int .i64 (z : Int)] rfl rfl (one_cells _ _ _) (one_one _) (by decide) (by unfold maxLen; omega) (by omega) (by go_size) _ rfl ?_))
                  intro g4 cap wx hown hg hat hltg
                  have HON := Lib.hid (show OwI wx w4.heap.size (some ⟨g4, 0, none⟩) (n9 + 1) cap (out ++ [(z : Int)]) from ⟨by omega, by simpa using hown⟩)
                  have hob := OwI.ob2 HO8.out
                  have hEx : Ext w4 wx := Ext.grown (hE8b.alloc _) hg (fun b hb => (hob b hb).1)
                  clear hown hg hat hob
                  go_wp2
                  go_roundw
                  case rel => exact ⟨k + 1, by go_num, by omega, ⟨_, _, _, rfl, by omega, Lib.hid ⟨_, HON.out, HP.out⟩⟩, hEx⟩
                  case measure => simp only [intOf]; omega
          · obtain rfl : k = m := by omega
            have HP := Lib.hid (show o = some out by rw [← HG9.out]; exact prjGo_end (by omega))
            go_wp2_with fail
            refine bodyPost_ret (v := .tuple #[.slice A9 n9 c9, .bool true]) (by simp [results, Try.results34, go_sem]) rfl ?_
            rw [HP.out]
            exact ⟨A9, n9, c9, rfl, HO9.out.ri, hEw⟩

end Go.Proofs.Ytccahngnnfohcaa
