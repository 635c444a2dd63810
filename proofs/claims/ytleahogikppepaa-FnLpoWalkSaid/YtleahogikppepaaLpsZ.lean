/- Several texts in one: LpsR, LpsM, LpsK, LpsN, LpsW, LpsV, LpsO. -/
import Derived.Test.YtleahogikppepaaLpsA
import Derived.Test.YtleahogikppepaaLpsG
import Derived.Test.YtleahogikppepaaSysOk
import Derived.Test.YtleahogikppepaaMOri
-- rd: RdSyK RawSy
namespace Go.Proofs.Ytleahogikppepaa
open Go.RowKit
set_option linter.unusedSimpArgs false
set_option linter.unusedVariables false

/-! The reference's path orders: the first reason that holds. -/
set_option maxRecDepth 100000 in
set_option maxHeartbeats 4000000 in
theorem c_l13Reason {Y : SC} {i j : Nat} {x y : Int} {us ss : List Tm} {V : Nat → Nat → Int} {W : Tm → Tm → Nat} {w : World} {r0 : Nat} (hr0 : lpoB (rkF Y.rk) true W (.node x us) (.node y ss) = r0) (hP : Y.P) (h : Y.H w V) (hA : Y.At i j y ss x us)
    (hV1 : ∀ k a, us[k]? = some a → Told (V i (pl j us k)) (W a (.node y ss))) (hV2 : ∀ k b, ss[k]? = some b → Told (V (pl i ss k) j) (W (.node x us) b)) (hV3 : ∀ k a b, us[k]? = some a → ss[k]? = some b → Told (V (pl i ss k) (pl j us k)) (W a b)) :
    Calls Try.prog 147 #[.pointer (some ⟨Y.g, 0, none⟩), .int .i64 (i : Int), .int .i64 (j : Int)] w fun e w' => e = .returned (.int .i64 (r0 : Int)) ∧ Ext w w' := by
  have hP' := hP
  have hik : i < Y.k := by rw [← h.s.len]; exact hA.hi
  have hjm : j < Y.m := by rw [← h.t.len]; exact hA.hj
  have hkk := h.s.le
  have hmm := h.t.le
  have hi0 : (0 : Int) ≤ (i : Int) := by omega
  have hj0 : (0 : Int) ≤ (j : Int) := by omega
  have hii : (i : Int) < (Y.k : Int) := by omega
  have hjj : (j : Int) < (Y.m : Int) := by omega
  have c1 := h.c1
  have c2 := h.c2
  have c3 := h.c3
  have c4 := h.c4
  have c5 := h.c5
  have c6 := h.c6
  have wy := h.wy i hik
  have HH := Lib.hid h
  have HP := Lib.hid hP
  have HA := Lib.hid hA
  have hcx := h.at_t hP hA
  have hcy := h.at_s hP hA
  have hxn := arI_lt (Ok_node.1 (hA.ok hP).2).1
  have hyn := arI_lt (Ok_node.1 (hA.ok hP).1).1
  rw [h.a.len] at hxn hyn
  have hxy : x = y → us.length = ss.length := by
    rintro rfl
    have e1 := (Ok_node.1 (hA.ok hP).1).1
    rw [(Ok_node.1 (hA.ok hP).2).1] at e1
    injection e1 with e1
  have HXY := Lib.hid hxy
  have HR0 := Lib.hid hr0
  have HV1 := Lib.hid hV1
  have HV2 := Lib.hid hV2
  have HV3 := Lib.hid hV3
  clear h hP hP' hA hV1 hV2 hV3 hr0 wy hxy
  cases hag : argG W us (.node y ss) with
  | true =>
    have HAG := Lib.hid hag
    have HX : x < 0 → False := fun hx => by
      have e := (Ok_node.1 (HA.out.ok HP.out).2).1
      unfold arI at e; rw [if_pos hx] at e
      have e2 : us.length = 0 := by injection e with e; exact e.symm
      rw [List.length_eq_zero_iff.1 e2] at hag
      cases hag
    have HX0 := Lib.hid (show 0 ≤ x by rcases Int.lt_or_le x 0 with h | h; exact (HX h).elim; exact h)
    have HR := Lib.hid (show r0 = 1 by rw [← HR0.out, lpoB_1 HX0.out HAG.out])
    clear hag HX
    go_enter Try.func147, Try.ntmps147
    go_wp2_with fail
    (with_reducible refine (c_l13Arg HAG.out HP.out HH.out HA.out HV1.out).mono ?_)
    rintro e w1 ⟨rfl, hE1⟩
    go_wp2
    go_ret
    exact ⟨ret_int (by rw [HR.out]; rfl), hE1⟩
  | false =>
    have HAG := Lib.hid hag
    clear hag
    by_cases hneg : y < 0 ∨ x < 0
    · have HR := Lib.hid (show r0 = 0 by
        rw [← HR0.out]
        rcases Int.lt_or_le x 0 with h | h
        · exact lpoB_var h
        · rw [lpoB_rest h HAG.out, if_pos (hneg.resolve_right (Int.not_lt.2 h))])
      have hd1 : decide (y < 0) = true ∨ (decide (y < 0) = false ∧ decide (x < 0) = true) := by
        rcases Int.lt_or_le y 0 with h | h
        · exact .inl (by simpa using h)
        · exact .inr ⟨by simpa using h, by simpa using hneg.resolve_left (Int.not_lt.2 h)⟩
      clear hneg
      rcases hd1 with hd1 | ⟨hd1, hd2⟩
      all_goals
        go_enter Try.func147, Try.ntmps147
        go_wp2_with fail
        (with_reducible refine (c_l13Arg HAG.out HP.out HH.out HA.out HV1.out).mono ?_)
        rintro e w1 ⟨rfl, hE1⟩
        go_wp2
        go_ret
        exact ⟨ret_int (by rw [HR.out]; rfl), hE1⟩
    · obtain ⟨x0, rfl⟩ := Int.eq_ofNat_of_zero_le (show 0 ≤ x by omega)
      obtain ⟨y0, rfl⟩ := Int.eq_ofNat_of_zero_le (show 0 ≤ y by omega)
      clear hneg
      have HREST := Lib.hid (HR0.out.symm.trans ((lpoB_rest (by omega) HAG.out).trans (if_neg (by omega))))
      obtain ⟨b6, o6, zx, e6, hzx, d7⟩ := RI.at_ HH.out.r (show x0 < Y.n by omega)
      cases e6
      obtain ⟨b7, o7, zy, e7, hzy, d8⟩ := RI.at_ HH.out.r (show y0 < Y.n by omega)
      cases e7
      have HKX := Lib.hid (show rkF Y.rk (x0 : Int) = zx by unfold rkF; rw [Int.toNat_natCast, List.getD_eq_getElem?_getD, hzx]; rfl)
      have HKY := Lib.hid (show rkF Y.rk (y0 : Int) = zy by unfold rkF; rw [Int.toNat_natCast, List.getD_eq_getElem?_getD, hzy]; rfl)
      have hx0n : (x0 : Int) < (Y.n : Int) := by omega
      have hy0n : (y0 : Int) < (Y.n : Int) := by omega
      have hx00 : (0 : Int) ≤ (x0 : Int) := by omega
      have hy00 : (0 : Int) ≤ (y0 : Int) := by omega
      clear hzx hzy
      by_cases hxy : x0 = y0
      · subst hxy
        have hzz : zy = zx := by rw [d7] at d8; injection d8 with d8; injection d8 with _ d8; exact d8.symm
        subst hzz
        have HLEN := Lib.hid (HXY.out rfl)
        have HR2 := Lib.hid (HREST.out.trans (if_pos rfl))
        have hdl : decide (zy < zy) = false := by simp
        have hxe : ((x0 : Int) == (x0 : Int)) = true := by simp
        cases hov : overG W (.node (x0 : Int) us) ss with
        | false =>
          have HOV := Lib.hid hov
          have HR := Lib.hid (show r0 = 0 by rw [HR2.out, hov]; rfl)
          clear hov
          go_enter Try.func147, Try.ntmps147
          go_wp2_with fail
          (with_reducible refine (c_l13Arg HAG.out HP.out HH.out HA.out HV1.out).mono ?_)
          rintro e w1 ⟨rfl, hE1⟩
          have HH1 := Lib.hid (HH.out.ext hE1)
          have c11 := Ext.keep hE1 c1
          have d71 := Ext.keep hE1 d7
          have d81 := Ext.keep hE1 d8
          go_wp2_with fail
          refine wp_region_held_drew (S := (fun w' => Ext w1 w' ∧ w'.cell? ⟨Y.g, 1, none⟩ = some (.slice (some ⟨Y.rb, Y.ro, none⟩) Y.n Y.rc) ∧ w'.cell? ⟨Y.rb, Y.ro + x0, none⟩ = some (.int .i64 zy) ∧ w'.cell? ⟨Y.rb, Y.ro + x0, none⟩ = some (.int .i64 zy))) (by kernel_rfl) ?_ (fun hH => ?_)
          · exact ⟨(Ext.refl w1).drew, c11, d71, d81⟩
          refine wpAnyH_take_dst (i := 0) (v := .pointer (some ⟨Y.g, 0, none⟩)) (d := some 36) rfl rfl (by kernel_rfl) (by kernel_rfl) (by kernel_rfl) (fun _ _ _ h => h) (Or.inl ⟨by rfl, ?_⟩) hH ?_
          · (intro w hSw; (try dsimp only at hSw); go_split_ands; go_simp; try with_reducible rfl)
          try simp only [Act.put, List.setIfInBounds_toArray, List.set_cons_zero, List.set_cons_succ]
          refine wpAnyH_take_dst (i := 1) (v := .pointer (some ⟨Y.g, 0, none⟩)) (d := some 37) rfl rfl (by kernel_rfl) (by kernel_rfl) (by kernel_rfl) (fun _ _ _ h => h) (Or.inl ⟨by rfl, ?_⟩) hH ?_
          · (intro w hSw; (try dsimp only at hSw); go_split_ands; go_simp; try with_reducible rfl)
          try simp only [Act.put, List.setIfInBounds_toArray, List.set_cons_zero, List.set_cons_succ]
          refine wpAnyH_take_dst (i := 2) (v := .pointer (some ⟨Y.g, 1, none⟩)) (d := some 38) rfl rfl (by kernel_rfl) (by kernel_rfl) (by kernel_rfl) (fun _ _ _ h => h) (Or.inl ⟨by rfl, ?_⟩) hH ?_
          · (intro w hSw; (try dsimp only at hSw); go_split_ands; go_simp; try with_reducible rfl)
          try simp only [Act.put, List.setIfInBounds_toArray, List.set_cons_zero, List.set_cons_succ]
          refine wpAnyH_take_dst (i := 3) (v := .slice (some ⟨Y.rb, Y.ro, none⟩) Y.n Y.rc) (d := some 39) rfl rfl (by kernel_rfl) (by kernel_rfl) (by kernel_rfl) (fun _ _ _ h => h) (Or.inl ⟨by rfl, ?_⟩) hH ?_
          · (intro w hSw; (try dsimp only at hSw); go_split_ands; go_simp; try with_reducible rfl)
          try simp only [Act.put, List.setIfInBounds_toArray, List.set_cons_zero, List.set_cons_succ]
          refine wpAnyH_take_dst (i := 4) (v := .int .i64 (x0 : Int)) (d := some 40) rfl rfl (by kernel_rfl) (by kernel_rfl) (by kernel_rfl) (fun _ _ _ h => h) (Or.inl ⟨by rfl, ?_⟩) hH ?_
          · (intro w hSw; (try dsimp only at hSw); go_split_ands; go_simp; try with_reducible rfl)
          try simp only [Act.put, List.setIfInBounds_toArray, List.set_cons_zero, List.set_cons_succ]
          refine wpAnyH_take_dst (i := 5) (v := .pointer (some ⟨Y.rb, Y.ro + x0, none⟩)) (d := some 41) rfl rfl (by kernel_rfl) (by kernel_rfl) (by kernel_rfl) (fun _ _ _ h => h) (Or.inl ⟨by rfl, ?_⟩) hH ?_
          · (intro w hSw; (try dsimp only at hSw); go_split_ands; go_simp; try with_reducible rfl)
          try simp only [Act.put, List.setIfInBounds_toArray, List.set_cons_zero, List.set_cons_succ]
          refine wpAnyH_take_dst (i := 6) (v := .int .i64 zy) (d := some 42) rfl rfl (by kernel_rfl) (by kernel_rfl) (by kernel_rfl) (fun _ _ _ h => h) (Or.inl ⟨by rfl, ?_⟩) hH ?_
          · (intro w hSw; (try dsimp only at hSw); go_split_ands; go_simp; try with_reducible rfl)
          try simp only [Act.put, List.setIfInBounds_toArray, List.set_cons_zero, List.set_cons_succ]
          refine wpAnyH_take_dst (i := 7) (v := .pointer (some ⟨Y.g, 0, none⟩)) (d := some 43) rfl rfl (by kernel_rfl) (by kernel_rfl) (by kernel_rfl) (fun _ _ _ h => h) (Or.inl ⟨by rfl, ?_⟩) hH ?_
          · (intro w hSw; (try dsimp only at hSw); go_split_ands; go_simp; try with_reducible rfl)
          try simp only [Act.put, List.setIfInBounds_toArray, List.set_cons_zero, List.set_cons_succ]
          refine wpAnyH_take_dst (i := 8) (v := .pointer (some ⟨Y.g, 0, none⟩)) (d := some 44) rfl rfl (by kernel_rfl) (by kernel_rfl) (by kernel_rfl) (fun _ _ _ h => h) (Or.inl ⟨by rfl, ?_⟩) hH ?_
          · (intro w hSw; (try dsimp only at hSw); go_split_ands; go_simp; try with_reducible rfl)
          try simp only [Act.put, List.setIfInBounds_toArray, List.set_cons_zero, List.set_cons_succ]
          refine wpAnyH_take_dst (i := 9) (v := .pointer (some ⟨Y.g, 1, none⟩)) (d := some 45) rfl rfl (by kernel_rfl) (by kernel_rfl) (by kernel_rfl) (fun _ _ _ h => h) (Or.inl ⟨by rfl, ?_⟩) hH ?_
          · (intro w hSw; (try dsimp only at hSw); go_split_ands; go_simp; try with_reducible rfl)
          try simp only [Act.put, List.setIfInBounds_toArray, List.set_cons_zero, List.set_cons_succ]
          refine wpAnyH_take_dst (i := 10) (v := .slice (some ⟨Y.rb, Y.ro, none⟩) Y.n Y.rc) (d := some 46) rfl rfl (by kernel_rfl) (by kernel_rfl) (by kernel_rfl) (fun _ _ _ h => h) (Or.inl ⟨by rfl, ?_⟩) hH ?_
          · (intro w hSw; (try dsimp only at hSw); go_split_ands; go_simp; try with_reducible rfl)
          try simp only [Act.put, List.setIfInBounds_toArray, List.set_cons_zero, List.set_cons_succ]
          refine wpAnyH_take_dst (i := 11) (v := .int .i64 (x0 : Int)) (d := some 47) rfl rfl (by kernel_rfl) (by kernel_rfl) (by kernel_rfl) (fun _ _ _ h => h) (Or.inl ⟨by rfl, ?_⟩) hH ?_
          · (intro w hSw; (try dsimp only at hSw); go_split_ands; go_simp; try with_reducible rfl)
          try simp only [Act.put, List.setIfInBounds_toArray, List.set_cons_zero, List.set_cons_succ]
          refine wpAnyH_take_dst (i := 12) (v := .pointer (some ⟨Y.rb, Y.ro + x0, none⟩)) (d := some 48) rfl rfl (by kernel_rfl) (by kernel_rfl) (by kernel_rfl) (fun _ _ _ h => h) (Or.inl ⟨by rfl, ?_⟩) hH ?_
          · (intro w hSw; (try dsimp only at hSw); go_split_ands; go_simp; try with_reducible rfl)
          try simp only [Act.put, List.setIfInBounds_toArray, List.set_cons_zero, List.set_cons_succ]
          refine wpAnyH_take_dst (i := 13) (v := .int .i64 zy) (d := some 49) rfl rfl (by kernel_rfl) (by kernel_rfl) (by kernel_rfl) (fun _ _ _ h => h) (Or.inl ⟨by rfl, ?_⟩) hH ?_
          · (intro w hSw; (try dsimp only at hSw); go_split_ands; go_simp; try with_reducible rfl)
          try simp only [Act.put, List.setIfInBounds_toArray, List.set_cons_zero, List.set_cons_succ]
          refine wpAnyH_take_dst (i := 14) (v := .bool false) (d := some 50) rfl rfl (by kernel_rfl) (by kernel_rfl) (by kernel_rfl) (fun _ _ _ h => h) (Or.inl ⟨by rfl, ?_⟩) hH ?_
          · (intro w hSw; (try dsimp only at hSw); go_split_ands; go_simp; try with_reducible rfl)
          try simp only [Act.put, List.setIfInBounds_toArray, List.set_cons_zero, List.set_cons_succ]
          refine wpAnyH_take_dst (i := 15) (v := .bool false) (d := some 51) rfl rfl (by kernel_rfl) (by kernel_rfl) (by kernel_rfl) (fun _ _ _ h => h) (Or.inl ⟨by rfl, ?_⟩) hH ?_
          · (intro w hSw; (try dsimp only at hSw); go_split_ands; go_simp; try with_reducible rfl)
          try simp only [Act.put, List.setIfInBounds_toArray, List.set_cons_zero, List.set_cons_succ]
          refine wpAnyH_take_dst (i := 16) (v := undef) (d := some 52) rfl rfl (by kernel_rfl) (by kernel_rfl) (by kernel_rfl) (fun _ _ _ h => h) (Or.inr ⟨by rfl, rfl⟩) hH ?_
          try simp only [Act.put, List.setIfInBounds_toArray, List.set_cons_zero, List.set_cons_succ]
          refine wpAnyH_take_dst (i := 17) (v := undef) (d := some 53) rfl rfl (by kernel_rfl) (by kernel_rfl) (by kernel_rfl) (fun _ _ _ h => h) (Or.inr ⟨by rfl, rfl⟩) hH ?_
          try simp only [Act.put, List.setIfInBounds_toArray, List.set_cons_zero, List.set_cons_succ]
          refine wpAnyH_take_dst (i := 18) (v := undef) (d := some 54) rfl rfl (by kernel_rfl) (by kernel_rfl) (by kernel_rfl) (fun _ _ _ h => h) (Or.inr ⟨by rfl, rfl⟩) hH ?_
          try simp only [Act.put, List.setIfInBounds_toArray, List.set_cons_zero, List.set_cons_succ]
          refine wpAnyH_take_dst (i := 19) (v := undef) (d := some 55) rfl rfl (by kernel_rfl) (by kernel_rfl) (by kernel_rfl) (fun _ _ _ h => h) (Or.inr ⟨by rfl, rfl⟩) hH ?_
          try simp only [Act.put, List.setIfInBounds_toArray, List.set_cons_zero, List.set_cons_succ]
          refine wpAnyH_take_dst (i := 20) (v := .bool false) (d := some 56) rfl rfl (by kernel_rfl) (by kernel_rfl) (by kernel_rfl) (fun _ _ _ h => h) (Or.inl ⟨by rfl, ?_⟩) hH ?_
          · (intro w hSw; (try dsimp only at hSw); go_split_ands; go_simp; try with_reducible rfl)
          try simp only [Act.put, List.setIfInBounds_toArray, List.set_cons_zero, List.set_cons_succ]
          refine wpAnyH_take_dst (i := 21) (v := .bool false) (d := some 35) rfl rfl (by kernel_rfl) (by kernel_rfl) (by kernel_rfl) (fun _ _ _ h => h) (Or.inl ⟨by rfl, ?_⟩) hH ?_
          · (intro w hSw; (try dsimp only at hSw); go_split_ands; go_simp; try with_reducible rfl)
          try simp only [Act.put, List.setIfInBounds_toArray, List.set_cons_zero, List.set_cons_succ]
          refine wpAnyH_done (by kernel_rfl) ?_ _
          obtain ⟨hE2, _, _, _⟩ := hH
          have HH2 := Lib.hid (HH1.out.ext hE2)
          go_wp2_with fail
          (with_reducible refine (c_l13Over HOV.out HP.out HH2.out HA.out HV2.out).mono ?_)
          rintro e w3 ⟨rfl, hE3⟩
          go_wp2
          go_ret
          exact ⟨ret_int (by rw [HR.out]; rfl), Ext.trans hE1 (Ext.trans hE2 hE3)⟩
        | true =>
          have HOV := Lib.hid hov
          obtain ⟨bl, hbl⟩ : ∃ bl, lexG W us ss = bl := ⟨_, rfl⟩
          have HBL := Lib.hid hbl
          have HR := Lib.hid (show r0 = if bl = true then 3 else 0 by rw [HR2.out, hov, hbl]; first | done | rfl | simp)
          clear hov hbl
          go_enter Try.func147, Try.ntmps147
          go_wp2_with fail
          (with_reducible refine (c_l13Arg HAG.out HP.out HH.out HA.out HV1.out).mono ?_)
          rintro e w1 ⟨rfl, hE1⟩
          have HH1 := Lib.hid (HH.out.ext hE1)
          have c11 := Ext.keep hE1 c1
          have d71 := Ext.keep hE1 d7
          have d81 := Ext.keep hE1 d8
          go_wp2_with fail
          refine wp_region_held_drew (S := (fun w' => Ext w1 w' ∧ w'.cell? ⟨Y.g, 1, none⟩ = some (.slice (some ⟨Y.rb, Y.ro, none⟩) Y.n Y.rc) ∧ w'.cell? ⟨Y.rb, Y.ro + x0, none⟩ = some (.int .i64 zy) ∧ w'.cell? ⟨Y.rb, Y.ro + x0, none⟩ = some (.int .i64 zy))) (by kernel_rfl) ?_ (fun hH => ?_)
          · exact ⟨(Ext.refl w1).drew, c11, d71, d81⟩
          refine wpAnyH_take_dst (i := 0) (v := .pointer (some ⟨Y.g, 0, none⟩)) (d := some 36) rfl rfl (by kernel_rfl) (by kernel_rfl) (by kernel_rfl) (fun _ _ _ h => h) (Or.inl ⟨by rfl, ?_⟩) hH ?_
          · (intro w hSw; (try dsimp only at hSw); go_split_ands; go_simp; try with_reducible rfl)
          try simp only [Act.put, List.setIfInBounds_toArray, List.set_cons_zero, List.set_cons_succ]
          refine wpAnyH_take_dst (i := 1) (v := .pointer (some ⟨Y.g, 0, none⟩)) (d := some 37) rfl rfl (by kernel_rfl) (by kernel_rfl) (by kernel_rfl) (fun _ _ _ h => h) (Or.inl ⟨by rfl, ?_⟩) hH ?_
          · (intro w hSw; (try dsimp only at hSw); go_split_ands; go_simp; try with_reducible rfl)
          try simp only [Act.put, List.setIfInBounds_toArray, List.set_cons_zero, List.set_cons_succ]
          refine wpAnyH_take_dst (i := 2) (v := .pointer (some ⟨Y.g, 1, none⟩)) (d := some 38) rfl rfl (by kernel_rfl) (by kernel_rfl) (by kernel_rfl) (fun _ _ _ h => h) (Or.inl ⟨by rfl, ?_⟩) hH ?_
          · (intro w hSw; (try dsimp only at hSw); go_split_ands; go_simp; try with_reducible rfl)
          try simp only [Act.put, List.setIfInBounds_toArray, List.set_cons_zero, List.set_cons_succ]
          refine wpAnyH_take_dst (i := 3) (v := .slice (some ⟨Y.rb, Y.ro, none⟩) Y.n Y.rc) (d := some 39) rfl rfl (by kernel_rfl) (by kernel_rfl) (by kernel_rfl) (fun _ _ _ h => h) (Or.inl ⟨by rfl, ?_⟩) hH ?_
          · (intro w hSw; (try dsimp only at hSw); go_split_ands; go_simp; try with_reducible rfl)
          try simp only [Act.put, List.setIfInBounds_toArray, List.set_cons_zero, List.set_cons_succ]
          refine wpAnyH_take_dst (i := 4) (v := .int .i64 (x0 : Int)) (d := some 40) rfl rfl (by kernel_rfl) (by kernel_rfl) (by kernel_rfl) (fun _ _ _ h => h) (Or.inl ⟨by rfl, ?_⟩) hH ?_
          · (intro w hSw; (try dsimp only at hSw); go_split_ands; go_simp; try with_reducible rfl)
          try simp only [Act.put, List.setIfInBounds_toArray, List.set_cons_zero, List.set_cons_succ]
          refine wpAnyH_take_dst (i := 5) (v := .pointer (some ⟨Y.rb, Y.ro + x0, none⟩)) (d := some 41) rfl rfl (by kernel_rfl) (by kernel_rfl) (by kernel_rfl) (fun _ _ _ h => h) (Or.inl ⟨by rfl, ?_⟩) hH ?_
          · (intro w hSw; (try dsimp only at hSw); go_split_ands; go_simp; try with_reducible rfl)
          try simp only [Act.put, List.setIfInBounds_toArray, List.set_cons_zero, List.set_cons_succ]
          refine wpAnyH_take_dst (i := 6) (v := .int .i64 zy) (d := some 42) rfl rfl (by kernel_rfl) (by kernel_rfl) (by kernel_rfl) (fun _ _ _ h => h) (Or.inl ⟨by rfl, ?_⟩) hH ?_
          · (intro w hSw; (try dsimp only at hSw); go_split_ands; go_simp; try with_reducible rfl)
          try simp only [Act.put, List.setIfInBounds_toArray, List.set_cons_zero, List.set_cons_succ]
          refine wpAnyH_take_dst (i := 7) (v := .pointer (some ⟨Y.g, 0, none⟩)) (d := some 43) rfl rfl (by kernel_rfl) (by kernel_rfl) (by kernel_rfl) (fun _ _ _ h => h) (Or.inl ⟨by rfl, ?_⟩) hH ?_
          · (intro w hSw; (try dsimp only at hSw); go_split_ands; go_simp; try with_reducible rfl)
          try simp only [Act.put, List.setIfInBounds_toArray, List.set_cons_zero, List.set_cons_succ]
          refine wpAnyH_take_dst (i := 8) (v := .pointer (some ⟨Y.g, 0, none⟩)) (d := some 44) rfl rfl (by kernel_rfl) (by kernel_rfl) (by kernel_rfl) (fun _ _ _ h => h) (Or.inl ⟨by rfl, ?_⟩) hH ?_
          · (intro w hSw; (try dsimp only at hSw); go_split_ands; go_simp; try with_reducible rfl)
          try simp only [Act.put, List.setIfInBounds_toArray, List.set_cons_zero, List.set_cons_succ]
          refine wpAnyH_take_dst (i := 9) (v := .pointer (some ⟨Y.g, 1, none⟩)) (d := some 45) rfl rfl (by kernel_rfl) (by kernel_rfl) (by kernel_rfl) (fun _ _ _ h => h) (Or.inl ⟨by rfl, ?_⟩) hH ?_
          · (intro w hSw; (try dsimp only at hSw); go_split_ands; go_simp; try with_reducible rfl)
          try simp only [Act.put, List.setIfInBounds_toArray, List.set_cons_zero, List.set_cons_succ]
          refine wpAnyH_take_dst (i := 10) (v := .slice (some ⟨Y.rb, Y.ro, none⟩) Y.n Y.rc) (d := some 46) rfl rfl (by kernel_rfl) (by kernel_rfl) (by kernel_rfl) (fun _ _ _ h => h) (Or.inl ⟨by rfl, ?_⟩) hH ?_
          · (intro w hSw; (try dsimp only at hSw); go_split_ands; go_simp; try with_reducible rfl)
          try simp only [Act.put, List.setIfInBounds_toArray, List.set_cons_zero, List.set_cons_succ]
          refine wpAnyH_take_dst (i := 11) (v := .int .i64 (x0 : Int)) (d := some 47) rfl rfl (by kernel_rfl) (by kernel_rfl) (by kernel_rfl) (fun _ _ _ h => h) (Or.inl ⟨by rfl, ?_⟩) hH ?_
          · (intro w hSw; (try dsimp only at hSw); go_split_ands; go_simp; try with_reducible rfl)
          try simp only [Act.put, List.setIfInBounds_toArray, List.set_cons_zero, List.set_cons_succ]
          refine wpAnyH_take_dst (i := 12) (v := .pointer (some ⟨Y.rb, Y.ro + x0, none⟩)) (d := some 48) rfl rfl (by kernel_rfl) (by kernel_rfl) (by kernel_rfl) (fun _ _ _ h => h) (Or.inl ⟨by rfl, ?_⟩) hH ?_
          · (intro w hSw; (try dsimp only at hSw); go_split_ands; go_simp; try with_reducible rfl)
          try simp only [Act.put, List.setIfInBounds_toArray, List.set_cons_zero, List.set_cons_succ]
          refine wpAnyH_take_dst (i := 13) (v := .int .i64 zy) (d := some 49) rfl rfl (by kernel_rfl) (by kernel_rfl) (by kernel_rfl) (fun _ _ _ h => h) (Or.inl ⟨by rfl, ?_⟩) hH ?_
          · (intro w hSw; (try dsimp only at hSw); go_split_ands; go_simp; try with_reducible rfl)
          try simp only [Act.put, List.setIfInBounds_toArray, List.set_cons_zero, List.set_cons_succ]
          refine wpAnyH_take_dst (i := 14) (v := .bool false) (d := some 50) rfl rfl (by kernel_rfl) (by kernel_rfl) (by kernel_rfl) (fun _ _ _ h => h) (Or.inl ⟨by rfl, ?_⟩) hH ?_
          · (intro w hSw; (try dsimp only at hSw); go_split_ands; go_simp; try with_reducible rfl)
          try simp only [Act.put, List.setIfInBounds_toArray, List.set_cons_zero, List.set_cons_succ]
          refine wpAnyH_take_dst (i := 15) (v := .bool false) (d := some 51) rfl rfl (by kernel_rfl) (by kernel_rfl) (by kernel_rfl) (fun _ _ _ h => h) (Or.inl ⟨by rfl, ?_⟩) hH ?_
          · (intro w hSw; (try dsimp only at hSw); go_split_ands; go_simp; try with_reducible rfl)
          try simp only [Act.put, List.setIfInBounds_toArray, List.set_cons_zero, List.set_cons_succ]
          refine wpAnyH_take_dst (i := 16) (v := undef) (d := some 52) rfl rfl (by kernel_rfl) (by kernel_rfl) (by kernel_rfl) (fun _ _ _ h => h) (Or.inr ⟨by rfl, rfl⟩) hH ?_
          try simp only [Act.put, List.setIfInBounds_toArray, List.set_cons_zero, List.set_cons_succ]
          refine wpAnyH_take_dst (i := 17) (v := undef) (d := some 53) rfl rfl (by kernel_rfl) (by kernel_rfl) (by kernel_rfl) (fun _ _ _ h => h) (Or.inr ⟨by rfl, rfl⟩) hH ?_
          try simp only [Act.put, List.setIfInBounds_toArray, List.set_cons_zero, List.set_cons_succ]
          refine wpAnyH_take_dst (i := 18) (v := undef) (d := some 54) rfl rfl (by kernel_rfl) (by kernel_rfl) (by kernel_rfl) (fun _ _ _ h => h) (Or.inr ⟨by rfl, rfl⟩) hH ?_
          try simp only [Act.put, List.setIfInBounds_toArray, List.set_cons_zero, List.set_cons_succ]
          refine wpAnyH_take_dst (i := 19) (v := undef) (d := some 55) rfl rfl (by kernel_rfl) (by kernel_rfl) (by kernel_rfl) (fun _ _ _ h => h) (Or.inr ⟨by rfl, rfl⟩) hH ?_
          try simp only [Act.put, List.setIfInBounds_toArray, List.set_cons_zero, List.set_cons_succ]
          refine wpAnyH_take_dst (i := 20) (v := .bool false) (d := some 56) rfl rfl (by kernel_rfl) (by kernel_rfl) (by kernel_rfl) (fun _ _ _ h => h) (Or.inl ⟨by rfl, ?_⟩) hH ?_
          · (intro w hSw; (try dsimp only at hSw); go_split_ands; go_simp; try with_reducible rfl)
          try simp only [Act.put, List.setIfInBounds_toArray, List.set_cons_zero, List.set_cons_succ]
          refine wpAnyH_take_dst (i := 21) (v := .bool false) (d := some 35) rfl rfl (by kernel_rfl) (by kernel_rfl) (by kernel_rfl) (fun _ _ _ h => h) (Or.inl ⟨by rfl, ?_⟩) hH ?_
          · (intro w hSw; (try dsimp only at hSw); go_split_ands; go_simp; try with_reducible rfl)
          try simp only [Act.put, List.setIfInBounds_toArray, List.set_cons_zero, List.set_cons_succ]
          refine wpAnyH_done (by kernel_rfl) ?_ _
          obtain ⟨hE2, _, _, _⟩ := hH
          have HH2 := Lib.hid (HH1.out.ext hE2)
          go_wp2_with fail
          (with_reducible refine (c_l13Over HOV.out HP.out HH2.out HA.out HV2.out).mono ?_)
          rintro e w3 ⟨rfl, hE3⟩
          have HH3 := Lib.hid (HH2.out.ext hE3)
          go_wp2_with fail
          (with_reducible refine (c_l13First HBL.out HP.out HH3.out HA.out HLEN.out HV3.out).mono ?_)
          rintro e w4 ⟨rfl, hE4⟩
          cases bl with
          | true =>
            go_wp2
            go_ret
            exact ⟨ret_int (by rw [HR.out]; rfl), Ext.trans hE1 (Ext.trans hE2 (Ext.trans hE3 hE4))⟩
          | false =>
            go_wp2
            go_ret
            exact ⟨ret_int (by rw [HR.out]; rfl), Ext.trans hE1 (Ext.trans hE2 (Ext.trans hE3 hE4))⟩
      · have HR2 := Lib.hid (HREST.out.trans (if_neg (by omega)))
        have hxe : ((y0 : Int) == (x0 : Int)) = false := by simp; omega
        by_cases hlt : zy < zx
        · have hdl : decide (zy < zx) = true := by simpa using hlt
          have hlt2 : rkF Y.rk (y0 : Int) < rkF Y.rk (x0 : Int) := by rw [HKX.out, HKY.out]; exact hlt
          cases hov : overG W (.node (x0 : Int) us) ss with
          | true =>
            have HOV := Lib.hid hov
            have HR := Lib.hid (show r0 = 2 by rw [HR2.out, if_pos ⟨hlt2, hov⟩])
            clear hov hlt hlt2 hxy
            go_enter Try.func147, Try.ntmps147
            go_wp2_with fail
            (with_reducible refine (c_l13Arg HAG.out HP.out HH.out HA.out HV1.out).mono ?_)
            rintro e w1 ⟨rfl, hE1⟩
            have HH1 := Lib.hid (HH.out.ext hE1)
            have c11 := Ext.keep hE1 c1
            have d71 := Ext.keep hE1 d7
            have d81 := Ext.keep hE1 d8
            go_wp2_with fail
            refine wp_region_held_drew (S := (fun w' => Ext w1 w' ∧ w'.cell? ⟨Y.g, 1, none⟩ = some (.slice (some ⟨Y.rb, Y.ro, none⟩) Y.n Y.rc) ∧ w'.cell? ⟨Y.rb, Y.ro + x0, none⟩ = some (.int .i64 zx) ∧ w'.cell? ⟨Y.rb, Y.ro + y0, none⟩ = some (.int .i64 zy))) (by kernel_rfl) ?_ (fun hH => ?_)
            · exact ⟨(Ext.refl w1).drew, c11, d71, d81⟩
            refine wpAnyH_take_dst (i := 0) (v := .pointer (some ⟨Y.g, 0, none⟩)) (d := some 36) rfl rfl (by kernel_rfl) (by kernel_rfl) (by kernel_rfl) (fun _ _ _ h => h) (Or.inl ⟨by rfl, ?_⟩) hH ?_
            · (intro w hSw; (try dsimp only at hSw); go_split_ands; go_simp; try with_reducible rfl)
            try simp only [Act.put, List.setIfInBounds_toArray, List.set_cons_zero, List.set_cons_succ]
            refine wpAnyH_take_dst (i := 1) (v := .pointer (some ⟨Y.g, 0, none⟩)) (d := some 37) rfl rfl (by kernel_rfl) (by kernel_rfl) (by kernel_rfl) (fun _ _ _ h => h) (Or.inl ⟨by rfl, ?_⟩) hH ?_
            · (intro w hSw; (try dsimp only at hSw); go_split_ands; go_simp; try with_reducible rfl)
            try simp only [Act.put, List.setIfInBounds_toArray, List.set_cons_zero, List.set_cons_succ]
            refine wpAnyH_take_dst (i := 2) (v := .pointer (some ⟨Y.g, 1, none⟩)) (d := some 38) rfl rfl (by kernel_rfl) (by kernel_rfl) (by kernel_rfl) (fun _ _ _ h => h) (Or.inl ⟨by rfl, ?_⟩) hH ?_
            · (intro w hSw; (try dsimp only at hSw); go_split_ands; go_simp; try with_reducible rfl)
            try simp only [Act.put, List.setIfInBounds_toArray, List.set_cons_zero, List.set_cons_succ]
            refine wpAnyH_take_dst (i := 3) (v := .slice (some ⟨Y.rb, Y.ro, none⟩) Y.n Y.rc) (d := some 39) rfl rfl (by kernel_rfl) (by kernel_rfl) (by kernel_rfl) (fun _ _ _ h => h) (Or.inl ⟨by rfl, ?_⟩) hH ?_
            · (intro w hSw; (try dsimp only at hSw); go_split_ands; go_simp; try with_reducible rfl)
            try simp only [Act.put, List.setIfInBounds_toArray, List.set_cons_zero, List.set_cons_succ]
            refine wpAnyH_take_dst (i := 4) (v := .int .i64 (y0 : Int)) (d := some 40) rfl rfl (by kernel_rfl) (by kernel_rfl) (by kernel_rfl) (fun _ _ _ h => h) (Or.inl ⟨by rfl, ?_⟩) hH ?_
            · (intro w hSw; (try dsimp only at hSw); go_split_ands; go_simp; try with_reducible rfl)
            try simp only [Act.put, List.setIfInBounds_toArray, List.set_cons_zero, List.set_cons_succ]
            refine wpAnyH_take_dst (i := 5) (v := .pointer (some ⟨Y.rb, Y.ro + y0, none⟩)) (d := some 41) rfl rfl (by kernel_rfl) (by kernel_rfl) (by kernel_rfl) (fun _ _ _ h => h) (Or.inl ⟨by rfl, ?_⟩) hH ?_
            · (intro w hSw; (try dsimp only at hSw); go_split_ands; go_simp; try with_reducible rfl)
            try simp only [Act.put, List.setIfInBounds_toArray, List.set_cons_zero, List.set_cons_succ]
            refine wpAnyH_take_dst (i := 6) (v := .int .i64 zy) (d := some 42) rfl rfl (by kernel_rfl) (by kernel_rfl) (by kernel_rfl) (fun _ _ _ h => h) (Or.inl ⟨by rfl, ?_⟩) hH ?_
            · (intro w hSw; (try dsimp only at hSw); go_split_ands; go_simp; try with_reducible rfl)
            try simp only [Act.put, List.setIfInBounds_toArray, List.set_cons_zero, List.set_cons_succ]
            refine wpAnyH_take_dst (i := 7) (v := .pointer (some ⟨Y.g, 0, none⟩)) (d := some 43) rfl rfl (by kernel_rfl) (by kernel_rfl) (by kernel_rfl) (fun _ _ _ h => h) (Or.inl ⟨by rfl, ?_⟩) hH ?_
            · (intro w hSw; (try dsimp only at hSw); go_split_ands; go_simp; try with_reducible rfl)
            try simp only [Act.put, List.setIfInBounds_toArray, List.set_cons_zero, List.set_cons_succ]
            refine wpAnyH_take_dst (i := 8) (v := .pointer (some ⟨Y.g, 0, none⟩)) (d := some 44) rfl rfl (by kernel_rfl) (by kernel_rfl) (by kernel_rfl) (fun _ _ _ h => h) (Or.inl ⟨by rfl, ?_⟩) hH ?_
            · (intro w hSw; (try dsimp only at hSw); go_split_ands; go_simp; try with_reducible rfl)
            try simp only [Act.put, List.setIfInBounds_toArray, List.set_cons_zero, List.set_cons_succ]
            refine wpAnyH_take_dst (i := 9) (v := .pointer (some ⟨Y.g, 1, none⟩)) (d := some 45) rfl rfl (by kernel_rfl) (by kernel_rfl) (by kernel_rfl) (fun _ _ _ h => h) (Or.inl ⟨by rfl, ?_⟩) hH ?_
            · (intro w hSw; (try dsimp only at hSw); go_split_ands; go_simp; try with_reducible rfl)
            try simp only [Act.put, List.setIfInBounds_toArray, List.set_cons_zero, List.set_cons_succ]
            refine wpAnyH_take_dst (i := 10) (v := .slice (some ⟨Y.rb, Y.ro, none⟩) Y.n Y.rc) (d := some 46) rfl rfl (by kernel_rfl) (by kernel_rfl) (by kernel_rfl) (fun _ _ _ h => h) (Or.inl ⟨by rfl, ?_⟩) hH ?_
            · (intro w hSw; (try dsimp only at hSw); go_split_ands; go_simp; try with_reducible rfl)
            try simp only [Act.put, List.setIfInBounds_toArray, List.set_cons_zero, List.set_cons_succ]
            refine wpAnyH_take_dst (i := 11) (v := .int .i64 (x0 : Int)) (d := some 47) rfl rfl (by kernel_rfl) (by kernel_rfl) (by kernel_rfl) (fun _ _ _ h => h) (Or.inl ⟨by rfl, ?_⟩) hH ?_
            · (intro w hSw; (try dsimp only at hSw); go_split_ands; go_simp; try with_reducible rfl)
            try simp only [Act.put, List.setIfInBounds_toArray, List.set_cons_zero, List.set_cons_succ]
            refine wpAnyH_take_dst (i := 12) (v := .pointer (some ⟨Y.rb, Y.ro + x0, none⟩)) (d := some 48) rfl rfl (by kernel_rfl) (by kernel_rfl) (by kernel_rfl) (fun _ _ _ h => h) (Or.inl ⟨by rfl, ?_⟩) hH ?_
            · (intro w hSw; (try dsimp only at hSw); go_split_ands; go_simp; try with_reducible rfl)
            try simp only [Act.put, List.setIfInBounds_toArray, List.set_cons_zero, List.set_cons_succ]
            refine wpAnyH_take_dst (i := 13) (v := .int .i64 zx) (d := some 49) rfl rfl (by kernel_rfl) (by kernel_rfl) (by kernel_rfl) (fun _ _ _ h => h) (Or.inl ⟨by rfl, ?_⟩) hH ?_
            · (intro w hSw; (try dsimp only at hSw); go_split_ands; go_simp; try with_reducible rfl)
            try simp only [Act.put, List.setIfInBounds_toArray, List.set_cons_zero, List.set_cons_succ]
            refine wpAnyH_take_dst (i := 14) (v := .bool true) (d := some 50) rfl rfl (by kernel_rfl) (by kernel_rfl) (by kernel_rfl) (fun _ _ _ h => h) (Or.inl ⟨by rfl, ?_⟩) hH ?_
            · (intro w hSw; (try dsimp only at hSw); go_split_ands; go_simp; try with_reducible rfl)
            try simp only [Act.put, List.setIfInBounds_toArray, List.set_cons_zero, List.set_cons_succ]
            refine wpAnyH_take_dst (i := 15) (v := .bool true) (d := some 51) rfl rfl (by kernel_rfl) (by kernel_rfl) (by kernel_rfl) (fun _ _ _ h => h) (Or.inl ⟨by rfl, ?_⟩) hH ?_
            · (intro w hSw; (try dsimp only at hSw); go_split_ands; go_simp; try with_reducible rfl)
            try simp only [Act.put, List.setIfInBounds_toArray, List.set_cons_zero, List.set_cons_succ]
            refine wpAnyH_take_dst (i := 16) (v := .pointer (some ⟨Y.g, 0, none⟩)) (d := some 52) rfl rfl (by kernel_rfl) (by kernel_rfl) (by kernel_rfl) (fun _ _ _ h => h) (Or.inl ⟨by rfl, ?_⟩) hH ?_
            · (intro w hSw; (try dsimp only at hSw); go_split_ands; go_simp; try with_reducible rfl)
            try simp only [Act.put, List.setIfInBounds_toArray, List.set_cons_zero, List.set_cons_succ]
            refine wpAnyH_take_dst (i := 17) (v := .int .i64 (i : Int)) (d := some 53) rfl rfl (by kernel_rfl) (by kernel_rfl) (by kernel_rfl) (fun _ _ _ h => h) (Or.inl ⟨by rfl, ?_⟩) hH ?_
            · (intro w hSw; (try dsimp only at hSw); go_split_ands; go_simp; try with_reducible rfl)
            try simp only [Act.put, List.setIfInBounds_toArray, List.set_cons_zero, List.set_cons_succ]
            refine wpAnyH_take_dst (i := 18) (v := .int .i64 (j : Int)) (d := some 54) rfl rfl (by kernel_rfl) (by kernel_rfl) (by kernel_rfl) (fun _ _ _ h => h) (Or.inl ⟨by rfl, ?_⟩) hH ?_
            · (intro w hSw; (try dsimp only at hSw); go_split_ands; go_simp; try with_reducible rfl)
            try simp only [Act.put, List.setIfInBounds_toArray, List.set_cons_zero, List.set_cons_succ]
            refine wpAnyH_ready (rs := [19]) (by kernel_rfl) (by simp) ?_
            refine AllReadyH.cons rfl (fun K hK => ?_) AllReadyH.nil
            rw [if_pos (by rfl)]
            go_wp2_with (go_at_call 128; (with_reducible refine ((c_l13Over HOV.out HP.out (HH1.out.ext hH.1) HA.out HV2.out)).mono ?_); rintro e w2 ⟨rfl, hE9⟩)
            refine hK.out _ _ ⟨Ext.trans hH.1 hE9, Ext.keep hE9 hH.2.1, Ext.keep hE9 hH.2.2.1, Ext.keep hE9 hH.2.2.2⟩ (fun hH9 => ?_)
            clear hK hH; have hH := hH9; clear hH9
            try simp only [Act.put, List.setIfInBounds_toArray, List.set_cons_zero, List.set_cons_succ]
            refine wpAnyH_take_dst (i := 20) (v := .bool true) (d := some 56) rfl rfl (by kernel_rfl) (by kernel_rfl) (by kernel_rfl) (fun _ _ _ h => h) (Or.inl ⟨by rfl, ?_⟩) hH ?_
            · (intro w hSw; (try dsimp only at hSw); go_split_ands; go_simp; try with_reducible rfl)
            try simp only [Act.put, List.setIfInBounds_toArray, List.set_cons_zero, List.set_cons_succ]
            refine wpAnyH_take_dst (i := 21) (v := .bool true) (d := some 35) rfl rfl (by kernel_rfl) (by kernel_rfl) (by kernel_rfl) (fun _ _ _ h => h) (Or.inl ⟨by rfl, ?_⟩) hH ?_
            · (intro w hSw; (try dsimp only at hSw); go_split_ands; go_simp; try with_reducible rfl)
            try simp only [Act.put, List.setIfInBounds_toArray, List.set_cons_zero, List.set_cons_succ]
            refine wpAnyH_done (by kernel_rfl) ?_ _
            obtain ⟨hE2, _, _, _⟩ := hH
            go_wp2
            go_ret
            exact ⟨ret_int (by rw [HR.out]; rfl), Ext.trans hE1 hE2⟩
          | false =>
            have HOV := Lib.hid hov
            have HR := Lib.hid (show r0 = 0 by rw [HR2.out, if_neg (fun h => by rw [hov] at h; cases h.2)])
            clear hov hlt hlt2 hxy
            go_enter Try.func147, Try.ntmps147
            go_wp2_with fail
            (with_reducible refine (c_l13Arg HAG.out HP.out HH.out HA.out HV1.out).mono ?_)
            rintro e w1 ⟨rfl, hE1⟩
            have HH1 := Lib.hid (HH.out.ext hE1)
            have c11 := Ext.keep hE1 c1
            have d71 := Ext.keep hE1 d7
            have d81 := Ext.keep hE1 d8
            go_wp2_with fail
            refine wp_region_held_drew (S := (fun w' => Ext w1 w' ∧ w'.cell? ⟨Y.g, 1, none⟩ = some (.slice (some ⟨Y.rb, Y.ro, none⟩) Y.n Y.rc) ∧ w'.cell? ⟨Y.rb, Y.ro + x0, none⟩ = some (.int .i64 zx) ∧ w'.cell? ⟨Y.rb, Y.ro + y0, none⟩ = some (.int .i64 zy))) (by kernel_rfl) ?_ (fun hH => ?_)
            · exact ⟨(Ext.refl w1).drew, c11, d71, d81⟩
            refine wpAnyH_take_dst (i := 0) (v := .pointer (some ⟨Y.g, 0, none⟩)) (d := some 36) rfl rfl (by kernel_rfl) (by kernel_rfl) (by kernel_rfl) (fun _ _ _ h => h) (Or.inl ⟨by rfl, ?_⟩) hH ?_
            · (intro w hSw; (try dsimp only at hSw); go_split_ands; go_simp; try with_reducible rfl)
            try simp only [Act.put, List.setIfInBounds_toArray, List.set_cons_zero, List.set_cons_succ]
            refine wpAnyH_take_dst (i := 1) (v := .pointer (some ⟨Y.g, 0, none⟩)) (d := some 37) rfl rfl (by kernel_rfl) (by kernel_rfl) (by kernel_rfl) (fun _ _ _ h => h) (Or.inl ⟨by rfl, ?_⟩) hH ?_
            · (intro w hSw; (try dsimp only at hSw); go_split_ands; go_simp; try with_reducible rfl)
            try simp only [Act.put, List.setIfInBounds_toArray, List.set_cons_zero, List.set_cons_succ]
            refine wpAnyH_take_dst (i := 2) (v := .pointer (some ⟨Y.g, 1, none⟩)) (d := some 38) rfl rfl (by kernel_rfl) (by kernel_rfl) (by kernel_rfl) (fun _ _ _ h => h) (Or.inl ⟨by rfl, ?_⟩) hH ?_
            · (intro w hSw; (try dsimp only at hSw); go_split_ands; go_simp; try with_reducible rfl)
            try simp only [Act.put, List.setIfInBounds_toArray, List.set_cons_zero, List.set_cons_succ]
            refine wpAnyH_take_dst (i := 3) (v := .slice (some ⟨Y.rb, Y.ro, none⟩) Y.n Y.rc) (d := some 39) rfl rfl (by kernel_rfl) (by kernel_rfl) (by kernel_rfl) (fun _ _ _ h => h) (Or.inl ⟨by rfl, ?_⟩) hH ?_
            · (intro w hSw; (try dsimp only at hSw); go_split_ands; go_simp; try with_reducible rfl)
            try simp only [Act.put, List.setIfInBounds_toArray, List.set_cons_zero, List.set_cons_succ]
            refine wpAnyH_take_dst (i := 4) (v := .int .i64 (y0 : Int)) (d := some 40) rfl rfl (by kernel_rfl) (by kernel_rfl) (by kernel_rfl) (fun _ _ _ h => h) (Or.inl ⟨by rfl, ?_⟩) hH ?_
            · (intro w hSw; (try dsimp only at hSw); go_split_ands; go_simp; try with_reducible rfl)
            try simp only [Act.put, List.setIfInBounds_toArray, List.set_cons_zero, List.set_cons_succ]
            refine wpAnyH_take_dst (i := 5) (v := .pointer (some ⟨Y.rb, Y.ro + y0, none⟩)) (d := some 41) rfl rfl (by kernel_rfl) (by kernel_rfl) (by kernel_rfl) (fun _ _ _ h => h) (Or.inl ⟨by rfl, ?_⟩) hH ?_
            · (intro w hSw; (try dsimp only at hSw); go_split_ands; go_simp; try with_reducible rfl)
            try simp only [Act.put, List.setIfInBounds_toArray, List.set_cons_zero, List.set_cons_succ]
            refine wpAnyH_take_dst (i := 6) (v := .int .i64 zy) (d := some 42) rfl rfl (by kernel_rfl) (by kernel_rfl) (by kernel_rfl) (fun _ _ _ h => h) (Or.inl ⟨by rfl, ?_⟩) hH ?_
            · (intro w hSw; (try dsimp only at hSw); go_split_ands; go_simp; try with_reducible rfl)
            try simp only [Act.put, List.setIfInBounds_toArray, List.set_cons_zero, List.set_cons_succ]
            refine wpAnyH_take_dst (i := 7) (v := .pointer (some ⟨Y.g, 0, none⟩)) (d := some 43) rfl rfl (by kernel_rfl) (by kernel_rfl) (by kernel_rfl) (fun _ _ _ h => h) (Or.inl ⟨by rfl, ?_⟩) hH ?_
            · (intro w hSw; (try dsimp only at hSw); go_split_ands; go_simp; try with_reducible rfl)
            try simp only [Act.put, List.setIfInBounds_toArray, List.set_cons_zero, List.set_cons_succ]
            refine wpAnyH_take_dst (i := 8) (v := .pointer (some ⟨Y.g, 0, none⟩)) (d := some 44) rfl rfl (by kernel_rfl) (by kernel_rfl) (by kernel_rfl) (fun _ _ _ h => h) (Or.inl ⟨by rfl, ?_⟩) hH ?_
            · (intro w hSw; (try dsimp only at hSw); go_split_ands; go_simp; try with_reducible rfl)
            try simp only [Act.put, List.setIfInBounds_toArray, List.set_cons_zero, List.set_cons_succ]
            refine wpAnyH_take_dst (i := 9) (v := .pointer (some ⟨Y.g, 1, none⟩)) (d := some 45) rfl rfl (by kernel_rfl) (by kernel_rfl) (by kernel_rfl) (fun _ _ _ h => h) (Or.inl ⟨by rfl, ?_⟩) hH ?_
            · (intro w hSw; (try dsimp only at hSw); go_split_ands; go_simp; try with_reducible rfl)
            try simp only [Act.put, List.setIfInBounds_toArray, List.set_cons_zero, List.set_cons_succ]
            refine wpAnyH_take_dst (i := 10) (v := .slice (some ⟨Y.rb, Y.ro, none⟩) Y.n Y.rc) (d := some 46) rfl rfl (by kernel_rfl) (by kernel_rfl) (by kernel_rfl) (fun _ _ _ h => h) (Or.inl ⟨by rfl, ?_⟩) hH ?_
            · (intro w hSw; (try dsimp only at hSw); go_split_ands; go_simp; try with_reducible rfl)
            try simp only [Act.put, List.setIfInBounds_toArray, List.set_cons_zero, List.set_cons_succ]
            refine wpAnyH_take_dst (i := 11) (v := .int .i64 (x0 : Int)) (d := some 47) rfl rfl (by kernel_rfl) (by kernel_rfl) (by kernel_rfl) (fun _ _ _ h => h) (Or.inl ⟨by rfl, ?_⟩) hH ?_
            · (intro w hSw; (try dsimp only at hSw); go_split_ands; go_simp; try with_reducible rfl)
            try simp only [Act.put, List.setIfInBounds_toArray, List.set_cons_zero, List.set_cons_succ]
            refine wpAnyH_take_dst (i := 12) (v := .pointer (some ⟨Y.rb, Y.ro + x0, none⟩)) (d := some 48) rfl rfl (by kernel_rfl) (by kernel_rfl) (by kernel_rfl) (fun _ _ _ h => h) (Or.inl ⟨by rfl, ?_⟩) hH ?_
            · (intro w hSw; (try dsimp only at hSw); go_split_ands; go_simp; try with_reducible rfl)
            try simp only [Act.put, List.setIfInBounds_toArray, List.set_cons_zero, List.set_cons_succ]
            refine wpAnyH_take_dst (i := 13) (v := .int .i64 zx) (d := some 49) rfl rfl (by kernel_rfl) (by kernel_rfl) (by kernel_rfl) (fun _ _ _ h => h) (Or.inl ⟨by rfl, ?_⟩) hH ?_
            · (intro w hSw; (try dsimp only at hSw); go_split_ands; go_simp; try with_reducible rfl)
            try simp only [Act.put, List.setIfInBounds_toArray, List.set_cons_zero, List.set_cons_succ]
            refine wpAnyH_take_dst (i := 14) (v := .bool true) (d := some 50) rfl rfl (by kernel_rfl) (by kernel_rfl) (by kernel_rfl) (fun _ _ _ h => h) (Or.inl ⟨by rfl, ?_⟩) hH ?_
            · (intro w hSw; (try dsimp only at hSw); go_split_ands; go_simp; try with_reducible rfl)
            try simp only [Act.put, List.setIfInBounds_toArray, List.set_cons_zero, List.set_cons_succ]
            refine wpAnyH_take_dst (i := 15) (v := .bool true) (d := some 51) rfl rfl (by kernel_rfl) (by kernel_rfl) (by kernel_rfl) (fun _ _ _ h => h) (Or.inl ⟨by rfl, ?_⟩) hH ?_
            · (intro w hSw; (try dsimp only at hSw); go_split_ands; go_simp; try with_reducible rfl)
            try simp only [Act.put, List.setIfInBounds_toArray, List.set_cons_zero, List.set_cons_succ]
            refine wpAnyH_take_dst (i := 16) (v := .pointer (some ⟨Y.g, 0, none⟩)) (d := some 52) rfl rfl (by kernel_rfl) (by kernel_rfl) (by kernel_rfl) (fun _ _ _ h => h) (Or.inl ⟨by rfl, ?_⟩) hH ?_
            · (intro w hSw; (try dsimp only at hSw); go_split_ands; go_simp; try with_reducible rfl)
            try simp only [Act.put, List.setIfInBounds_toArray, List.set_cons_zero, List.set_cons_succ]
            refine wpAnyH_take_dst (i := 17) (v := .int .i64 (i : Int)) (d := some 53) rfl rfl (by kernel_rfl) (by kernel_rfl) (by kernel_rfl) (fun _ _ _ h => h) (Or.inl ⟨by rfl, ?_⟩) hH ?_
            · (intro w hSw; (try dsimp only at hSw); go_split_ands; go_simp; try with_reducible rfl)
            try simp only [Act.put, List.setIfInBounds_toArray, List.set_cons_zero, List.set_cons_succ]
            refine wpAnyH_take_dst (i := 18) (v := .int .i64 (j : Int)) (d := some 54) rfl rfl (by kernel_rfl) (by kernel_rfl) (by kernel_rfl) (fun _ _ _ h => h) (Or.inl ⟨by rfl, ?_⟩) hH ?_
            · (intro w hSw; (try dsimp only at hSw); go_split_ands; go_simp; try with_reducible rfl)
            try simp only [Act.put, List.setIfInBounds_toArray, List.set_cons_zero, List.set_cons_succ]
            refine wpAnyH_ready (rs := [19]) (by kernel_rfl) (by simp) ?_
            refine AllReadyH.cons rfl (fun K hK => ?_) AllReadyH.nil
            rw [if_pos (by rfl)]
            go_wp2_with (go_at_call 128; (with_reducible refine ((c_l13Over HOV.out HP.out (HH1.out.ext hH.1) HA.out HV2.out)).mono ?_); rintro e w2 ⟨rfl, hE9⟩)
            refine hK.out _ _ ⟨Ext.trans hH.1 hE9, Ext.keep hE9 hH.2.1, Ext.keep hE9 hH.2.2.1, Ext.keep hE9 hH.2.2.2⟩ (fun hH9 => ?_)
            clear hK hH; have hH := hH9; clear hH9
            try simp only [Act.put, List.setIfInBounds_toArray, List.set_cons_zero, List.set_cons_succ]
            refine wpAnyH_take_dst (i := 20) (v := .bool false) (d := some 56) rfl rfl (by kernel_rfl) (by kernel_rfl) (by kernel_rfl) (fun _ _ _ h => h) (Or.inl ⟨by rfl, ?_⟩) hH ?_
            · (intro w hSw; (try dsimp only at hSw); go_split_ands; go_simp; try with_reducible rfl)
            try simp only [Act.put, List.setIfInBounds_toArray, List.set_cons_zero, List.set_cons_succ]
            refine wpAnyH_take_dst (i := 21) (v := .bool false) (d := some 35) rfl rfl (by kernel_rfl) (by kernel_rfl) (by kernel_rfl) (fun _ _ _ h => h) (Or.inl ⟨by rfl, ?_⟩) hH ?_
            · (intro w hSw; (try dsimp only at hSw); go_split_ands; go_simp; try with_reducible rfl)
            try simp only [Act.put, List.setIfInBounds_toArray, List.set_cons_zero, List.set_cons_succ]
            refine wpAnyH_done (by kernel_rfl) ?_ _
            obtain ⟨hE2, _, _, _⟩ := hH
            go_wp2
            go_ret
            exact ⟨ret_int (by rw [HR.out]; rfl), Ext.trans hE1 hE2⟩
        · have hdl : decide (zy < zx) = false := by simpa using hlt
          have HR := Lib.hid (show r0 = 0 by rw [HR2.out, if_neg (fun h => hlt (by have := h.1; rw [HKX.out, HKY.out] at this; exact this))])
          clear hlt hxy
          go_enter Try.func147, Try.ntmps147
          go_wp2_with fail
          (with_reducible refine (c_l13Arg HAG.out HP.out HH.out HA.out HV1.out).mono ?_)
          rintro e w1 ⟨rfl, hE1⟩
          have HH1 := Lib.hid (HH.out.ext hE1)
          have c11 := Ext.keep hE1 c1
          have d71 := Ext.keep hE1 d7
          have d81 := Ext.keep hE1 d8
          go_wp2_with fail
          refine wp_region_held_drew (S := (fun w' => Ext w1 w' ∧ w'.cell? ⟨Y.g, 1, none⟩ = some (.slice (some ⟨Y.rb, Y.ro, none⟩) Y.n Y.rc) ∧ w'.cell? ⟨Y.rb, Y.ro + x0, none⟩ = some (.int .i64 zx) ∧ w'.cell? ⟨Y.rb, Y.ro + y0, none⟩ = some (.int .i64 zy))) (by kernel_rfl) ?_ (fun hH => ?_)
          · exact ⟨(Ext.refl w1).drew, c11, d71, d81⟩
          refine wpAnyH_take_dst (i := 0) (v := .pointer (some ⟨Y.g, 0, none⟩)) (d := some 36) rfl rfl (by kernel_rfl) (by kernel_rfl) (by kernel_rfl) (fun _ _ _ h => h) (Or.inl ⟨by rfl, ?_⟩) hH ?_
          · (intro w hSw; (try dsimp only at hSw); go_split_ands; go_simp; try with_reducible rfl)
          try simp only [Act.put, List.setIfInBounds_toArray, List.set_cons_zero, List.set_cons_succ]
          refine wpAnyH_take_dst (i := 1) (v := .pointer (some ⟨Y.g, 0, none⟩)) (d := some 37) rfl rfl (by kernel_rfl) (by kernel_rfl) (by kernel_rfl) (fun _ _ _ h => h) (Or.inl ⟨by rfl, ?_⟩) hH ?_
          · (intro w hSw; (try dsimp only at hSw); go_split_ands; go_simp; try with_reducible rfl)
          try simp only [Act.put, List.setIfInBounds_toArray, List.set_cons_zero, List.set_cons_succ]
          refine wpAnyH_take_dst (i := 2) (v := .pointer (some ⟨Y.g, 1, none⟩)) (d := some 38) rfl rfl (by kernel_rfl) (by kernel_rfl) (by kernel_rfl) (fun _ _ _ h => h) (Or.inl ⟨by rfl, ?_⟩) hH ?_
          · (intro w hSw; (try dsimp only at hSw); go_split_ands; go_simp; try with_reducible rfl)
          try simp only [Act.put, List.setIfInBounds_toArray, List.set_cons_zero, List.set_cons_succ]
          refine wpAnyH_take_dst (i := 3) (v := .slice (some ⟨Y.rb, Y.ro, none⟩) Y.n Y.rc) (d := some 39) rfl rfl (by kernel_rfl) (by kernel_rfl) (by kernel_rfl) (fun _ _ _ h => h) (Or.inl ⟨by rfl, ?_⟩) hH ?_
          · (intro w hSw; (try dsimp only at hSw); go_split_ands; go_simp; try with_reducible rfl)
          try simp only [Act.put, List.setIfInBounds_toArray, List.set_cons_zero, List.set_cons_succ]
          refine wpAnyH_take_dst (i := 4) (v := .int .i64 (y0 : Int)) (d := some 40) rfl rfl (by kernel_rfl) (by kernel_rfl) (by kernel_rfl) (fun _ _ _ h => h) (Or.inl ⟨by rfl, ?_⟩) hH ?_
          · (intro w hSw; (try dsimp only at hSw); go_split_ands; go_simp; try with_reducible rfl)
          try simp only [Act.put, List.setIfInBounds_toArray, List.set_cons_zero, List.set_cons_succ]
          refine wpAnyH_take_dst (i := 5) (v := .pointer (some ⟨Y.rb, Y.ro + y0, none⟩)) (d := some 41) rfl rfl (by kernel_rfl) (by kernel_rfl) (by kernel_rfl) (fun _ _ _ h => h) (Or.inl ⟨by rfl, ?_⟩) hH ?_
          · (intro w hSw; (try dsimp only at hSw); go_split_ands; go_simp; try with_reducible rfl)
          try simp only [Act.put, List.setIfInBounds_toArray, List.set_cons_zero, List.set_cons_succ]
          refine wpAnyH_take_dst (i := 6) (v := .int .i64 zy) (d := some 42) rfl rfl (by kernel_rfl) (by kernel_rfl) (by kernel_rfl) (fun _ _ _ h => h) (Or.inl ⟨by rfl, ?_⟩) hH ?_
          · (intro w hSw; (try dsimp only at hSw); go_split_ands; go_simp; try with_reducible rfl)
          try simp only [Act.put, List.setIfInBounds_toArray, List.set_cons_zero, List.set_cons_succ]
          refine wpAnyH_take_dst (i := 7) (v := .pointer (some ⟨Y.g, 0, none⟩)) (d := some 43) rfl rfl (by kernel_rfl) (by kernel_rfl) (by kernel_rfl) (fun _ _ _ h => h) (Or.inl ⟨by rfl, ?_⟩) hH ?_
          · (intro w hSw; (try dsimp only at hSw); go_split_ands; go_simp; try with_reducible rfl)
          try simp only [Act.put, List.setIfInBounds_toArray, List.set_cons_zero, List.set_cons_succ]
          refine wpAnyH_take_dst (i := 8) (v := .pointer (some ⟨Y.g, 0, none⟩)) (d := some 44) rfl rfl (by kernel_rfl) (by kernel_rfl) (by kernel_rfl) (fun _ _ _ h => h) (Or.inl ⟨by rfl, ?_⟩) hH ?_
          · (intro w hSw; (try dsimp only at hSw); go_split_ands; go_simp; try with_reducible rfl)
          try simp only [Act.put, List.setIfInBounds_toArray, List.set_cons_zero, List.set_cons_succ]
          refine wpAnyH_take_dst (i := 9) (v := .pointer (some ⟨Y.g, 1, none⟩)) (d := some 45) rfl rfl (by kernel_rfl) (by kernel_rfl) (by kernel_rfl) (fun _ _ _ h => h) (Or.inl ⟨by rfl, ?_⟩) hH ?_
          · (intro w hSw; (try dsimp only at hSw); go_split_ands; go_simp; try with_reducible rfl)
          try simp only [Act.put, List.setIfInBounds_toArray, List.set_cons_zero, List.set_cons_succ]
          refine wpAnyH_take_dst (i := 10) (v := .slice (some ⟨Y.rb, Y.ro, none⟩) Y.n Y.rc) (d := some 46) rfl rfl (by kernel_rfl) (by kernel_rfl) (by kernel_rfl) (fun _ _ _ h => h) (Or.inl ⟨by rfl, ?_⟩) hH ?_
          · (intro w hSw; (try dsimp only at hSw); go_split_ands; go_simp; try with_reducible rfl)
          try simp only [Act.put, List.setIfInBounds_toArray, List.set_cons_zero, List.set_cons_succ]
          refine wpAnyH_take_dst (i := 11) (v := .int .i64 (x0 : Int)) (d := some 47) rfl rfl (by kernel_rfl) (by kernel_rfl) (by kernel_rfl) (fun _ _ _ h => h) (Or.inl ⟨by rfl, ?_⟩) hH ?_
          · (intro w hSw; (try dsimp only at hSw); go_split_ands; go_simp; try with_reducible rfl)
          try simp only [Act.put, List.setIfInBounds_toArray, List.set_cons_zero, List.set_cons_succ]
          refine wpAnyH_take_dst (i := 12) (v := .pointer (some ⟨Y.rb, Y.ro + x0, none⟩)) (d := some 48) rfl rfl (by kernel_rfl) (by kernel_rfl) (by kernel_rfl) (fun _ _ _ h => h) (Or.inl ⟨by rfl, ?_⟩) hH ?_
          · (intro w hSw; (try dsimp only at hSw); go_split_ands; go_simp; try with_reducible rfl)
          try simp only [Act.put, List.setIfInBounds_toArray, List.set_cons_zero, List.set_cons_succ]
          refine wpAnyH_take_dst (i := 13) (v := .int .i64 zx) (d := some 49) rfl rfl (by kernel_rfl) (by kernel_rfl) (by kernel_rfl) (fun _ _ _ h => h) (Or.inl ⟨by rfl, ?_⟩) hH ?_
          · (intro w hSw; (try dsimp only at hSw); go_split_ands; go_simp; try with_reducible rfl)
          try simp only [Act.put, List.setIfInBounds_toArray, List.set_cons_zero, List.set_cons_succ]
          refine wpAnyH_take_dst (i := 14) (v := .bool false) (d := some 50) rfl rfl (by kernel_rfl) (by kernel_rfl) (by kernel_rfl) (fun _ _ _ h => h) (Or.inl ⟨by rfl, ?_⟩) hH ?_
          · (intro w hSw; (try dsimp only at hSw); go_split_ands; go_simp; try with_reducible rfl)
          try simp only [Act.put, List.setIfInBounds_toArray, List.set_cons_zero, List.set_cons_succ]
          refine wpAnyH_take_dst (i := 15) (v := .bool false) (d := some 51) rfl rfl (by kernel_rfl) (by kernel_rfl) (by kernel_rfl) (fun _ _ _ h => h) (Or.inl ⟨by rfl, ?_⟩) hH ?_
          · (intro w hSw; (try dsimp only at hSw); go_split_ands; go_simp; try with_reducible rfl)
          try simp only [Act.put, List.setIfInBounds_toArray, List.set_cons_zero, List.set_cons_succ]
          refine wpAnyH_take_dst (i := 16) (v := undef) (d := some 52) rfl rfl (by kernel_rfl) (by kernel_rfl) (by kernel_rfl) (fun _ _ _ h => h) (Or.inr ⟨by rfl, rfl⟩) hH ?_
          try simp only [Act.put, List.setIfInBounds_toArray, List.set_cons_zero, List.set_cons_succ]
          refine wpAnyH_take_dst (i := 17) (v := undef) (d := some 53) rfl rfl (by kernel_rfl) (by kernel_rfl) (by kernel_rfl) (fun _ _ _ h => h) (Or.inr ⟨by rfl, rfl⟩) hH ?_
          try simp only [Act.put, List.setIfInBounds_toArray, List.set_cons_zero, List.set_cons_succ]
          refine wpAnyH_take_dst (i := 18) (v := undef) (d := some 54) rfl rfl (by kernel_rfl) (by kernel_rfl) (by kernel_rfl) (fun _ _ _ h => h) (Or.inr ⟨by rfl, rfl⟩) hH ?_
          try simp only [Act.put, List.setIfInBounds_toArray, List.set_cons_zero, List.set_cons_succ]
          refine wpAnyH_take_dst (i := 19) (v := undef) (d := some 55) rfl rfl (by kernel_rfl) (by kernel_rfl) (by kernel_rfl) (fun _ _ _ h => h) (Or.inr ⟨by rfl, rfl⟩) hH ?_
          try simp only [Act.put, List.setIfInBounds_toArray, List.set_cons_zero, List.set_cons_succ]
          refine wpAnyH_take_dst (i := 20) (v := .bool false) (d := some 56) rfl rfl (by kernel_rfl) (by kernel_rfl) (by kernel_rfl) (fun _ _ _ h => h) (Or.inl ⟨by rfl, ?_⟩) hH ?_
          · (intro w hSw; (try dsimp only at hSw); go_split_ands; go_simp; try with_reducible rfl)
          try simp only [Act.put, List.setIfInBounds_toArray, List.set_cons_zero, List.set_cons_succ]
          refine wpAnyH_take_dst (i := 21) (v := .bool false) (d := some 35) rfl rfl (by kernel_rfl) (by kernel_rfl) (by kernel_rfl) (fun _ _ _ h => h) (Or.inl ⟨by rfl, ?_⟩) hH ?_
          · (intro w hSw; (try dsimp only at hSw); go_split_ands; go_simp; try with_reducible rfl)
          try simp only [Act.put, List.setIfInBounds_toArray, List.set_cons_zero, List.set_cons_succ]
          refine wpAnyH_done (by kernel_rfl) ?_ _
          obtain ⟨hE2, _, _, _⟩ := hH
          go_wp2
          go_ret
          exact ⟨ret_int (by rw [HR.out]; rfl), Ext.trans hE1 hE2⟩

/-! The reference's path orders: the table is made. -/
set_option maxRecDepth 100000 in
set_option maxHeartbeats 4000000 in
theorem c_l13Args {v0 v1 : Value} {ar t rest : List Int} {p : Nat} {x : Int} {us : List Tm} {w : World} (h0 : RdSig w v0 ar) (h1 : RdI w v1 t) (hs : SigP ar) (hu : (Tm.node x us).Ok ar) (hd : t.drop p = (Tm.node x us).flat ++ rest) :
    Calls Try.prog 148 #[v0, v1, .int .i64 (p : Int)] w fun e w' => ∃ A c, e = .returned (.slice A us.length c) ∧ OwN w' w.heap.size A us.length c (starts (p + 1) us) ∧ Ext w w' := by
  obtain ⟨A, n, c, rfl, ha⟩ := h0
  obtain ⟨B, m, d, rfl, hb⟩ := h1
  have hm := hb.le
  have hml := hb.len
  have hnl := ha.len
  have hlt := drop_lt hd (flat_pos _)
  rw [hml] at hlt
  have hfl : (flatL us).length + 1 = (Tm.node x us).flat.length := by rw [flat_node]; rfl
  obtain ⟨hok, hol⟩ := Ok_node.1 hu
  have hal : us.length ≤ 3 := arI_le hs hok
  obtain ⟨b, o, y, rfl, hy, hcy⟩ := RI.at_ hb (show p < m by omega)
  rw [at_of hd] at hy; cases hy
  have hbl : b < w.heap.size := World.block_lt_of_cell? w _ hcy
  have hpm : (p : Int) < (m : Int) := by omega
  have hp0 : (0 : Int) ≤ (p : Int) := by omega
  obtain ⟨i0, hii, hiz, his, hib⟩ := info_parts int_info
  have HA := Lib.hid ha
  have HB := Lib.hid hb
  have HS := Lib.hid hs
  have HD := Lib.hid hd
  have HOK := Lib.hid hok
  have HOL := Lib.hid (OkL_iff.1 hol)
  have HFL := Lib.hid hfl
  have HM := Lib.hid hml
  have hxl := arI_lt hok
  clear ha hb hs hd hok hol hu hml
  by_cases hx0 : x < 0
  · have ha0 : us.length = 0 := by have := HOK.out; rw [arI_neg hx0] at this; injection this with this; exact this.symm
    have ha1 : us = [] := List.eq_nil_of_length_eq_zero ha0
    subst ha1
    go_enter Try.func148, Try.ntmps148
    go_wp2
    go_ret
    exact ⟨some ⟨w.heap.size + 1, 0, none⟩, 0, rfl, (by
      have := OwN.none0 (w := w.alloc (.cells #[.slice A n c] 29)) (D := w.heap.size) (by simp [go_sem])
      rw [World.size_alloc] at this
      exact this), by exact extX⟩
  · obtain ⟨z0, rfl⟩ := Int.eq_ofNat_of_zero_le (show 0 ≤ x by omega)
    have hzn : z0 < n := by omega
    obtain ⟨b2, o2, s, rfl, hs2, hcs⟩ := RI.at_ HA.out hzn
    have has : (s : Int) = (us.length : Int) := by
      have hf := HOK.out
      rw [arI_at (by omega) (by rw [Int.toNat_natCast]; exact hs2)] at hf
      have := HS.out.2.2 s (List.mem_of_getElem? hs2)
      injection hf with hf; omega
    subst has
    have hzi : (z0 : Int) < (n : Int) := by omega
    have hbl2 : b2 < w.heap.size := World.block_lt_of_cell? w _ hcs
    clear hs2 hfl hnl hxl
    go_enter Try.func148, Try.ntmps148
    go_wp2_with fail
    obtain ⟨wo, hwo⟩ : ∃ wo, wo = (w.alloc (.cells #[.slice (some ⟨b2, o2, none⟩) n c] 29)).alloc (.cells #[] 3) := ⟨_, rfl⟩
    have hb0 : wo.cell? ⟨w.heap.size, 0, none⟩ = some (.slice (some ⟨b2, o2, none⟩) n c) := by rw [hwo]; simp [go_sem]
    have HO0 := Lib.hid (show OwN wo w.heap.size (some ⟨w.heap.size + 1, 0, none⟩) 0 0 [] by
      have := OwN.none0 (w := w.alloc (.cells #[.slice (some ⟨b2, o2, none⟩) n c] 29)) (D := w.heap.size) (by simp [go_sem])
      rw [World.size_alloc] at this
      rw [hwo]; exact this)
    have hEo : Ext w wo := by rw [hwo]; exact extX
    have hne1 : Hid (∀ g, (some ⟨w.heap.size + 1, 0, none⟩ : Option Addr) = some ⟨g, 0, none⟩ → g ≠ w.heap.size) := Lib.hid (fun g e => by cases e; omega)
    rw [← hwo]
    clear hwo
    go_loopw [7, 8, 9] (fun ov av kv wr => ∃ k : Nat, kv = .int .i64 k ∧ k ≤ us.length ∧ (∃ q : Nat, av = .int .i64 (q : Int) ∧ Hid (q = p + 1 + (flatL (us.take k)).length) ∧ q ≤ m) ∧ (∃ A c, ov = .slice A k c ∧ Hid (OwN wr w.heap.size A k c (starts (p + 1) (us.take k)) ∧ ∀ g, A = some ⟨g, 0, none⟩ → g ≠ w.heap.size)) ∧ Ext w wr ∧ wr.cell? ⟨w.heap.size, 0, none⟩ = some (.slice (some ⟨b2, o2, none⟩) n c)) (fun _ _ kv _ => us.length - (intOf kv).toNat)
    case atStart => exact ⟨0, rfl, Nat.zero_le _, ⟨p + 1, by go_num, Lib.hid (by simp [flatL_nil]), by omega⟩, ⟨_, 0, rfl, Lib.hid ⟨by simp [starts]; exact HO0.out, hne1.out⟩⟩, hEo, hb0⟩
    case round =>
      obtain ⟨k, rfl, hk, ⟨q, rfl, hq, hqm⟩, ⟨A1, c1, rfl, hO⟩, hE, hr0⟩ := hrel
      have hcx : wr.cell? ⟨b, o + p, none⟩ = some (.int .i64 (z0 : Int)) := Ext.keep hE hcy
      have hcz : wr.cell? ⟨b2, o2 + z0, none⟩ = some (.int .i64 (us.length : Int)) := Ext.keep hE hcs
      by_cases hlt2 : k < us.length
      · obtain ⟨a, hak⟩ : ∃ a, us[k]? = some a := ⟨us[k], List.getElem?_eq_getElem hlt2⟩
        have hda := drop_arg HD.out hak
        rw [← hq.out] at hda
        have hao := HOL.out a (List.mem_of_getElem? hak)
        have hqa := drop_lt hda (flat_pos a)
        rw [HM.out] at hqa
        have hst : starts (p + 1) (us.take (k + 1)) = starts (p + 1) (us.take k) ++ [(q : Int)] := by
          rw [take_snoc hak, starts_append, ← hq.out]; rfl
        have hfk : (flatL (us.take (k + 1))).length = (flatL (us.take k)).length + a.flat.length := by
          rw [take_snoc hak, flatL_append, flatL_cons, flatL_nil, List.append_nil, List.length_append]
        have HDA := Lib.hid hda
        have HAO := Lib.hid hao
        have HST := Lib.hid hst
        have HFK := Lib.hid hfk
        clear hda hao hst hfk hak
        have hlt' : (k : Int) < (us.length : Int) := by omega
        go_wp2_with fail
        go_quiet (fail)
        obtain ⟨w5, hw5⟩ : ∃ w5, w5 = wr.drewN nq := ⟨_, rfl⟩
        have hE5 : Ext wr w5 := by rw [hw5]; exact extX
        rw [← hw5]
        clear hw5
        have HO5 := Lib.hid (hO.out.1.ext hE5)
        have HNE := Lib.hid hO.out.2
        have hE5w := Ext.trans hE hE5
        have hr5 := Ext.keep hE5 hr0
        have hsz5 := hE5w.size
        have hlt5 : w.heap.size < w5.heap.size := World.block_lt_of_cell? w5 _ hr5
        go_wp2_with (at_builtin; go_loud (refine wpList_append_lies _ rfl (.tmp 31) (.tmp 33) 153 rfl w.heap.size 3 i0 (.int .i64 0) 1 8 Try.underlying153 hii hiz his hib rfl (by decide) _ _ _ rfl (OwN.alloc HO5.out _).2 ⟨w5.heap.size, 0, none⟩ 1 1 [.int .i64 (q : Int)] rfl rfl (one_cells _ _ _) (one_one _) (by decide) (by unfold maxLen; omega) (by omega) (by go_size) _ rfl ?_))
        intro g cap wx hown hg hat hltg
        have hE6 : Ext w wx := Ext.grown (hE5w.alloc _) hg (fun k' hk' => HO5.out.ob k' hk')
        have HW := Lib.hid (show OwN wx w.heap.size (some ⟨g, 0, none⟩) (k + 1) cap (starts (p + 1) (us.take (k + 1))) from ⟨by omega, by rw [HST.out, List.map_append]; exact hown⟩)
        have hbx : wx.cell? ⟨w.heap.size, 0, none⟩ = some (.slice (some ⟨b2, o2, none⟩) n c) := (hg.cell_far ⟨w.heap.size, 0, none⟩ (by simp [go_sem]; omega) (fun e => HNE.out w.heap.size (HO5.out.ownB e.symm) rfl)).trans ((World.cell?_alloc_past _ _ _ (by omega)).trans hr5)
        have HN6 := Lib.hid (show ∀ g', (some ⟨g, 0, none⟩ : Option Addr) = some ⟨g', 0, none⟩ → g' ≠ w.heap.size from fun g' e => by
          cases e
          rcases hat with h | h
          · exact HNE.out g (HO5.out.ownB h)
          · omega)
        clear hown hg hat
        go_wp2_with (go_at_call 117; (with_reducible refine (c_l13End (u := a) (RdSig.mk (RI.ext HA.out (by exact extX))) (RdI.mk (RI.ext HB.out (by exact extX))) HS.out HAO.out HDA.out).mono ?_); rintro e w7 ⟨rfl, hE7⟩)
        have hb7 := Ext.keep hE7 hbx
        have HW7 := Lib.hid (HW.out.ext hE7)
        go_roundw
        case rel => exact ⟨k + 1, by go_num, by omega, ⟨q + a.flat.length, rfl, Lib.hid (by rw [HFK.out, hq.out]; omega), by omega⟩, ⟨_, _, rfl, Lib.hid ⟨HW7.out, HN6.out⟩⟩, Ext.trans hE6 hE7, hb7⟩
        case measure => simp only [intOf]; omega
      · have hkn : k = us.length := by omega
        subst hkn
        have hlt' : decide ((us.length : Int) < (us.length : Int)) = false := by simp
        go_wp2_with fail
        go_quiet (fail)
        go_wp2
        go_ret
        exact ⟨_, _, rfl, by have := hO.out.1; rw [List.take_length] at this; exact this.ext (by exact extX), by exact extX⟩

/-! The reference's path orders: what the table is made of. -/
/-- Nothing has turned but blocks of three types and new memory. -/
def ChgM (w w' : World) : Prop := ∀ (i : Nat) (c : Array Value) (T : TypeId), w.heap[i]? = some (.cells c T (0, 0)) → T ≠ 141 → T ≠ 153 → T ≠ 27 → w'.heap[i]? = w.heap[i]?
theorem ChgM.refl (w : World) : ChgM w w := fun _ _ _ _ _ _ _ => rfl
theorem ChgM.trans {a b c : World} (h : ChgM a b) (k : ChgM b c) : ChgM a c := fun i cs T hh h1 h2 h3 => by
  have e := h i cs T hh h1 h2 h3
  exact (k i cs T (e.trans hh) h1 h2 h3).trans e
theorem ChgM.of_ext {w w' : World} (h : Ext w w') : ChgM w w' := fun i cs T hh _ _ _ => h.block i (Array.getElem?_eq_some_iff.1 hh).1
theorem ChgM.of_grown {w w' : World} {row : Option Nat} (h : w.grownBy w' row) (hr : ∀ b, row = some b → ∃ c T, w.heap[b]? = some (.cells c T (0, 0)) ∧ (T = 141 ∨ T = 153 ∨ T = 27)) : ChgM w w' := fun i cs T hh h1 h2 h3 => by
  refine h.block i (Array.getElem?_eq_some_iff.1 hh).1 fun e => ?_
  obtain ⟨c', T', e1, e2⟩ := hr i e.symm
  rw [hh] at e1
  injection e1 with e1
  injection e1 with _ e1 _
  subst e1
  rcases e2 with e2 | e2 | e2
  · exact h1 e2
  · exact h2 e2
  · exact h3 e2
theorem ChgM.of_set {w : World} {g o : Nat} {v : Value} {c : Array Value} (hh : w.heap[g]? = some (.cells c 141 (0, 0))) : ChgM w (w.setCell ⟨g, o, none⟩ v) :=
  ChgM.of_grown (Only.setCell w g o v) fun b e => by cases e; exact ⟨_, _, hh, .inl rfl⟩
/-- A finished list of places; a finished row of noughts. -/
def FinN (w : World) (A : Option Addr) (xs : List Int) : Prop := (A = none ∧ xs = []) ∨ ∃ b cs, A = some ⟨b, 0, none⟩ ∧ w.heap[b]? = some (.cells cs 3 (0, 0)) ∧ ∀ (j : Nat) (x : Int), xs[j]? = some x → cs[j]? = some (.int .i64 x)
def FinR (w : World) (b m : Nat) : Prop := ∃ cs, w.heap[b]? = some (.cells cs 2 (0, 0)) ∧ ∀ j : Nat, j < m → cs[j]? = some (.int .i64 0)
theorem OwN.fin {w : World} {B n c : Nat} {A : Option Addr} {xs : List Int} (h : OwN w B A n c xs) : FinN w A xs := by
  rcases h.2.2 with ⟨hv, hn⟩ | ⟨g, cap, cur, hv, hg, hh, h1, h2, h3, h4⟩
  · cases hv; exact .inl ⟨rfl, List.length_eq_zero_iff.1 h.len⟩
  · cases hv
    refine .inr ⟨g, cur, rfl, hh, fun j x hx => ?_⟩
    have e : (cur.toList.take (n * 1))[j]? = some (.int .i64 x) := by rw [h4, List.getElem?_map, hx]; rfl
    rw [List.getElem?_take] at e
    split at e
    · rw [← Array.getElem?_toList]; exact e
    · cases e
theorem FinN.chg {w w' : World} {A : Option Addr} {xs : List Int} (h : FinN w A xs) (k : ChgM w w') : FinN w' A xs := by
  rcases h with h | ⟨b, cs, e, hh, hc⟩
  · exact .inl h
  · exact .inr ⟨b, cs, e, (k b cs _ hh (by decide) (by decide) (by decide)).trans hh, hc⟩
theorem FinN.ri {w : World} {A : Option Addr} {xs : List Int} (h : FinN w A xs) (hl : xs.length ≤ 4194304) : RI w A xs.length xs := by
  refine ⟨⟨rfl, hl⟩, fun hn => ?_⟩
  rcases h with ⟨_, h⟩ | ⟨b, cs, e, hh, hc⟩
  · rw [h] at hn; simp at hn
  · exact ⟨b, 0, e, fun j x hx => by rw [Nat.zero_add, cell_of_row w b _ cs _ (0, 0) hh]; exact hc j x hx⟩
theorem FinR.chg {w w' : World} {b m : Nat} (h : FinR w b m) (k : ChgM w w') : FinR w' b m := by
  obtain ⟨cs, hh, hc⟩ := h
  exact ⟨cs, (k b cs _ hh (by decide) (by decide) (by decide)).trans hh, hc⟩
theorem FinR.lt {w : World} {b m : Nat} (h : FinR w b m) : b < w.heap.size := by
  obtain ⟨cs, hh, _⟩ := h; exact (Array.getElem?_eq_some_iff.1 hh).1
def ArgL (w : World) (ar t : List Int) (vs : List Value) : Prop := ∀ (i : Nat) (v : Value), vs[i]? = some v → ∃ A c, v = .slice A (subT ar t i).as.length c ∧ FinN w A (starts (i + 1) (subT ar t i).as)
def RowL (w : World) (B m : Nat) (vs : List Value) : Prop := (∀ (i : Nat) (v : Value), vs[i]? = some v → ∃ b, v = .slice (some ⟨b, 0, none⟩) m m ∧ B ≤ b ∧ FinR w b m) ∧ ∀ (i j b : Nat), vs[i]? = some (.slice (some ⟨b, 0, none⟩) m m) → vs[j]? = some (.slice (some ⟨b, 0, none⟩) m m) → i = j
theorem ArgL.chg {w w' : World} {ar t : List Int} {vs : List Value} (h : ArgL w ar t vs) (k : ChgM w w') : ArgL w' ar t vs := fun i v hv => by
  obtain ⟨A, c, e, hf⟩ := h i v hv; exact ⟨A, c, e, hf.chg k⟩
theorem ArgL.snoc {w : World} {ar t : List Int} {vs : List Value} {k : Nat} {A : Option Addr} {c : Nat} (h : ArgL w ar t vs) (hk : vs.length = k) (hf : FinN w A (starts (k + 1) (subT ar t k).as)) : ArgL w ar t (vs ++ [.slice A (subT ar t k).as.length c]) := fun i v hv => by
  rcases Nat.lt_or_ge i k with h1 | h1
  · rw [List.getElem?_append_left (by omega)] at hv; exact h i v hv
  · have hi : i = k := by have := (List.getElem?_eq_some_iff.1 hv).1; simp at this; omega
    subst hi
    rw [List.getElem?_append_right (by omega), hk, Nat.sub_self] at hv
    cases hv
    exact ⟨A, c, rfl, hf⟩
theorem RowL.chg {w w' : World} {B m : Nat} {vs : List Value} (h : RowL w B m vs) (k : ChgM w w') : RowL w' B m vs := ⟨fun i v hv => by
  obtain ⟨b, e, hb, hf⟩ := h.1 i v hv; exact ⟨b, e, hb, hf.chg k⟩, h.2⟩
theorem RowL.snoc {w : World} {B m k b : Nat} {vs : List Value} (h : RowL w B m vs) (hk : vs.length = k) (hB : B ≤ b) (hf : FinR w b m) (hn : ∀ (i : Nat), vs[i]? ≠ some (.slice (some ⟨b, 0, none⟩) m m)) : RowL w B m (vs ++ [.slice (some ⟨b, 0, none⟩) m m]) := by
  have hat : ∀ (i : Nat) (v : Value), (vs ++ [Value.slice (some ⟨b, 0, none⟩) m m])[i]? = some v → vs[i]? = some v ∨ (i = k ∧ v = .slice (some ⟨b, 0, none⟩) m m) := fun i v hv => by
    rcases Nat.lt_or_ge i k with h1 | h1
    · rw [List.getElem?_append_left (by omega)] at hv; exact .inl hv
    · have hi : i = k := by have := (List.getElem?_eq_some_iff.1 hv).1; simp at this; omega
      subst hi
      rw [List.getElem?_append_right (by omega), hk, Nat.sub_self] at hv
      cases hv
      exact .inr ⟨rfl, rfl⟩
  refine ⟨fun i v hv => ?_, fun i j c hi hj => ?_⟩
  · rcases hat i v hv with h1 | ⟨rfl, rfl⟩
    · exact h.1 i v h1
    · exact ⟨b, rfl, hB, hf⟩
  · rcases hat i _ hi with h1 | ⟨h1, h2⟩ <;> rcases hat j _ hj with h3 | ⟨h3, h4⟩
    · exact h.2 i j c h1 h3
    · injection h4 with h4; injection h4 with h4; injection h4 with h4; subst h4
      exact absurd h1 (hn i)
    · injection h2 with h2; injection h2 with h2; injection h2 with h2; subst h2
      exact absurd h3 (hn j)
    · omega
theorem ownsRow_heapZ {w w' : World} {B : Nat} {e : TypeId} {s n k c : Nat} {A : Option Addr} {xs : List Value} (h : w.ownsRow B e s (.slice A n c) k xs) (hk : ∀ g, A = some ⟨g, 0, none⟩ → w'.heap[g]? = w.heap[g]?) : w'.ownsRow B e s (.slice A n c) k xs := by
  refine ⟨h.1, ?_⟩
  rcases h.2 with h2 | ⟨g, cap, cur, hv, hg, hh, r⟩
  · exact .inl h2
  · have hA : A = some ⟨g, 0, none⟩ := by cases hv; rfl
    exact .inr ⟨g, cap, cur, hv, hg, by rw [hk g hA]; exact hh, r⟩
theorem ownsRow_atZ {w : World} {B : Nat} {e : TypeId} {n k c g : Nat} {xs : List Value} (h : w.ownsRow B e 1 (.slice (some ⟨g, 0, none⟩) n c) k xs) : B ≤ g ∧ ∃ cur, w.heap[g]? = some (.cells cur e (0, 0)) := by
  rcases h.2 with ⟨h2, _⟩ | ⟨g', cap, cur, hv, hg, hh, r⟩
  · cases h2
  · cases hv; exact ⟨hg, cur, hh⟩
theorem ownsRow_blk {w : World} {B : Nat} {e : TypeId} {n k c g : Nat} {A : Option Addr} {xs : List Value} (h : w.ownsRow B e 1 (.slice A n c) k xs) (hb : (Value.slice A n c).ownBlock = some g) : A = some ⟨g, 0, none⟩ := by
  rcases h.2 with ⟨h2, _⟩ | ⟨g', cap, cur, hv, hg, hh, r⟩
  · cases h2; cases hb
  · cases hv; cases hb; rfl
theorem ty_ne {w : World} {b c : Nat} {x y : Array Value} {T U : TypeId} (h : w.heap[b]? = some (.cells x T (0, 0))) (k : w.heap[c]? = some (.cells y U (0, 0))) (hn : T ≠ U) : b ≠ c := by
  rintro rfl
  rw [h] at k
  injection k with k; injection k with _ k _
  exact hn k
/-- What l13Make has made so far. -/
structure MkSt (w wr : World) (g : Nat) (c0 c1 c2 c3 : Value) (ar ss tt : List Int) (m kS kT kW : Nat) (As : Option Addr) (cs : Nat) (At : Option Addr) (ct : Nat) (Aw : Option Addr) (cw : Nat) (vs us ws : List Value) : Prop where
  ex : Ext w wr
  gg : w.heap.size < g
  bx : wr.heap[g]? = some (.cells #[c0, c1, c2, c3, .slice As kS cs, .slice At kT ct, .slice Aw kW cw] 141 (0, 0))
  sg : wr.heap[w.heap.size]? = some (.cells #[c0] 29 (0, 0))
  oS : wr.ownsRow w.heap.size 153 1 (.slice As kS cs) kS vs
  oT : wr.ownsRow w.heap.size 153 1 (.slice At kT ct) kT us
  oW : wr.ownsRow w.heap.size 27 1 (.slice Aw kW cw) kW ws
  ap : ApartA As At
  fS : ArgL wr ar ss vs
  fT : ArgL wr ar tt us
  fW : RowL wr w.heap.size m ws
section
variable {w wr : World} {g : Nat} {c0 c1 c2 c3 : Value} {ar ss tt : List Int} {m kS kT kW : Nat} {As : Option Addr} {cs : Nat} {At : Option Addr} {ct : Nat} {Aw : Option Addr} {cw : Nat} {vs us ws : List Value}
theorem MkSt.glt (h : MkSt w wr g c0 c1 c2 c3 ar ss tt m kS kT kW As cs At ct Aw cw vs us ws) : g < wr.heap.size := (Array.getElem?_eq_some_iff.1 h.bx).1
theorem own_ext {w' : World} {B n k c : Nat} {e : TypeId} {A : Option Addr} {xs : List Value} (h : wr.ownsRow B e 1 (.slice A n c) k xs) (hE : Ext wr w') : w'.ownsRow B e 1 (.slice A n c) k xs :=
  ownsRow_heapZ h fun b e2 => by
    subst e2
    obtain ⟨_, cur, hh⟩ := ownsRow_atZ h
    exact hE.block b (Array.getElem?_eq_some_iff.1 hh).1
theorem MkSt.ext (h : MkSt w wr g c0 c1 c2 c3 ar ss tt m kS kT kW As cs At ct Aw cw vs us ws) {w' : World} (hE : Ext wr w') : MkSt w w' g c0 c1 c2 c3 ar ss tt m kS kT kW As cs At ct Aw cw vs us ws :=
  ⟨h.ex.trans hE, h.gg, (hE.block g h.glt).trans h.bx, (hE.block _ (Array.getElem?_eq_some_iff.1 h.sg).1).trans h.sg, own_ext h.oS hE, own_ext h.oT hE, own_ext h.oW hE, h.ap, h.fS.chg (.of_ext hE), h.fT.chg (.of_ext hE), h.fW.chg (.of_ext hE)⟩
/-- One more element, the slice stored. -/
theorem MkSt.pushS (h : MkSt w wr g c0 c1 c2 c3 ar ss tt m kS kT kW As cs At ct Aw cw vs us ws) {wx : World} {g6 cap : Nat} {A : Option Addr} {c : Nat}
    (hown : wx.ownsRow w.heap.size 153 1 (.slice (some ⟨g6, 0, none⟩) (kS + 1) cap) (kS + 1) (vs ++ [.slice A (subT ar ss kS).as.length c]))
    (hg : wr.grownBy wx (Value.slice As kS cs).ownBlock) (hat : (Value.slice As kS cs).ownBlock = some g6 ∨ g6 = wr.heap.size) (hlt : g6 < wx.heap.size) (hf : FinN wr A (starts (kS + 1) (subT ar ss kS).as)) :
    MkSt w (wx.setCell ⟨g, 4, none⟩ (.slice (some ⟨g6, 0, none⟩) (kS + 1) cap)) g c0 c1 c2 c3 ar ss tt m (kS + 1) kT kW (some ⟨g6, 0, none⟩) cap At ct Aw cw (vs ++ [.slice A (subT ar ss kS).as.length c]) us ws := by
  have hrow : ∀ b, (Value.slice As kS cs).ownBlock = some b → w.heap.size ≤ b ∧ ∃ c, wr.heap[b]? = some (.cells c 153 (0, 0)) := fun b hb => by
    have e := ownsRow_blk h.oS hb
    subst e
    exact ownsRow_atZ h.oS
  have hC1 : ChgM wr wx := ChgM.of_grown hg fun b hb => by
    obtain ⟨_, c, hh⟩ := hrow b hb
    exact ⟨c, _, hh, .inr (.inl rfl)⟩
  have hgx : wx.heap[g]? = wr.heap[g]? := hg.block g h.glt fun e => by
    obtain ⟨_, c, hh⟩ := hrow g e.symm
    exact ty_ne h.bx hh (by decide) rfl
  have hC2 : ChgM wx (wx.setCell ⟨g, 4, none⟩ (.slice (some ⟨g6, 0, none⟩) (kS + 1) cap)) := ChgM.of_set (hgx.trans h.bx)
  have hC := hC1.trans hC2
  have hE1 : Ext w wx := Ext.grown h.ex hg fun b hb => (hrow b hb).1
  have hset : ∀ b, b ≠ g → (wx.setCell ⟨g, 4, none⟩ (.slice (some ⟨g6, 0, none⟩) (kS + 1) cap)).heap[b]? = wx.heap[b]? := fun b hb => Below.heap_setCell _ _ _ _ hb
  have h6g : g6 ≠ g := by
    rcases hat with e | e
    · obtain ⟨_, c, hh⟩ := hrow g6 e
      exact fun e2 => ty_ne hh (e2 ▸ h.bx) (by decide) rfl
    · have := h.glt; omega
  have hoth : ∀ {e : TypeId} {A : Option Addr} {n k c : Nat} {xs : List Value}, wr.ownsRow w.heap.size e 1 (.slice A n c) k xs → 141 ≠ e → (∀ b, A = some ⟨b, 0, none⟩ → (Value.slice As kS cs).ownBlock ≠ some b) → (wx.setCell ⟨g, 4, none⟩ (.slice (some ⟨g6, 0, none⟩) (kS + 1) cap)).ownsRow w.heap.size e 1 (.slice A n c) k xs := fun {e A n k c xs} ho he hne => ownsRow_heapZ ho fun b e2 => by
    subst e2
    obtain ⟨_, cur, hh⟩ := ownsRow_atZ ho
    have hbg : b ≠ g := Ne.symm (ty_ne h.bx hh he)
    exact (hset b hbg).trans (hg.block b (Array.getElem?_eq_some_iff.1 hh).1 (Ne.symm (hne b rfl)))
  have hbx2 : (wx.setCell ⟨g, 4, none⟩ (.slice (some ⟨g6, 0, none⟩) (kS + 1) cap)).heap[g]? = some (.cells #[c0, c1, c2, c3, .slice (some ⟨g6, 0, none⟩) (kS + 1) cap, .slice At kT ct, .slice Aw kW cw] 141 (0, 0)) := by
    have hb := hgx.trans h.bx
    simp [World.setCell, Array.getElem?_modify, hb]
  have hnew : (wx.setCell ⟨g, 4, none⟩ (.slice (some ⟨g6, 0, none⟩) (kS + 1) cap)).ownsRow w.heap.size 153 1 (.slice (some ⟨g6, 0, none⟩) (kS + 1) cap) (kS + 1) (vs ++ [.slice A (subT ar ss kS).as.length c]) := ownsRow_heapZ hown fun b e => by cases e; exact hset g6 h6g
  have hlen : vs.length = kS := by have := h.oS.1; omega
  have hsg : (wx.setCell ⟨g, 4, none⟩ (.slice (some ⟨g6, 0, none⟩) (kS + 1) cap)).heap[w.heap.size]? = some (.cells #[c0] 29 (0, 0)) := (hC _ _ _ h.sg (by decide) (by decide) (by decide)).trans h.sg
  refine ⟨hE1.set (by show _ ≤ g; have := h.gg; omega) _, h.gg, hbx2, hsg, hnew, hoth h.oT (by decide) (fun b e e2 => h.ap b b (ownsRow_blk h.oS e2) e rfl), hoth h.oW (by decide) (fun b e e2 => by subst e; obtain ⟨_, c, hh⟩ := hrow b e2; obtain ⟨_, c', hh'⟩ := ownsRow_atZ h.oW; exact ty_ne hh hh' (by decide) rfl), (fun b c e1 e2 => by cases e1; rcases hat with e | e; exact h.ap g6 c (ownsRow_blk h.oS e) e2; (subst e2; obtain ⟨_, cur, hh⟩ := ownsRow_atZ h.oT; have := (Array.getElem?_eq_some_iff.1 hh).1; omega)), (h.fS.chg hC).snoc hlen (hf.chg hC), h.fT.chg hC, h.fW.chg hC⟩
/-- One more element, the slice stored. -/
theorem MkSt.pushT (h : MkSt w wr g c0 c1 c2 c3 ar ss tt m kS kT kW As cs At ct Aw cw vs us ws) {wx : World} {g6 cap : Nat} {A : Option Addr} {c : Nat}
    (hown : wx.ownsRow w.heap.size 153 1 (.slice (some ⟨g6, 0, none⟩) (kT + 1) cap) (kT + 1) (us ++ [.slice A (subT ar tt kT).as.length c]))
    (hg : wr.grownBy wx (Value.slice At kT ct).ownBlock) (hat : (Value.slice At kT ct).ownBlock = some g6 ∨ g6 = wr.heap.size) (hlt : g6 < wx.heap.size) (hf : FinN wr A (starts (kT + 1) (subT ar tt kT).as)) :
    MkSt w (wx.setCell ⟨g, 5, none⟩ (.slice (some ⟨g6, 0, none⟩) (kT + 1) cap)) g c0 c1 c2 c3 ar ss tt m kS (kT + 1) kW As cs (some ⟨g6, 0, none⟩) cap Aw cw vs (us ++ [.slice A (subT ar tt kT).as.length c]) ws := by
  have hrow : ∀ b, (Value.slice At kT ct).ownBlock = some b → w.heap.size ≤ b ∧ ∃ c, wr.heap[b]? = some (.cells c 153 (0, 0)) := fun b hb => by
    have e := ownsRow_blk h.oT hb
    subst e
    exact ownsRow_atZ h.oT
  have hC1 : ChgM wr wx := ChgM.of_grown hg fun b hb => by
    obtain ⟨_, c, hh⟩ := hrow b hb
    exact ⟨c, _, hh, .inr (.inl rfl)⟩
  have hgx : wx.heap[g]? = wr.heap[g]? := hg.block g h.glt fun e => by
    obtain ⟨_, c, hh⟩ := hrow g e.symm
    exact ty_ne h.bx hh (by decide) rfl
  have hC2 : ChgM wx (wx.setCell ⟨g, 5, none⟩ (.slice (some ⟨g6, 0, none⟩) (kT + 1) cap)) := ChgM.of_set (hgx.trans h.bx)
  have hC := hC1.trans hC2
  have hE1 : Ext w wx := Ext.grown h.ex hg fun b hb => (hrow b hb).1
  have hset : ∀ b, b ≠ g → (wx.setCell ⟨g, 5, none⟩ (.slice (some ⟨g6, 0, none⟩) (kT + 1) cap)).heap[b]? = wx.heap[b]? := fun b hb => Below.heap_setCell _ _ _ _ hb
  have h6g : g6 ≠ g := by
    rcases hat with e | e
    · obtain ⟨_, c, hh⟩ := hrow g6 e
      exact fun e2 => ty_ne hh (e2 ▸ h.bx) (by decide) rfl
    · have := h.glt; omega
  have hoth : ∀ {e : TypeId} {A : Option Addr} {n k c : Nat} {xs : List Value}, wr.ownsRow w.heap.size e 1 (.slice A n c) k xs → 141 ≠ e → (∀ b, A = some ⟨b, 0, none⟩ → (Value.slice At kT ct).ownBlock ≠ some b) → (wx.setCell ⟨g, 5, none⟩ (.slice (some ⟨g6, 0, none⟩) (kT + 1) cap)).ownsRow w.heap.size e 1 (.slice A n c) k xs := fun {e A n k c xs} ho he hne => ownsRow_heapZ ho fun b e2 => by
    subst e2
    obtain ⟨_, cur, hh⟩ := ownsRow_atZ ho
    have hbg : b ≠ g := Ne.symm (ty_ne h.bx hh he)
    exact (hset b hbg).trans (hg.block b (Array.getElem?_eq_some_iff.1 hh).1 (Ne.symm (hne b rfl)))
  have hbx2 : (wx.setCell ⟨g, 5, none⟩ (.slice (some ⟨g6, 0, none⟩) (kT + 1) cap)).heap[g]? = some (.cells #[c0, c1, c2, c3, .slice As kS cs, .slice (some ⟨g6, 0, none⟩) (kT + 1) cap, .slice Aw kW cw] 141 (0, 0)) := by
    have hb := hgx.trans h.bx
    simp [World.setCell, Array.getElem?_modify, hb]
  have hnew : (wx.setCell ⟨g, 5, none⟩ (.slice (some ⟨g6, 0, none⟩) (kT + 1) cap)).ownsRow w.heap.size 153 1 (.slice (some ⟨g6, 0, none⟩) (kT + 1) cap) (kT + 1) (us ++ [.slice A (subT ar tt kT).as.length c]) := ownsRow_heapZ hown fun b e => by cases e; exact hset g6 h6g
  have hlen : us.length = kT := by have := h.oT.1; omega
  have hsg : (wx.setCell ⟨g, 5, none⟩ (.slice (some ⟨g6, 0, none⟩) (kT + 1) cap)).heap[w.heap.size]? = some (.cells #[c0] 29 (0, 0)) := (hC _ _ _ h.sg (by decide) (by decide) (by decide)).trans h.sg
  refine ⟨hE1.set (by show _ ≤ g; have := h.gg; omega) _, h.gg, hbx2, hsg, hoth h.oS (by decide) (fun b e e2 => h.ap b b e (ownsRow_blk h.oT e2) rfl), hnew, hoth h.oW (by decide) (fun b e e2 => by subst e; obtain ⟨_, c, hh⟩ := hrow b e2; obtain ⟨_, c', hh'⟩ := ownsRow_atZ h.oW; exact ty_ne hh hh' (by decide) rfl), (fun b c e1 e2 => by cases e2; rcases hat with e | e; exact h.ap b g6 e1 (ownsRow_blk h.oT e); (subst e1; obtain ⟨_, cur, hh⟩ := ownsRow_atZ h.oS; have := (Array.getElem?_eq_some_iff.1 hh).1; omega)), h.fS.chg hC, (h.fT.chg hC).snoc hlen (hf.chg hC), h.fW.chg hC⟩
/-- One more element, the slice stored. -/
theorem MkSt.pushW (h : MkSt w wr g c0 c1 c2 c3 ar ss tt m kS kT kW As cs At ct Aw cw vs us ws) {wx : World} {g6 cap : Nat} {b : Nat}
    (hown : wx.ownsRow w.heap.size 27 1 (.slice (some ⟨g6, 0, none⟩) (kW + 1) cap) (kW + 1) (ws ++ [.slice (some ⟨b, 0, none⟩) m m]))
    (hg : wr.grownBy wx (Value.slice Aw kW cw).ownBlock) (hat : (Value.slice Aw kW cw).ownBlock = some g6 ∨ g6 = wr.heap.size) (hlt : g6 < wx.heap.size) (hB : w.heap.size ≤ b) (hf : FinR wr b m) (hn : ∀ (i : Nat), ws[i]? ≠ some (.slice (some ⟨b, 0, none⟩) m m)) :
    MkSt w (wx.setCell ⟨g, 6, none⟩ (.slice (some ⟨g6, 0, none⟩) (kW + 1) cap)) g c0 c1 c2 c3 ar ss tt m kS kT (kW + 1) As cs At ct (some ⟨g6, 0, none⟩) cap vs us (ws ++ [.slice (some ⟨b, 0, none⟩) m m]) := by
  have hrow : ∀ b, (Value.slice Aw kW cw).ownBlock = some b → w.heap.size ≤ b ∧ ∃ c, wr.heap[b]? = some (.cells c 27 (0, 0)) := fun b hb => by
    have e := ownsRow_blk h.oW hb
    subst e
    exact ownsRow_atZ h.oW
  have hC1 : ChgM wr wx := ChgM.of_grown hg fun b hb => by
    obtain ⟨_, c, hh⟩ := hrow b hb
    exact ⟨c, _, hh, .inr (.inr rfl)⟩
  have hgx : wx.heap[g]? = wr.heap[g]? := hg.block g h.glt fun e => by
    obtain ⟨_, c, hh⟩ := hrow g e.symm
    exact ty_ne h.bx hh (by decide) rfl
  have hC2 : ChgM wx (wx.setCell ⟨g, 6, none⟩ (.slice (some ⟨g6, 0, none⟩) (kW + 1) cap)) := ChgM.of_set (hgx.trans h.bx)
  have hC := hC1.trans hC2
  have hE1 : Ext w wx := Ext.grown h.ex hg fun b hb => (hrow b hb).1
  have hset : ∀ b, b ≠ g → (wx.setCell ⟨g, 6, none⟩ (.slice (some ⟨g6, 0, none⟩) (kW + 1) cap)).heap[b]? = wx.heap[b]? := fun b hb => Below.heap_setCell _ _ _ _ hb
  have h6g : g6 ≠ g := by
    rcases hat with e | e
    · obtain ⟨_, c, hh⟩ := hrow g6 e
      exact fun e2 => ty_ne hh (e2 ▸ h.bx) (by decide) rfl
    · have := h.glt; omega
  have hoth : ∀ {e : TypeId} {A : Option Addr} {n k c : Nat} {xs : List Value}, wr.ownsRow w.heap.size e 1 (.slice A n c) k xs → 141 ≠ e → (∀ b, A = some ⟨b, 0, none⟩ → (Value.slice Aw kW cw).ownBlock ≠ some b) → (wx.setCell ⟨g, 6, none⟩ (.slice (some ⟨g6, 0, none⟩) (kW + 1) cap)).ownsRow w.heap.size e 1 (.slice A n c) k xs := fun {e A n k c xs} ho he hne => ownsRow_heapZ ho fun b e2 => by
    subst e2
    obtain ⟨_, cur, hh⟩ := ownsRow_atZ ho
    have hbg : b ≠ g := Ne.symm (ty_ne h.bx hh he)
    exact (hset b hbg).trans (hg.block b (Array.getElem?_eq_some_iff.1 hh).1 (Ne.symm (hne b rfl)))
  have hbx2 : (wx.setCell ⟨g, 6, none⟩ (.slice (some ⟨g6, 0, none⟩) (kW + 1) cap)).heap[g]? = some (.cells #[c0, c1, c2, c3, .slice As kS cs, .slice At kT ct, .slice (some ⟨g6, 0, none⟩) (kW + 1) cap] 141 (0, 0)) := by
    have hb := hgx.trans h.bx
    simp [World.setCell, Array.getElem?_modify, hb]
  have hnew : (wx.setCell ⟨g, 6, none⟩ (.slice (some ⟨g6, 0, none⟩) (kW + 1) cap)).ownsRow w.heap.size 27 1 (.slice (some ⟨g6, 0, none⟩) (kW + 1) cap) (kW + 1) (ws ++ [.slice (some ⟨b, 0, none⟩) m m]) := ownsRow_heapZ hown fun b e => by cases e; exact hset g6 h6g
  have hlen : ws.length = kW := by have := h.oW.1; omega
  have hsg : (wx.setCell ⟨g, 6, none⟩ (.slice (some ⟨g6, 0, none⟩) (kW + 1) cap)).heap[w.heap.size]? = some (.cells #[c0] 29 (0, 0)) := (hC _ _ _ h.sg (by decide) (by decide) (by decide)).trans h.sg
  refine ⟨hE1.set (by show _ ≤ g; have := h.gg; omega) _, h.gg, hbx2, hsg, hoth h.oS (by decide) (fun b e e2 => by subst e; obtain ⟨_, c, hh⟩ := hrow b e2; obtain ⟨_, c', hh'⟩ := ownsRow_atZ h.oS; exact ty_ne hh hh' (by decide) rfl), hoth h.oT (by decide) (fun b e e2 => by subst e; obtain ⟨_, c, hh⟩ := hrow b e2; obtain ⟨_, c', hh'⟩ := ownsRow_atZ h.oT; exact ty_ne hh hh' (by decide) rfl), hnew, h.ap, h.fS.chg hC, h.fT.chg hC, (h.fW.chg hC).snoc hlen hB (hf.chg hC) hn⟩
end

/-! The reference's path orders: the table as it is made. -/
theorem heap2s (w : World) (o1 o2 : Obj) : ((w.alloc o1).alloc o2).heap[w.heap.size + 1]? = some o2 := by have := heap_alloc_new (w.alloc o1) o2; rwa [World.size_alloc] at this
theorem wp_make_full {P : Program} {w : World} {o : Oper} {a : Act} {K : Act → World → Prop} {Q : Exit → Act → World → Prop} (l c : Operand) (t : TypeId) (hop : o.op = Op.makeSlice t l c)
    (base : Nat) (e : TypeId) (i : TypeInfo) (z : Value) (size : Nat) (h1 : P.underlying t = some (.slice e)) (h2 : P.info? e = some i) (h3 : i.zero = some z) (h4 : i.size = size)
    (kl kc : IntKind) (L C : Int) (n : Nat) (hl : a.eval l = .int kl L) (hc : a.eval c = .int kc C) (hL : L = (n : Int)) (hC : C = (n : Int)) (b2 : i.bytes * n ≤ 281474976710656) (b3 : n ≤ maxLen) (b4 : base ≤ w.heap.size)
    (hK : ∀ w', w'.ownsRow base e size (.slice (some ⟨w.heap.size, 0, none⟩) n n) n (madeCells z.cells (n * size)).toList → w.grownBy w' none → K (a.put o.dst (.slice (some ⟨w.heap.size, 0, none⟩) n n)) w') : o.wp P a w K Q := by
  obtain ⟨w', hrun, r1, r2⟩ := run_make_full (P := P) w base t e i z size h1 h2 h3 h4 kl kc n b2 b3 b4
  subst hL
  subst hC
  unfold Oper.wp
  simp [execOp, hop, hl, hc, hrun, Result.andThen]
  exact hK w' r1 r2
section
variable {w wr : World} {g : Nat} {c0 c1 c2 c3 : Value} {ar ss tt : List Int} {m kS kT kW : Nat} {As : Option Addr} {cs : Nat} {At : Option Addr} {ct : Nat} {Aw : Option Addr} {cw : Nat} {vs us ws : List Value}
theorem MkSt.own (h : MkSt w wr g c0 c1 c2 c3 ar ss tt m kS kT kW As cs At ct Aw cw vs us ws) :
    (∀ b, (Value.slice As kS cs).ownBlock = some b → w.heap.size ≤ b ∧ b ≠ w.heap.size ∧ b ≠ g) ∧ (∀ b, (Value.slice At kT ct).ownBlock = some b → w.heap.size ≤ b ∧ b ≠ w.heap.size ∧ b ≠ g) ∧ ∀ b, (Value.slice Aw kW cw).ownBlock = some b → w.heap.size ≤ b ∧ b ≠ w.heap.size ∧ b ≠ g := by
  refine ⟨fun b hb => ?_, fun b hb => ?_, fun b hb => ?_⟩
  · have e := ownsRow_blk h.oS hb
    subst e
    obtain ⟨h1, cur, hh⟩ := ownsRow_atZ h.oS
    exact ⟨h1, ty_ne hh h.sg (by decide), ty_ne hh h.bx (by decide)⟩
  · have e := ownsRow_blk h.oT hb
    subst e
    obtain ⟨h1, cur, hh⟩ := ownsRow_atZ h.oT
    exact ⟨h1, ty_ne hh h.sg (by decide), ty_ne hh h.bx (by decide)⟩
  · have e := ownsRow_blk h.oW hb
    subst e
    obtain ⟨h1, cur, hh⟩ := ownsRow_atZ h.oW
    exact ⟨h1, ty_ne hh h.sg (by decide), ty_ne hh h.bx (by decide)⟩
end
theorem fin_row {w : World} {B b m : Nat} (h : w.ownsRow B 2 1 (.slice (some ⟨b, 0, none⟩) m m) m (madeCells #[Value.int .i64 0] (m * 1)).toList) : FinR w b m := by
  rcases h.2 with ⟨h2, _⟩ | ⟨g', cap, cur, hv, hg, hh, h1, h2, h3, h4⟩
  · cases h2
  · cases hv
    refine ⟨cur, hh, fun j hj => ?_⟩
    have e : (cur.toList.take (m * 1))[j]? = some (.int .i64 0) := by
      rw [h4, Nat.mul_one, madeInts, List.getElem?_map, List.getElem?_replicate]; simp [hj]
    rw [List.getElem?_take] at e
    split at e
    · rw [← Array.getElem?_toList]; exact e
    · cases e
theorem intss_info : (Try.prog.info? 153).map (fun i => (i.zero, i.size, i.bytes)) = some (some (.slice none 0 0), 1, 24) := by kernel_rfl
theorem int64ss_info : (Try.prog.info? 27).map (fun i => (i.zero, i.size, i.bytes)) = some (some (.slice none 0 0), 1, 24) := by kernel_rfl
theorem rowsFin {w : World} {B m k : Nat} {ws : List Value} (h : RowL w B m ws) (hk : ws.length = k) : ∃ row : Nat → Nat, ∀ i, i < k → ws[i]? = some (.slice (some ⟨row i, 0, none⟩) m m) ∧ B ≤ row i ∧ FinR w (row i) m := by
  refine ⟨fun i => match ws[i]? with | some (.slice (some a) _ _) => a.block | _ => 0, fun i hi => ?_⟩
  have e : ws[i]? = some (ws[i]'(by omega)) := List.getElem?_eq_getElem (by omega)
  obtain ⟨b, e1, hb, hf⟩ := h.1 i _ e
  rw [e1] at e
  simp only [e]
  exact ⟨trivial, hb, hf⟩
section
variable {w wr : World} {g : Nat} {ar rk s t : List Int} {ab ao n c rb ro rc sb so k l tb tq m d : Nat} {As : Option Addr} {cs : Nat} {At : Option Addr} {ct : Nat} {Aw : Option Addr} {cw : Nat} {vs us ws : List Value}
theorem MkSt.made (h : MkSt w wr g (.slice (some ⟨ab, ao, none⟩) n c) (.slice (some ⟨rb, ro, none⟩) n rc) (.slice (some ⟨sb, so, none⟩) k l) (.slice (some ⟨tb, tq, none⟩) m d) ar s t m k m k As cs At ct Aw cw vs us ws)
    (hs : SigP ar) (hrl : rk.length = ar.length) (ht : TermP ar t) (hss : TermP ar s) (ha : RI w (some ⟨ab, ao, none⟩) n ar) (hr : RI w (some ⟨rb, ro, none⟩) n rk) (hB : RI w (some ⟨tb, tq, none⟩) m t) (hD : RI w (some ⟨sb, so, none⟩) k s)
    (hmd : m ≤ d ∧ d ≤ 9223372036854775807) (hkl : k ≤ l ∧ l ≤ 9223372036854775807) (hab : ab < w.heap.size) (hrb : rb < w.heap.size) (htb : tb < w.heap.size) (hsb : sb < w.heap.size) :
    ∃ Y : SC, Y.g = g ∧ Y.P ∧ Y.H wr (fun _ _ => 0) ∧ (Y.ar = ar ∧ Y.rk = rk ∧ Y.s = s ∧ Y.t = t) ∧ ∀ i, i < Y.k → w.heap.size ≤ Y.row i := by
  have hm1 : 0 < m := by rw [← hB.len]; exact ht.2.1.1
  have hk1 : 0 < k := by rw [← hD.len]; exact hss.2.1.1
  obtain ⟨pa, pc, e1, _, _⟩ := World.ownsRow.form h.oS hk1
  cases e1
  obtain ⟨qa, qc, e2, _, _⟩ := World.ownsRow.form h.oT hm1
  cases e2
  obtain ⟨wb, wc, e3, _, _⟩ := World.ownsRow.form h.oW hk1
  cases e3
  have hvl : vs.length = k := by have := h.oS.1; omega
  have hul : us.length = m := by have := h.oT.1; omega
  have hwl : ws.length = k := by have := h.oW.1; omega
  obtain ⟨row, hrow⟩ := rowsFin h.fW hwl
  obtain ⟨hpB, cp, hpa⟩ := ownsRow_atZ h.oS
  obtain ⟨hqB, cq, hqa⟩ := ownsRow_atZ h.oT
  obtain ⟨hwB, cw', hwa⟩ := ownsRow_atZ h.oW
  have args : ∀ (tt : List Int) (pa kk : Nat) (A : Option Addr) (cc : Nat) (vs : List Value), TermP ar tt → tt.length = kk → vs.length = kk → wr.ownsRow w.heap.size 153 1 (.slice (some ⟨pa, 0, none⟩) kk cc) kk vs → ArgL wr ar tt vs → ArgsIn wr ar tt pa row k := by
    intro tt pa kk A cc vs htt htl hvl ho hf i hi
    have e : vs[i]? = some (vs[i]'(by omega)) := List.getElem?_eq_getElem (by omega)
    obtain ⟨A', c', e4, hfn⟩ := hf i _ e
    have hl3 : (subT ar tt i).as.length ≤ 4194304 := by
      obtain ⟨h1, _⟩ := subT_ok htt hi
      cases hsu : subT ar tt i with
      | node x us => rw [hsu] at h1; have := arI_le hs (Ok_node.1 h1).1; show us.length ≤ _; omega
    refine ⟨A', c', ?_, ?_, fun b o s' e5 r hr' => ?_⟩
    · have := World.ownsRow.cellAt ho i (by omega)
      rw [this, e, e4]
    · have := hfn.ri (by rw [starts_len]; exact hl3)
      rw [starts_len] at this
      exact this
    · rcases hfn with ⟨h0, _⟩ | ⟨b', cs', e6, hh, _⟩
      · rw [h0] at e5; cases e5
      · rw [e6] at e5; cases e5
        obtain ⟨cr, hhr, _⟩ := (hrow r hr').2.2
        exact ty_ne hh hhr (by decide)
  refine ⟨⟨ab, ao, n, c, rb, ro, rc, sb, so, k, l, tb, tq, m, d, g, pa, cs, qa, ct, wb, cw, row, ar, rk, s, t⟩, rfl, ⟨hs, ht, hss, hrl, hmd, hkl⟩, ?_, ⟨rfl, rfl, rfl, rfl⟩, fun i hi => (hrow i hi).2.1⟩
  have hcell := fun o => cell_of_row wr g o _ _ (0, 0) h.bx
  refine ⟨ha.ext h.ex, hr.ext h.ex, hD.ext h.ex, hB.ext h.ex, (hcell 0).trans rfl, (hcell 1).trans rfl, (hcell 2).trans rfl, (hcell 3).trans rfl, (hcell 4).trans rfl, (hcell 5).trans rfl, (hcell 6).trans rfl, ?_, ?_, fun i hi => ?_, fun i j hi hj => ?_, fun i j hi => ?_, fun i hi => ?_, fun i j hi hj e => ?_, fun i hi => ?_⟩
  · exact args s pa k (some ⟨pa, 0, none⟩) cs vs hss hD.len hvl h.oS h.fS
  · exact args t qa m (some ⟨qa, 0, none⟩) ct us ht hB.len hul h.oT h.fT
  · have := World.ownsRow.cellAt h.oW i (by have : i < k := hi; omega)
    show wr.cell? ⟨wb, i, none⟩ = _
    rw [this, (hrow i hi).1]
  · obtain ⟨cr, hhr, hc⟩ := (hrow i hi).2.2
    show wr.cell? ⟨row i, j, none⟩ = _
    rw [cell_of_row wr _ _ _ _ (0, 0) hhr]
    exact hc j hj
  · obtain ⟨cr, hhr, _⟩ := (hrow i hi).2.2
    exact frozen_of_row wr _ _ _ _ hhr
  · exact (hrow i hi).2.2.lt
  · have h1 := (hrow i hi).1
    have h2 := (hrow j hj).1
    have e' : row i = row j := e
    rw [← e'] at h2
    exact h.fW.2 i j (row i) h1 h2
  · obtain ⟨_, hb, cr, hhr, _⟩ := hrow i hi
    exact ⟨by show row i ≠ ab; omega, by show row i ≠ rb; omega, by show row i ≠ sb; omega, by show row i ≠ tb; omega, ty_ne hhr h.bx (by decide), ty_ne hhr hpa (by decide), ty_ne hhr hqa (by decide), ty_ne hhr hwa (by decide)⟩
end
/-- The table as it is made. -/
def Made (w : World) (ar rk s t : List Int) (e : Ending) (w' : World) : Prop := ∃ Y : SC, e = .returned (.pointer (some ⟨Y.g, 0, none⟩)) ∧ Y.P ∧ Y.H w' (fun _ _ => 0) ∧ (Y.ar = ar ∧ Y.rk = rk ∧ Y.s = s ∧ Y.t = t) ∧ (∀ i, i < Y.k → w.heap.size ≤ Y.row i) ∧ Ext w w'
set_option maxRecDepth 100000 in
set_option maxHeartbeats 8000000 in
theorem c_l13Make {ar rk s t : List Int} {A : Option Addr} {n c : Nat} {R : Option Addr} {rn rc : Nat} {B : Option Addr} {m d : Nat} {D : Option Addr} {k l : Nat} {w : World} (hs : SigP ar) (hrl : rk.length = ar.length) (ht : TermP ar t) (hss : TermP ar s)
    (ha : RI w A n ar) (hr : RI w R rn rk) (hB : RI w B m t) (hD : RI w D k s) (hmd : m ≤ d ∧ d ≤ 9223372036854775807) (hkl : k ≤ l ∧ l ≤ 9223372036854775807) :
    Calls Try.prog 125 #[.agg #[.slice A n c], .slice R rn rc, .slice D k l, .slice B m d] w (Made w ar rk s t) := by
  have hn1 : 0 < n := by rw [← ha.len]; exact hs.1
  obtain rfl : n = rn := by rw [← ha.len, ← hr.len, hrl]
  have hm1 : 0 < m := by rw [← hB.len]; exact ht.2.1.1
  have hk1 : 0 < k := by rw [← hD.len]; exact hss.2.1.1
  have hm60 : m ≤ 60 := by rw [← hB.len]; exact ht.2.1.2
  have hk60 : k ≤ 60 := by rw [← hD.len]; exact hss.2.1.2
  obtain ⟨ab, ao, _, rfl, _, hca⟩ := RI.at_ ha hn1
  obtain ⟨rb, ro, _, rfl, _, hcr⟩ := RI.at_ hr hn1
  obtain ⟨tb, tq, _, rfl, _, hct⟩ := RI.at_ hB hm1
  obtain ⟨sb, so, _, rfl, _, hcs⟩ := RI.at_ hD hk1
  have hab : ab < w.heap.size := World.block_lt_of_cell? w _ hca
  have hrb : rb < w.heap.size := World.block_lt_of_cell? w _ hcr
  have htb : tb < w.heap.size := World.block_lt_of_cell? w _ hct
  have hsb : sb < w.heap.size := World.block_lt_of_cell? w _ hcs
  obtain ⟨i0, h0i, h0z, h0s, h0b⟩ := info_parts int64_info
  obtain ⟨i1, h1i, h1z, h1s, h1b⟩ := info_parts intss_info
  obtain ⟨i2, h2i, h2z, h2s, h2b⟩ := info_parts int64ss_info
  have HA := Lib.hid ha
  have HR := Lib.hid hr
  have HB := Lib.hid hB
  have HD := Lib.hid hD
  have HSG := Lib.hid hs
  have HTT := Lib.hid ht
  have HTS := Lib.hid hss
  have HP0 := Lib.hid (And.intro hrl (And.intro hmd hkl))
  clear ha hr hB hD hca hcr hct hcs hs hrl ht hss hmd hkl
  go_enter Try.func125, Try.ntmps125
  go_wp2_with fail
  obtain ⟨wo, hwo⟩ : ∃ wo, wo = (w.alloc (.cells #[.slice (some ⟨ab, ao, none⟩) n c] 29)).alloc (.cells #[.slice (some ⟨ab, ao, none⟩) n c, .slice (some ⟨rb, ro, none⟩) n rc, .slice (some ⟨sb, so, none⟩) k l, .slice (some ⟨tb, tq, none⟩) m d, .slice none 0 0, .slice none 0 0, .slice none 0 0] 141) := ⟨_, rfl⟩
  have HM0 := Lib.hid (show MkSt w wo (w.heap.size + 1) (.slice (some ⟨ab, ao, none⟩) n c) (.slice (some ⟨rb, ro, none⟩) n rc) (.slice (some ⟨sb, so, none⟩) k l) (.slice (some ⟨tb, tq, none⟩) m d) ar s t m 0 0 0 none 0 none 0 none 0 [] [] [] from
    ⟨by rw [hwo]; exact extX, by omega, by rw [hwo]; exact heap2s _ _ _, by
      rw [hwo]; exact ((Ext.alloc (Ext.refl _) _).block _ (by simp [go_sem])).trans (heap_alloc_new w _), World.ownsRow_nil _ _ _ _, World.ownsRow_nil _ _ _ _, World.ownsRow_nil _ _ _ _, (fun b c e _ => by cases e), (fun i v h => by simp at h), (fun i v h => by simp at h), ⟨fun i v h => by simp at h, fun i j b h => by simp at h⟩⟩)
  rw [← hwo]
  clear hwo
  go_loopw [10] (fun iv wr => ∃ q : Nat, iv = .int .i64 q ∧ q ≤ k ∧ Hid (∃ As cs Aw cw vs ws, MkSt w wr (w.heap.size + 1) (.slice (some ⟨ab, ao, none⟩) n c) (.slice (some ⟨rb, ro, none⟩) n rc) (.slice (some ⟨sb, so, none⟩) k l) (.slice (some ⟨tb, tq, none⟩) m d) ar s t m q 0 q As cs none 0 Aw cw vs [] ws)) (fun iv _ => k - (intOf iv).toNat)
  case atStart => exact ⟨0, rfl, Nat.zero_le _, Lib.hid ⟨_, _, _, _, _, _, HM0.out⟩⟩
  case round =>
    obtain ⟨q, rfl, hq, hM⟩ := hrel
    obtain ⟨As, cs, Aw, cw, vs, ws, hst⟩ := hM.out
    clear hM
    have HST := Lib.hid hst
    have hEr := hst.ex
    have rg0 : wr.cell? ⟨w.heap.size, 0, none⟩ = some (.slice (some ⟨ab, ao, none⟩) n c) := by rw [cell_of_row wr _ _ _ _ (0, 0) hst.sg]; rfl
    have hszr := hEr.size
    clear hst
    by_cases hlt : q < k
    · have hqk : (q : Int) < (k : Int) := by omega
      have hq0 : (0 : Int) ≤ (q : Int) := by omega
      obtain ⟨⟨y, ys⟩, hsub⟩ : ∃ u, subT ar s q = u := ⟨_, rfl⟩
      obtain ⟨hu, rest, hud⟩ := subT_ok HTS.out (show q < s.length by rw [HD.out.len]; exact hlt)
      rw [hsub] at hu hud
      have HU := Lib.hid hu
      have HUD := Lib.hid hud
      have HSUB := Lib.hid (show (subT ar s q).as = ys by rw [hsub]; rfl)
      have HOWN := Lib.hid HST.out.own.1
      have rc4 := Ext.keep (Ext.refl wr) (show wr.cell? ⟨w.heap.size + 1, 4, none⟩ = some (.slice As q cs) by rw [cell_of_row wr _ _ _ _ (0, 0) HST.out.bx]; rfl)
      have HSTB : Hid (∀ {W : World}, Ext wr W → W.cell? ⟨w.heap.size + 1, 4, none⟩ = some (.slice As q cs)) := Lib.hid (fun hE => Ext.keep hE rc4)
      have HSTL : Hid (∀ {W : World}, Ext wr W → w.heap.size + 1 < W.heap.size) := Lib.hid (fun hE => Nat.lt_of_lt_of_le HST.out.glt hE.size)
      have HFZ : Hid (∀ (W : World), Ext wr W → W.frozen? ⟨w.heap.size + 1, 4, none⟩ = false) := Lib.hid (fun W hE => frozen_of_row W _ _ _ _ (HST.out.ext hE).bx)
      have HNB : Hid (∀ x : Nat, some (w.heap.size + 1) ≠ (Value.slice As q cs).ownBlock) := Lib.hid (fun _ e => (HOWN.out _ e.symm).2.2 rfl)
      clear hsub hu hud
      go_wp2_with fail
      refine wp_only (R := fun (a0 : Act) (a8 : Act) (w9 : World) => ∃ (A8 : Option Addr) (c8 q8 g6 cap : Nat), a8 = (((((((((((((a0.put (some 24) (.pointer (some ⟨w.heap.size + 1, 0, none⟩))).put (some 25) (.pointer (some ⟨w.heap.size + 1, 0, none⟩))).put (some 26) (.pointer (some ⟨w.heap.size + 1, 0, none⟩))).put (some 27) (.pointer (some ⟨w.heap.size + 1, 4, none⟩))).put (some 28) (.slice As q cs)).put (some 29) (.agg #[.slice (some ⟨ab, ao, none⟩) n c])).put (some 30) (.slice (some ⟨sb, so, none⟩) k l)).put (some 31) (.int .i64 (q : Int))).put (some 32) (.slice A8 ys.length c8)).put (some 33) (.slice (some ⟨q8, 0, none⟩) 1 1)).put (some 34) (.slice (some ⟨g6, 0, none⟩) (q + 1) cap)).put (some 35) (.pointer (some ⟨w.heap.size + 1, 0, none⟩))).put (some 36) (.pointer (some ⟨w.heap.size + 1, 4, none⟩))) ∧ MkSt w w9 (w.heap.size + 1) (.slice (some ⟨ab, ao, none⟩) n c) (.slice (some ⟨rb, ro, none⟩) n rc) (.slice (some ⟨sb, so, none⟩) k l) (.slice (some ⟨tb, tq, none⟩) m d) ar s t m (q + 1) 0 q (some ⟨g6, 0, none⟩) cap none 0 Aw cw (vs ++ [.slice A8 (subT ar s q).as.length c8]) [] ws) ?_ (fun a8 w8 hR => ?_)
      · refine wp_region_held_drew (S := (fun w' => Ext w w' ∧ w'.cell? ⟨w.heap.size, 0, none⟩ = some (.slice (some ⟨ab, ao, none⟩) n c))) (by kernel_rfl) (⟨Ext.drew hEr, rg0⟩) (fun hH => ?_)
        refine wpAnyH_take_dst (i := 0) (v := .pointer (some ⟨w.heap.size + 1, 0, none⟩)) (d := some 24) rfl rfl (by kernel_rfl) (by kernel_rfl) (by kernel_rfl) (fun _ _ _ h => h) (Or.inl ⟨by rfl, ?_⟩) hH ?_
        · (intro w' hE'; (try dsimp only at hE'); obtain ⟨hE0, hcg⟩ := hE'; go_simp; try with_reducible rfl)
        try simp only [Act.put, List.setIfInBounds_toArray, List.set_cons_zero, List.set_cons_succ]
        refine wpAnyH_take_dst (i := 1) (v := .pointer (some ⟨w.heap.size + 1, 0, none⟩)) (d := some 25) rfl rfl (by kernel_rfl) (by kernel_rfl) (by kernel_rfl) (fun _ _ _ h => h) (Or.inl ⟨by rfl, ?_⟩) hH ?_
        · (intro w' hE'; (try dsimp only at hE'); obtain ⟨hE0, hcg⟩ := hE'; go_simp; try with_reducible rfl)
        try simp only [Act.put, List.setIfInBounds_toArray, List.set_cons_zero, List.set_cons_succ]
        refine wpAnyH_take_dst (i := 2) (v := .pointer (some ⟨w.heap.size + 1, 0, none⟩)) (d := some 26) rfl rfl (by kernel_rfl) (by kernel_rfl) (by kernel_rfl) (fun _ _ _ h => h) (Or.inl ⟨by rfl, ?_⟩) hH ?_
        · (intro w' hE'; (try dsimp only at hE'); obtain ⟨hE0, hcg⟩ := hE'; go_simp; try with_reducible rfl)
        try simp only [Act.put, List.setIfInBounds_toArray, List.set_cons_zero, List.set_cons_succ]
        refine wpAnyH_take_dst (i := 3) (v := .pointer (some ⟨w.heap.size + 1, 4, none⟩)) (d := some 27) rfl rfl (by kernel_rfl) (by kernel_rfl) (by kernel_rfl) (fun _ _ _ h => h) (Or.inl ⟨by rfl, ?_⟩) hH ?_
        · (intro w' hE'; (try dsimp only at hE'); obtain ⟨hE0, hcg⟩ := hE'; go_simp; try with_reducible rfl)
        try simp only [Act.put, List.setIfInBounds_toArray, List.set_cons_zero, List.set_cons_succ]
        refine wpAnyH_take_dst (i := 5) (v := .agg #[.slice (some ⟨ab, ao, none⟩) n c]) (d := some 29) rfl rfl (by kernel_rfl) (by kernel_rfl) (by kernel_rfl) (fun _ _ _ h => h) (Or.inl ⟨by rfl, ?_⟩) hH ?_
        · (intro w' hE'; (try dsimp only at hE'); obtain ⟨hE0, hcg⟩ := hE'; go_simp; try with_reducible rfl)
        try simp only [Act.put, List.setIfInBounds_toArray, List.set_cons_zero, List.set_cons_succ]
        refine wpAnyH_take_dst (i := 6) (v := .slice (some ⟨sb, so, none⟩) k l) (d := some 30) rfl rfl (by kernel_rfl) (by kernel_rfl) (by kernel_rfl) (fun _ _ _ h => h) (Or.inl ⟨by rfl, ?_⟩) hH ?_
        · (intro w' hE'; (try dsimp only at hE'); obtain ⟨hE0, hcg⟩ := hE'; go_simp; try with_reducible rfl)
        try simp only [Act.put, List.setIfInBounds_toArray, List.set_cons_zero, List.set_cons_succ]
        refine wpAnyH_take_dst (i := 7) (v := .int .i64 (q : Int)) (d := some 31) rfl rfl (by kernel_rfl) (by kernel_rfl) (by kernel_rfl) (fun _ _ _ h => h) (Or.inl ⟨by rfl, ?_⟩) hH ?_
        · (intro w' hE'; (try dsimp only at hE'); obtain ⟨hE0, hcg⟩ := hE'; go_simp; try with_reducible rfl)
        try simp only [Act.put, List.setIfInBounds_toArray, List.set_cons_zero, List.set_cons_succ]
        refine wpAnyH_ready (rs := [4, 8]) (by kernel_rfl) (by simp) ?_
        refine AllReadyH.cons rfl (fun K hK => ?_) (AllReadyH.cons rfl (fun K hK => ?_) (AllReadyH.nil))
        · rw [if_pos (by rfl)]
          go_wp2_with fail
          refine hK.out _ _ (⟨hH.1, hH.2⟩) (fun hH9 => ?_)
          clear hK; have hH0 := hH; clear hH; have hH := hH9; clear hH9
          try simp only [Act.put, List.setIfInBounds_toArray, List.set_cons_zero, List.set_cons_succ]
          refine wpAnyH_ready (rs := [8]) (by kernel_rfl) (by simp) ?_
          refine AllReadyH.cons rfl (fun K hK => ?_) AllReadyH.nil
          rw [if_pos (by rfl)]
          go_wp2_with fail
          (with_reducible refine (c_l13Args (RdSig.mk (RI.ext HA.out hH.1)) (RdI.mk (RI.ext HD.out hH.1)) HSG.out HU.out HUD.out).mono ?_)
          rintro e w9 ⟨A8, c8, rfl, hO8, hE9⟩
          refine hK.out _ _ (⟨Ext.trans hH.1 hE9, Ext.keep hE9 hH.2⟩) (fun hH9 => ?_)
          clear hK; have hH0 := hH; clear hH; have hH := hH9; clear hH9
          try simp only [Act.put, List.setIfInBounds_toArray, List.set_cons_zero, List.set_cons_succ]
          refine wpAnyH_ready (rs := [9]) (by kernel_rfl) (by simp) ?_
          refine AllReadyH.cons rfl (fun K hK => ?_) AllReadyH.nil
          rw [if_pos (by rfl)]
          go_wp2_with fail
          refine hK.out _ _ (⟨hH.1.alloc _, Ext.keep (Ext.alloc (Ext.refl _) _) hH.2⟩) (fun hH9 => ?_)
          clear hK; have hH0 := hH; clear hH; have hH := hH9; clear hH9
          try simp only [Act.put, List.setIfInBounds_toArray, List.set_cons_zero, List.set_cons_succ]
          refine wpAnyH_ready (rs := [10]) (by kernel_rfl) (by simp) ?_
          refine AllReadyH.cons rfl (fun K hK => ?_) AllReadyH.nil
          rw [if_pos (by rfl)]
          have hEn : Ext wr (w9.alloc (.cells #[.slice A8 ys.length c8] 153)) := Ext.alloc (Ext.trans (Ext.drew (Ext.refl wr)) hE9) _; have hszn := hH.1.size; refine wp_append_lies _ (.tmp 28) (.tmp 33) 139 rfl w.heap.size 153 i1 (.slice none 0 0) 1 24 Try.underlying139 h1i h1z h1s h1b rfl (by decide) _ _ vs rfl (own_ext HST.out.oS hEn) ⟨w9.heap.size, 0, none⟩ 1 1 [.slice A8 ys.length c8] rfl rfl (one_cells _ _ _) (one_slice _ _ _) (by decide) (by unfold maxLen; omega) (by omega) hszn _ rfl (fun g6 cap wx hown hg hat hlt => ?_); have HG := Lib.hid (And.intro hown (And.intro hg (And.intro hat hlt))); have hgx := hg.cell (HSTB.out hEn) (HNB.out 0) ; have hgf := hg.frozen_far ⟨w.heap.size + 1, 4, none⟩ (HSTL.out hEn) (HNB.out 0)
          refine hK.out _ _ (⟨Ext.grown hH.1 hg (fun b hb => (HOWN.out b hb).1), hg.cell hH.2 (fun e => (HOWN.out _ e.symm).2.1 rfl)⟩) (fun hH9 => ?_)
          clear hK; have hH0 := hH; clear hH; have hH := hH9; clear hH9
          try simp only [Act.put, List.setIfInBounds_toArray, List.set_cons_zero, List.set_cons_succ]
          refine wpAnyH_take_dst (i := 11) (v := .pointer (some ⟨w.heap.size + 1, 0, none⟩)) (d := some 35) rfl rfl (by kernel_rfl) (by kernel_rfl) (by kernel_rfl) (fun _ _ _ h => h) (Or.inl ⟨by rfl, ?_⟩) hH ?_
          · (intro w' hE'; (try dsimp only at hE'); obtain ⟨hE0, hcg⟩ := hE'; go_simp; try with_reducible rfl)
          try simp only [Act.put, List.setIfInBounds_toArray, List.set_cons_zero, List.set_cons_succ]
          refine wpAnyH_take_dst (i := 12) (v := .pointer (some ⟨w.heap.size + 1, 4, none⟩)) (d := some 36) rfl rfl (by kernel_rfl) (by kernel_rfl) (by kernel_rfl) (fun _ _ _ h => h) (Or.inl ⟨by rfl, ?_⟩) hH ?_
          · (intro w' hE'; (try dsimp only at hE'); obtain ⟨hE0, hcg⟩ := hE'; go_simp; try with_reducible rfl)
          try simp only [Act.put, List.setIfInBounds_toArray, List.set_cons_zero, List.set_cons_succ]
          refine wpAnyH_ready (rs := [13]) (by kernel_rfl) (by simp) ?_
          refine AllReadyH.cons rfl (fun K hK => ?_) AllReadyH.nil
          rw [if_pos (by rfl)]
          have hz13 := hgf.trans (HFZ.out _ hEn); clear hgf; go_wp2_with fail
          refine hK.out _ _ (⟨hH.1.set (p := ⟨w.heap.size + 1, 4, none⟩) (Nat.le_succ _) (.slice (some ⟨g6, 0, none⟩) (q + 1) cap), (show (wx.setCell ⟨w.heap.size + 1, 4, none⟩ (.slice (some ⟨g6, 0, none⟩) (q + 1) cap)).cell? ⟨w.heap.size, 0, none⟩ = _ from by rw [World.cell?_setCell_other _ _ _ _ (by first | (simp; done) | (simp; omega))]; exact hH.2)⟩) (fun hH9 => ?_)
          clear hK; have hH0 := hH; clear hH; have hH := hH9; clear hH9
          try simp only [Act.put, List.setIfInBounds_toArray, List.set_cons_zero, List.set_cons_succ]
          refine wpAnyH_done (by kernel_rfl) ?_ _
          exact ⟨A8, c8, w9.heap.size, g6, cap, rfl, (HST.out.ext hEn).pushS (by rw [HSUB.out]; exact HG.out.1) HG.out.2.1 HG.out.2.2.1 HG.out.2.2.2 (by rw [HSUB.out]; exact (hO8.fin).chg (ChgM.of_ext (Ext.alloc (Ext.refl _) _)))⟩
        · rw [if_pos (by rfl)]
          go_wp2_with fail
          (with_reducible refine (c_l13Args (RdSig.mk (RI.ext HA.out hH.1)) (RdI.mk (RI.ext HD.out hH.1)) HSG.out HU.out HUD.out).mono ?_)
          rintro e w9 ⟨A8, c8, rfl, hO8, hE9⟩
          refine hK.out _ _ (⟨Ext.trans hH.1 hE9, Ext.keep hE9 hH.2⟩) (fun hH9 => ?_)
          clear hK; have hH0 := hH; clear hH; have hH := hH9; clear hH9
          try simp only [Act.put, List.setIfInBounds_toArray, List.set_cons_zero, List.set_cons_succ]
          refine wpAnyH_ready (rs := [4, 9]) (by kernel_rfl) (by simp) ?_
          refine AllReadyH.cons rfl (fun K hK => ?_) (AllReadyH.cons rfl (fun K hK => ?_) (AllReadyH.nil))
          · rw [if_pos (by rfl)]
            have hk4 := Ext.keep hE9 (show wr.drew.cell? _ = _ from rc4); go_wp2_with fail
            refine hK.out _ _ (⟨hH.1, hH.2⟩) (fun hH9 => ?_)
            clear hK; have hH0 := hH; clear hH; have hH := hH9; clear hH9
            try simp only [Act.put, List.setIfInBounds_toArray, List.set_cons_zero, List.set_cons_succ]
            refine wpAnyH_ready (rs := [9]) (by kernel_rfl) (by simp) ?_
            refine AllReadyH.cons rfl (fun K hK => ?_) AllReadyH.nil
            rw [if_pos (by rfl)]
            go_wp2_with fail
            refine hK.out _ _ (⟨hH.1.alloc _, Ext.keep (Ext.alloc (Ext.refl _) _) hH.2⟩) (fun hH9 => ?_)
            clear hK; have hH0 := hH; clear hH; have hH := hH9; clear hH9
            try simp only [Act.put, List.setIfInBounds_toArray, List.set_cons_zero, List.set_cons_succ]
            refine wpAnyH_ready (rs := [10]) (by kernel_rfl) (by simp) ?_
            refine AllReadyH.cons rfl (fun K hK => ?_) AllReadyH.nil
            rw [if_pos (by rfl)]
            have hEn : Ext wr (w9.alloc (.cells #[.slice A8 ys.length c8] 153)) := Ext.alloc (Ext.trans (Ext.drew (Ext.refl wr)) hE9) _; have hszn := hH.1.size; refine wp_append_lies _ (.tmp 28) (.tmp 33) 139 rfl w.heap.size 153 i1 (.slice none 0 0) 1 24 Try.underlying139 h1i h1z h1s h1b rfl (by decide) _ _ vs rfl (own_ext HST.out.oS hEn) ⟨w9.heap.size, 0, none⟩ 1 1 [.slice A8 ys.length c8] rfl rfl (one_cells _ _ _) (one_slice _ _ _) (by decide) (by unfold maxLen; omega) (by omega) hszn _ rfl (fun g6 cap wx hown hg hat hlt => ?_); have HG := Lib.hid (And.intro hown (And.intro hg (And.intro hat hlt))); have hgx := hg.cell (HSTB.out hEn) (HNB.out 0) ; have hgf := hg.frozen_far ⟨w.heap.size + 1, 4, none⟩ (HSTL.out hEn) (HNB.out 0)
            refine hK.out _ _ (⟨Ext.grown hH.1 hg (fun b hb => (HOWN.out b hb).1), hg.cell hH.2 (fun e => (HOWN.out _ e.symm).2.1 rfl)⟩) (fun hH9 => ?_)
            clear hK; have hH0 := hH; clear hH; have hH := hH9; clear hH9
            try simp only [Act.put, List.setIfInBounds_toArray, List.set_cons_zero, List.set_cons_succ]
            refine wpAnyH_take_dst (i := 11) (v := .pointer (some ⟨w.heap.size + 1, 0, none⟩)) (d := some 35) rfl rfl (by kernel_rfl) (by kernel_rfl) (by kernel_rfl) (fun _ _ _ h => h) (Or.inl ⟨by rfl, ?_⟩) hH ?_
            · (intro w' hE'; (try dsimp only at hE'); obtain ⟨hE0, hcg⟩ := hE'; go_simp; try with_reducible rfl)
            try simp only [Act.put, List.setIfInBounds_toArray, List.set_cons_zero, List.set_cons_succ]
            refine wpAnyH_take_dst (i := 12) (v := .pointer (some ⟨w.heap.size + 1, 4, none⟩)) (d := some 36) rfl rfl (by kernel_rfl) (by kernel_rfl) (by kernel_rfl) (fun _ _ _ h => h) (Or.inl ⟨by rfl, ?_⟩) hH ?_
            · (intro w' hE'; (try dsimp only at hE'); obtain ⟨hE0, hcg⟩ := hE'; go_simp; try with_reducible rfl)
            try simp only [Act.put, List.setIfInBounds_toArray, List.set_cons_zero, List.set_cons_succ]
            refine wpAnyH_ready (rs := [13]) (by kernel_rfl) (by simp) ?_
            refine AllReadyH.cons rfl (fun K hK => ?_) AllReadyH.nil
            rw [if_pos (by rfl)]
            have hz13 := hgf.trans (HFZ.out _ hEn); clear hgf; go_wp2_with fail
            refine hK.out _ _ (⟨hH.1.set (p := ⟨w.heap.size + 1, 4, none⟩) (Nat.le_succ _) (.slice (some ⟨g6, 0, none⟩) (q + 1) cap), (show (wx.setCell ⟨w.heap.size + 1, 4, none⟩ (.slice (some ⟨g6, 0, none⟩) (q + 1) cap)).cell? ⟨w.heap.size, 0, none⟩ = _ from by rw [World.cell?_setCell_other _ _ _ _ (by first | (simp; done) | (simp; omega))]; exact hH.2)⟩) (fun hH9 => ?_)
            clear hK; have hH0 := hH; clear hH; have hH := hH9; clear hH9
            try simp only [Act.put, List.setIfInBounds_toArray, List.set_cons_zero, List.set_cons_succ]
            refine wpAnyH_done (by kernel_rfl) ?_ _
            exact ⟨A8, c8, w9.heap.size, g6, cap, rfl, (HST.out.ext hEn).pushS (by rw [HSUB.out]; exact HG.out.1) HG.out.2.1 HG.out.2.2.1 HG.out.2.2.2 (by rw [HSUB.out]; exact (hO8.fin).chg (ChgM.of_ext (Ext.alloc (Ext.refl _) _)))⟩
          · rw [if_pos (by rfl)]
            go_wp2_with fail
            refine hK.out _ _ (⟨hH.1.alloc _, Ext.keep (Ext.alloc (Ext.refl _) _) hH.2⟩) (fun hH9 => ?_)
            clear hK; have hH0 := hH; clear hH; have hH := hH9; clear hH9
            try simp only [Act.put, List.setIfInBounds_toArray, List.set_cons_zero, List.set_cons_succ]
            refine wpAnyH_ready (rs := [4]) (by kernel_rfl) (by simp) ?_
            refine AllReadyH.cons rfl (fun K hK => ?_) AllReadyH.nil
            rw [if_pos (by rfl)]
            have hk4 := Ext.keep (Ext.alloc hE9 (.cells #[.slice A8 ys.length c8] 153)) (show wr.drew.cell? _ = _ from rc4); go_wp2_with fail
            refine hK.out _ _ (⟨hH.1, hH.2⟩) (fun hH9 => ?_)
            clear hK; have hH0 := hH; clear hH; have hH := hH9; clear hH9
            try simp only [Act.put, List.setIfInBounds_toArray, List.set_cons_zero, List.set_cons_succ]
            refine wpAnyH_ready (rs := [10]) (by kernel_rfl) (by simp) ?_
            refine AllReadyH.cons rfl (fun K hK => ?_) AllReadyH.nil
            rw [if_pos (by rfl)]
            have hEn : Ext wr (w9.alloc (.cells #[.slice A8 ys.length c8] 153)) := Ext.alloc (Ext.trans (Ext.drew (Ext.refl wr)) hE9) _; have hszn := hH.1.size; refine wp_append_lies _ (.tmp 28) (.tmp 33) 139 rfl w.heap.size 153 i1 (.slice none 0 0) 1 24 Try.underlying139 h1i h1z h1s h1b rfl (by decide) _ _ vs rfl (own_ext HST.out.oS hEn) ⟨w9.heap.size, 0, none⟩ 1 1 [.slice A8 ys.length c8] rfl rfl (one_cells _ _ _) (one_slice _ _ _) (by decide) (by unfold maxLen; omega) (by omega) hszn _ rfl (fun g6 cap wx hown hg hat hlt => ?_); have HG := Lib.hid (And.intro hown (And.intro hg (And.intro hat hlt))); have hgx := hg.cell (HSTB.out hEn) (HNB.out 0) ; have hgf := hg.frozen_far ⟨w.heap.size + 1, 4, none⟩ (HSTL.out hEn) (HNB.out 0)
            refine hK.out _ _ (⟨Ext.grown hH.1 hg (fun b hb => (HOWN.out b hb).1), hg.cell hH.2 (fun e => (HOWN.out _ e.symm).2.1 rfl)⟩) (fun hH9 => ?_)
            clear hK; have hH0 := hH; clear hH; have hH := hH9; clear hH9
            try simp only [Act.put, List.setIfInBounds_toArray, List.set_cons_zero, List.set_cons_succ]
            refine wpAnyH_take_dst (i := 11) (v := .pointer (some ⟨w.heap.size + 1, 0, none⟩)) (d := some 35) rfl rfl (by kernel_rfl) (by kernel_rfl) (by kernel_rfl) (fun _ _ _ h => h) (Or.inl ⟨by rfl, ?_⟩) hH ?_
            · (intro w' hE'; (try dsimp only at hE'); obtain ⟨hE0, hcg⟩ := hE'; go_simp; try with_reducible rfl)
            try simp only [Act.put, List.setIfInBounds_toArray, List.set_cons_zero, List.set_cons_succ]
            refine wpAnyH_take_dst (i := 12) (v := .pointer (some ⟨w.heap.size + 1, 4, none⟩)) (d := some 36) rfl rfl (by kernel_rfl) (by kernel_rfl) (by kernel_rfl) (fun _ _ _ h => h) (Or.inl ⟨by rfl, ?_⟩) hH ?_
            · (intro w' hE'; (try dsimp only at hE'); obtain ⟨hE0, hcg⟩ := hE'; go_simp; try with_reducible rfl)
            try simp only [Act.put, List.setIfInBounds_toArray, List.set_cons_zero, List.set_cons_succ]
            refine wpAnyH_ready (rs := [13]) (by kernel_rfl) (by simp) ?_
            refine AllReadyH.cons rfl (fun K hK => ?_) AllReadyH.nil
            rw [if_pos (by rfl)]
            have hz13 := hgf.trans (HFZ.out _ hEn); clear hgf; go_wp2_with fail
            refine hK.out _ _ (⟨hH.1.set (p := ⟨w.heap.size + 1, 4, none⟩) (Nat.le_succ _) (.slice (some ⟨g6, 0, none⟩) (q + 1) cap), (show (wx.setCell ⟨w.heap.size + 1, 4, none⟩ (.slice (some ⟨g6, 0, none⟩) (q + 1) cap)).cell? ⟨w.heap.size, 0, none⟩ = _ from by rw [World.cell?_setCell_other _ _ _ _ (by first | (simp; done) | (simp; omega))]; exact hH.2)⟩) (fun hH9 => ?_)
            clear hK; have hH0 := hH; clear hH; have hH := hH9; clear hH9
            try simp only [Act.put, List.setIfInBounds_toArray, List.set_cons_zero, List.set_cons_succ]
            refine wpAnyH_done (by kernel_rfl) ?_ _
            exact ⟨A8, c8, w9.heap.size, g6, cap, rfl, (HST.out.ext hEn).pushS (by rw [HSUB.out]; exact HG.out.1) HG.out.2.1 HG.out.2.2.1 HG.out.2.2.2 (by rw [HSUB.out]; exact (hO8.fin).chg (ChgM.of_ext (Ext.alloc (Ext.refl _) _)))⟩
      obtain ⟨A8, c8, q8, g6, cap, ha, hM8⟩ := hR
      simp only [Act.put, List.setIfInBounds_toArray, List.set_cons_zero, List.set_cons_succ] at ha
      subst ha
      have HST8 := Lib.hid hM8
      clear hM8 rc4 rg0
      have hEr8 := HST8.out.ex
      have hszr8 := hEr8.size
      have rc6 : w8.cell? ⟨w.heap.size + 1, 6, none⟩ = some (.slice Aw q cw) := by rw [cell_of_row w8 _ _ _ _ (0, 0) HST8.out.bx]; rfl
      have HOWN8 := Lib.hid HST8.out.own.2.2
      have HSTB8 : Hid (∀ {W : World}, Ext w8 W → W.cell? ⟨w.heap.size + 1, 6, none⟩ = some (.slice Aw q cw)) := Lib.hid (fun hE => Ext.keep hE rc6)
      have HSTL8 : Hid (∀ {W : World}, Ext w8 W → w.heap.size + 1 < W.heap.size) := Lib.hid (fun hE => Nat.lt_of_lt_of_le HST8.out.glt hE.size)
      have HFZ8 : Hid (∀ (W : World), Ext w8 W → W.frozen? ⟨w.heap.size + 1, 6, none⟩ = false) := Lib.hid (fun W hE => frozen_of_row W _ _ _ _ (HST8.out.ext hE).bx)
      have HNB8 : Hid (∀ x : Nat, some (w.heap.size + 1) ≠ (Value.slice Aw q cw).ownBlock) := Lib.hid (fun _ e => (HOWN8.out _ e.symm).2.2 rfl)
      go_wp2_with fail
      refine wp_only (R := fun (a0 : Act) (a8 : Act) (w9 : World) => ∃ (q8 g7 cap7 : Nat), a8 = ((((((((((((a0.put (some 37) (.pointer (some ⟨w.heap.size + 1, 0, none⟩))).put (some 38) (.pointer (some ⟨w.heap.size + 1, 0, none⟩))).put (some 39) (.pointer (some ⟨w.heap.size + 1, 0, none⟩))).put (some 40) (.pointer (some ⟨w.heap.size + 1, 6, none⟩))).put (some 41) (.slice Aw q cw)).put (some 42) (.slice (some ⟨tb, tq, none⟩) m d)).put (some 43) (.int .i64 (m : Int))).put (some 44) (.slice (some ⟨w8.heap.size, 0, none⟩) m m)).put (some 45) (.slice (some ⟨q8, 0, none⟩) 1 1)).put (some 46) (.slice (some ⟨g7, 0, none⟩) (q + 1) cap7)).put (some 47) (.pointer (some ⟨w.heap.size + 1, 0, none⟩))).put (some 48) (.pointer (some ⟨w.heap.size + 1, 6, none⟩))) ∧ MkSt w w9 (w.heap.size + 1) (.slice (some ⟨ab, ao, none⟩) n c) (.slice (some ⟨rb, ro, none⟩) n rc) (.slice (some ⟨sb, so, none⟩) k l) (.slice (some ⟨tb, tq, none⟩) m d) ar s t m (q + 1) 0 (q + 1) (some ⟨g6, 0, none⟩) cap none 0 (some ⟨g7, 0, none⟩) cap7 (vs ++ [.slice A8 (subT ar s q).as.length c8]) [] (ws ++ [.slice (some ⟨w8.heap.size, 0, none⟩) m m])) ?_ (fun a8 w9 hR => ?_)
      · refine wp_region_held_drew (S := (fun w' => Ext w w')) (by kernel_rfl) (Ext.drew hEr8) (fun hH => ?_)
        refine wpAnyH_take_dst (i := 0) (v := .pointer (some ⟨w.heap.size + 1, 0, none⟩)) (d := some 37) rfl rfl (by kernel_rfl) (by kernel_rfl) (by kernel_rfl) (fun _ _ _ h => h) (Or.inl ⟨by rfl, ?_⟩) hH ?_
        · (intro w' hE'; (try dsimp only at hE'); skip; go_simp; try with_reducible rfl)
        try simp only [Act.put, List.setIfInBounds_toArray, List.set_cons_zero, List.set_cons_succ]
        refine wpAnyH_take_dst (i := 1) (v := .pointer (some ⟨w.heap.size + 1, 0, none⟩)) (d := some 38) rfl rfl (by kernel_rfl) (by kernel_rfl) (by kernel_rfl) (fun _ _ _ h => h) (Or.inl ⟨by rfl, ?_⟩) hH ?_
        · (intro w' hE'; (try dsimp only at hE'); skip; go_simp; try with_reducible rfl)
        try simp only [Act.put, List.setIfInBounds_toArray, List.set_cons_zero, List.set_cons_succ]
        refine wpAnyH_take_dst (i := 2) (v := .pointer (some ⟨w.heap.size + 1, 0, none⟩)) (d := some 39) rfl rfl (by kernel_rfl) (by kernel_rfl) (by kernel_rfl) (fun _ _ _ h => h) (Or.inl ⟨by rfl, ?_⟩) hH ?_
        · (intro w' hE'; (try dsimp only at hE'); skip; go_simp; try with_reducible rfl)
        try simp only [Act.put, List.setIfInBounds_toArray, List.set_cons_zero, List.set_cons_succ]
        refine wpAnyH_take_dst (i := 3) (v := .pointer (some ⟨w.heap.size + 1, 6, none⟩)) (d := some 40) rfl rfl (by kernel_rfl) (by kernel_rfl) (by kernel_rfl) (fun _ _ _ h => h) (Or.inl ⟨by rfl, ?_⟩) hH ?_
        · (intro w' hE'; (try dsimp only at hE'); skip; go_simp; try with_reducible rfl)
        try simp only [Act.put, List.setIfInBounds_toArray, List.set_cons_zero, List.set_cons_succ]
        refine wpAnyH_take_dst (i := 5) (v := .slice (some ⟨tb, tq, none⟩) m d) (d := some 42) rfl rfl (by kernel_rfl) (by kernel_rfl) (by kernel_rfl) (fun _ _ _ h => h) (Or.inl ⟨by rfl, ?_⟩) hH ?_
        · (intro w' hE'; (try dsimp only at hE'); skip; go_simp; try with_reducible rfl)
        try simp only [Act.put, List.setIfInBounds_toArray, List.set_cons_zero, List.set_cons_succ]
        refine wpAnyH_take_dst (i := 6) (v := .int .i64 (m : Int)) (d := some 43) rfl rfl (by kernel_rfl) (by kernel_rfl) (by kernel_rfl) (fun _ _ _ h => h) (Or.inl ⟨by rfl, ?_⟩) hH ?_
        · (intro w' hE'; (try dsimp only at hE'); skip; go_simp; try with_reducible rfl)
        try simp only [Act.put, List.setIfInBounds_toArray, List.set_cons_zero, List.set_cons_succ]
        refine wpAnyH_ready (rs := [4, 7]) (by kernel_rfl) (by simp) ?_
        refine AllReadyH.cons rfl (fun K hK => ?_) (AllReadyH.cons rfl (fun K hK => ?_) (AllReadyH.nil))
        · rw [if_pos (by rfl)]
          go_wp2_with fail
          refine hK.out _ _ (hH) (fun hH9 => ?_)
          clear hK; have hH0 := hH; clear hH; have hH := hH9; clear hH9
          try simp only [Act.put, List.setIfInBounds_toArray, List.set_cons_zero, List.set_cons_succ]
          refine wpAnyH_ready (rs := [7]) (by kernel_rfl) (by simp) ?_
          refine AllReadyH.cons rfl (fun K hK => ?_) AllReadyH.nil
          rw [if_pos (by rfl)]
          refine wp_make_full (.tmp 43) (.tmp 43) 27 rfl w.heap.size 2 i0 (.int .i64 0) 1 Try.underlying27 h0i h0z h0s .i64 .i64 _ _ m rfl rfl rfl rfl (by rw [h0b]; omega) (by unfold maxLen; omega) hH.size (fun w9 hown9 hg9 => ?_); have HMK := Lib.hid (And.intro hown9 hg9); clear hown9
          refine hK.out _ _ (Ext.grown hH HMK.out.2 (fun b hb => by cases hb)) (fun hH9 => ?_)
          clear hK; have hH0 := hH; clear hH; have hH := hH9; clear hH9
          try simp only [Act.put, List.setIfInBounds_toArray, List.set_cons_zero, List.set_cons_succ]
          refine wpAnyH_ready (rs := [8]) (by kernel_rfl) (by simp) ?_
          refine AllReadyH.cons rfl (fun K hK => ?_) AllReadyH.nil
          rw [if_pos (by rfl)]
          go_wp2_with fail
          refine hK.out _ _ (hH.alloc _) (fun hH9 => ?_)
          clear hK; have hH0 := hH; clear hH; have hH := hH9; clear hH9
          try simp only [Act.put, List.setIfInBounds_toArray, List.set_cons_zero, List.set_cons_succ]
          refine wpAnyH_ready (rs := [9]) (by kernel_rfl) (by simp) ?_
          refine AllReadyH.cons rfl (fun K hK => ?_) AllReadyH.nil
          rw [if_pos (by rfl)]
          have hEn : Ext w8 (w9.alloc (.cells #[.slice (some ⟨w8.heap.size, 0, none⟩) m m] 27)) := Ext.alloc (Ext.trans (Ext.drew (Ext.refl w8)) (Ext.grown (Ext.refl _) HMK.out.2 (fun b hb => by cases hb))) _; have hszn := hH.size; refine wp_append_lies _ (.tmp 41) (.tmp 45) 34 rfl w.heap.size 27 i2 (.slice none 0 0) 1 24 Try.underlying34 h2i h2z h2s h2b rfl (by decide) _ _ ws rfl (own_ext HST8.out.oW hEn) ⟨w9.heap.size, 0, none⟩ 1 1 [.slice (some ⟨w8.heap.size, 0, none⟩) m m] rfl rfl (one_cells _ _ _) (one_slice _ _ _) (by decide) (by unfold maxLen; omega) (by omega) hszn _ rfl (fun g6 cap wx hown hg hat hlt => ?_); have HG := Lib.hid (And.intro hown (And.intro hg (And.intro hat hlt))); have hgx := hg.cell (HSTB8.out hEn) (HNB8.out 0) ; have hgf := hg.frozen_far ⟨w.heap.size + 1, 6, none⟩ (HSTL8.out hEn) (HNB8.out 0)
          refine hK.out _ _ (Ext.grown hH hg (fun b hb => (HOWN8.out b hb).1)) (fun hH9 => ?_)
          clear hK; have hH0 := hH; clear hH; have hH := hH9; clear hH9
          try simp only [Act.put, List.setIfInBounds_toArray, List.set_cons_zero, List.set_cons_succ]
          refine wpAnyH_take_dst (i := 10) (v := .pointer (some ⟨w.heap.size + 1, 0, none⟩)) (d := some 47) rfl rfl (by kernel_rfl) (by kernel_rfl) (by kernel_rfl) (fun _ _ _ h => h) (Or.inl ⟨by rfl, ?_⟩) hH ?_
          · (intro w' hE'; (try dsimp only at hE'); skip; go_simp; try with_reducible rfl)
          try simp only [Act.put, List.setIfInBounds_toArray, List.set_cons_zero, List.set_cons_succ]
          refine wpAnyH_take_dst (i := 11) (v := .pointer (some ⟨w.heap.size + 1, 6, none⟩)) (d := some 48) rfl rfl (by kernel_rfl) (by kernel_rfl) (by kernel_rfl) (fun _ _ _ h => h) (Or.inl ⟨by rfl, ?_⟩) hH ?_
          · (intro w' hE'; (try dsimp only at hE'); skip; go_simp; try with_reducible rfl)
          try simp only [Act.put, List.setIfInBounds_toArray, List.set_cons_zero, List.set_cons_succ]
          refine wpAnyH_ready (rs := [12]) (by kernel_rfl) (by simp) ?_
          refine AllReadyH.cons rfl (fun K hK => ?_) AllReadyH.nil
          rw [if_pos (by rfl)]
          have hz13 := hgf.trans (HFZ8.out _ hEn); clear hgf; go_wp2_with fail
          refine hK.out _ _ (hH.set (p := ⟨w.heap.size + 1, 6, none⟩) (Nat.le_succ _) (.slice (some ⟨g6, 0, none⟩) (q + 1) cap)) (fun hH9 => ?_)
          clear hK; have hH0 := hH; clear hH; have hH := hH9; clear hH9
          try simp only [Act.put, List.setIfInBounds_toArray, List.set_cons_zero, List.set_cons_succ]
          refine wpAnyH_done (by kernel_rfl) ?_ _
          exact ⟨w9.heap.size, g6, cap, rfl, (HST8.out.ext hEn).pushW HG.out.1 HG.out.2.1 HG.out.2.2.1 HG.out.2.2.2 HST8.out.ex.size ((fin_row HMK.out.1).chg (ChgM.of_ext (Ext.alloc (Ext.refl _) _))) (fun i e => by obtain ⟨b, e1, _, hf⟩ := HST8.out.fW.1 i _ e; cases e1; exact absurd hf.lt (Nat.lt_irrefl _))⟩
        · rw [if_pos (by rfl)]
          refine wp_make_full (.tmp 43) (.tmp 43) 27 rfl w.heap.size 2 i0 (.int .i64 0) 1 Try.underlying27 h0i h0z h0s .i64 .i64 _ _ m rfl rfl rfl rfl (by rw [h0b]; omega) (by unfold maxLen; omega) hH.size (fun w9 hown9 hg9 => ?_); have HMK := Lib.hid (And.intro hown9 hg9); clear hown9
          refine hK.out _ _ (Ext.grown hH HMK.out.2 (fun b hb => by cases hb)) (fun hH9 => ?_)
          clear hK; have hH0 := hH; clear hH; have hH := hH9; clear hH9
          try simp only [Act.put, List.setIfInBounds_toArray, List.set_cons_zero, List.set_cons_succ]
          refine wpAnyH_ready (rs := [4, 8]) (by kernel_rfl) (by simp) ?_
          refine AllReadyH.cons rfl (fun K hK => ?_) (AllReadyH.cons rfl (fun K hK => ?_) (AllReadyH.nil))
          · rw [if_pos (by rfl)]
            have hk4 := Ext.keep (Ext.grown (Ext.refl _) HMK.out.2 (fun b hb => by cases hb)) (show w8.drew.cell? _ = _ from rc6); go_wp2_with fail
            refine hK.out _ _ (hH) (fun hH9 => ?_)
            clear hK; have hH0 := hH; clear hH; have hH := hH9; clear hH9
            try simp only [Act.put, List.setIfInBounds_toArray, List.set_cons_zero, List.set_cons_succ]
            refine wpAnyH_ready (rs := [8]) (by kernel_rfl) (by simp) ?_
            refine AllReadyH.cons rfl (fun K hK => ?_) AllReadyH.nil
            rw [if_pos (by rfl)]
            go_wp2_with fail
            refine hK.out _ _ (hH.alloc _) (fun hH9 => ?_)
            clear hK; have hH0 := hH; clear hH; have hH := hH9; clear hH9
            try simp only [Act.put, List.setIfInBounds_toArray, List.set_cons_zero, List.set_cons_succ]
            refine wpAnyH_ready (rs := [9]) (by kernel_rfl) (by simp) ?_
            refine AllReadyH.cons rfl (fun K hK => ?_) AllReadyH.nil
            rw [if_pos (by rfl)]
            have hEn : Ext w8 (w9.alloc (.cells #[.slice (some ⟨w8.heap.size, 0, none⟩) m m] 27)) := Ext.alloc (Ext.trans (Ext.drew (Ext.refl w8)) (Ext.grown (Ext.refl _) HMK.out.2 (fun b hb => by cases hb))) _; have hszn := hH.size; refine wp_append_lies _ (.tmp 41) (.tmp 45) 34 rfl w.heap.size 27 i2 (.slice none 0 0) 1 24 Try.underlying34 h2i h2z h2s h2b rfl (by decide) _ _ ws rfl (own_ext HST8.out.oW hEn) ⟨w9.heap.size, 0, none⟩ 1 1 [.slice (some ⟨w8.heap.size, 0, none⟩) m m] rfl rfl (one_cells _ _ _) (one_slice _ _ _) (by decide) (by unfold maxLen; omega) (by omega) hszn _ rfl (fun g6 cap wx hown hg hat hlt => ?_); have HG := Lib.hid (And.intro hown (And.intro hg (And.intro hat hlt))); have hgx := hg.cell (HSTB8.out hEn) (HNB8.out 0) ; have hgf := hg.frozen_far ⟨w.heap.size + 1, 6, none⟩ (HSTL8.out hEn) (HNB8.out 0)
            refine hK.out _ _ (Ext.grown hH hg (fun b hb => (HOWN8.out b hb).1)) (fun hH9 => ?_)
            clear hK; have hH0 := hH; clear hH; have hH := hH9; clear hH9
            try simp only [Act.put, List.setIfInBounds_toArray, List.set_cons_zero, List.set_cons_succ]
            refine wpAnyH_take_dst (i := 10) (v := .pointer (some ⟨w.heap.size + 1, 0, none⟩)) (d := some 47) rfl rfl (by kernel_rfl) (by kernel_rfl) (by kernel_rfl) (fun _ _ _ h => h) (Or.inl ⟨by rfl, ?_⟩) hH ?_
            · (intro w' hE'; (try dsimp only at hE'); skip; go_simp; try with_reducible rfl)
            try simp only [Act.put, List.setIfInBounds_toArray, List.set_cons_zero, List.set_cons_succ]
            refine wpAnyH_take_dst (i := 11) (v := .pointer (some ⟨w.heap.size + 1, 6, none⟩)) (d := some 48) rfl rfl (by kernel_rfl) (by kernel_rfl) (by kernel_rfl) (fun _ _ _ h => h) (Or.inl ⟨by rfl, ?_⟩) hH ?_
            · (intro w' hE'; (try dsimp only at hE'); skip; go_simp; try with_reducible rfl)
            try simp only [Act.put, List.setIfInBounds_toArray, List.set_cons_zero, List.set_cons_succ]
            refine wpAnyH_ready (rs := [12]) (by kernel_rfl) (by simp) ?_
            refine AllReadyH.cons rfl (fun K hK => ?_) AllReadyH.nil
            rw [if_pos (by rfl)]
            have hz13 := hgf.trans (HFZ8.out _ hEn); clear hgf; go_wp2_with fail
            refine hK.out _ _ (hH.set (p := ⟨w.heap.size + 1, 6, none⟩) (Nat.le_succ _) (.slice (some ⟨g6, 0, none⟩) (q + 1) cap)) (fun hH9 => ?_)
            clear hK; have hH0 := hH; clear hH; have hH := hH9; clear hH9
            try simp only [Act.put, List.setIfInBounds_toArray, List.set_cons_zero, List.set_cons_succ]
            refine wpAnyH_done (by kernel_rfl) ?_ _
            exact ⟨w9.heap.size, g6, cap, rfl, (HST8.out.ext hEn).pushW HG.out.1 HG.out.2.1 HG.out.2.2.1 HG.out.2.2.2 HST8.out.ex.size ((fin_row HMK.out.1).chg (ChgM.of_ext (Ext.alloc (Ext.refl _) _))) (fun i e => by obtain ⟨b, e1, _, hf⟩ := HST8.out.fW.1 i _ e; cases e1; exact absurd hf.lt (Nat.lt_irrefl _))⟩
          · rw [if_pos (by rfl)]
            go_wp2_with fail
            refine hK.out _ _ (hH.alloc _) (fun hH9 => ?_)
            clear hK; have hH0 := hH; clear hH; have hH := hH9; clear hH9
            try simp only [Act.put, List.setIfInBounds_toArray, List.set_cons_zero, List.set_cons_succ]
            refine wpAnyH_ready (rs := [4]) (by kernel_rfl) (by simp) ?_
            refine AllReadyH.cons rfl (fun K hK => ?_) AllReadyH.nil
            rw [if_pos (by rfl)]
            have hk4 := Ext.keep (Ext.alloc (Ext.grown (Ext.refl _) HMK.out.2 (fun b hb => by cases hb)) (.cells #[.slice (some ⟨w8.heap.size, 0, none⟩) m m] 27)) (show w8.drew.cell? _ = _ from rc6); go_wp2_with fail
            refine hK.out _ _ (hH) (fun hH9 => ?_)
            clear hK; have hH0 := hH; clear hH; have hH := hH9; clear hH9
            try simp only [Act.put, List.setIfInBounds_toArray, List.set_cons_zero, List.set_cons_succ]
            refine wpAnyH_ready (rs := [9]) (by kernel_rfl) (by simp) ?_
            refine AllReadyH.cons rfl (fun K hK => ?_) AllReadyH.nil
            rw [if_pos (by rfl)]
            have hEn : Ext w8 (w9.alloc (.cells #[.slice (some ⟨w8.heap.size, 0, none⟩) m m] 27)) := Ext.alloc (Ext.trans (Ext.drew (Ext.refl w8)) (Ext.grown (Ext.refl _) HMK.out.2 (fun b hb => by cases hb))) _; have hszn := hH.size; refine wp_append_lies _ (.tmp 41) (.tmp 45) 34 rfl w.heap.size 27 i2 (.slice none 0 0) 1 24 Try.underlying34 h2i h2z h2s h2b rfl (by decide) _ _ ws rfl (own_ext HST8.out.oW hEn) ⟨w9.heap.size, 0, none⟩ 1 1 [.slice (some ⟨w8.heap.size, 0, none⟩) m m] rfl rfl (one_cells _ _ _) (one_slice _ _ _) (by decide) (by unfold maxLen; omega) (by omega) hszn _ rfl (fun g6 cap wx hown hg hat hlt => ?_); have HG := Lib.hid (And.intro hown (And.intro hg (And.intro hat hlt))); have hgx := hg.cell (HSTB8.out hEn) (HNB8.out 0) ; have hgf := hg.frozen_far ⟨w.heap.size + 1, 6, none⟩ (HSTL8.out hEn) (HNB8.out 0)
            refine hK.out _ _ (Ext.grown hH hg (fun b hb => (HOWN8.out b hb).1)) (fun hH9 => ?_)
            clear hK; have hH0 := hH; clear hH; have hH := hH9; clear hH9
            try simp only [Act.put, List.setIfInBounds_toArray, List.set_cons_zero, List.set_cons_succ]
            refine wpAnyH_take_dst (i := 10) (v := .pointer (some ⟨w.heap.size + 1, 0, none⟩)) (d := some 47) rfl rfl (by kernel_rfl) (by kernel_rfl) (by kernel_rfl) (fun _ _ _ h => h) (Or.inl ⟨by rfl, ?_⟩) hH ?_
            · (intro w' hE'; (try dsimp only at hE'); skip; go_simp; try with_reducible rfl)
            try simp only [Act.put, List.setIfInBounds_toArray, List.set_cons_zero, List.set_cons_succ]
            refine wpAnyH_take_dst (i := 11) (v := .pointer (some ⟨w.heap.size + 1, 6, none⟩)) (d := some 48) rfl rfl (by kernel_rfl) (by kernel_rfl) (by kernel_rfl) (fun _ _ _ h => h) (Or.inl ⟨by rfl, ?_⟩) hH ?_
            · (intro w' hE'; (try dsimp only at hE'); skip; go_simp; try with_reducible rfl)
            try simp only [Act.put, List.setIfInBounds_toArray, List.set_cons_zero, List.set_cons_succ]
            refine wpAnyH_ready (rs := [12]) (by kernel_rfl) (by simp) ?_
            refine AllReadyH.cons rfl (fun K hK => ?_) AllReadyH.nil
            rw [if_pos (by rfl)]
            have hz13 := hgf.trans (HFZ8.out _ hEn); clear hgf; go_wp2_with fail
            refine hK.out _ _ (hH.set (p := ⟨w.heap.size + 1, 6, none⟩) (Nat.le_succ _) (.slice (some ⟨g6, 0, none⟩) (q + 1) cap)) (fun hH9 => ?_)
            clear hK; have hH0 := hH; clear hH; have hH := hH9; clear hH9
            try simp only [Act.put, List.setIfInBounds_toArray, List.set_cons_zero, List.set_cons_succ]
            refine wpAnyH_done (by kernel_rfl) ?_ _
            exact ⟨w9.heap.size, g6, cap, rfl, (HST8.out.ext hEn).pushW HG.out.1 HG.out.2.1 HG.out.2.2.1 HG.out.2.2.2 HST8.out.ex.size ((fin_row HMK.out.1).chg (ChgM.of_ext (Ext.alloc (Ext.refl _) _))) (fun i e => by obtain ⟨b, e1, _, hf⟩ := HST8.out.fW.1 i _ e; cases e1; exact absurd hf.lt (Nat.lt_irrefl _))⟩
      obtain ⟨q8, g7, cap7, ha, hM9⟩ := hR
      simp only [Act.put, List.setIfInBounds_toArray, List.set_cons_zero, List.set_cons_succ] at ha
      subst ha
      have HST9 := Lib.hid hM9
      clear hM9
      go_wp2
      go_roundw
      case rel => exact ⟨q + 1, by go_num, by omega, Lib.hid ⟨_, _, _, _, _, _, HST9.out⟩⟩
      case measure => simp only [intOf]; omega
    · have hqk : q = k := by omega
      subst hqk
      go_wp2_with fail
      go_loopw [11] (fun iv wr => ∃ p : Nat, iv = .int .i64 p ∧ p ≤ m ∧ Hid (∃ At ct us, MkSt w wr (w.heap.size + 1) (.slice (some ⟨ab, ao, none⟩) n c) (.slice (some ⟨rb, ro, none⟩) n rc) (.slice (some ⟨sb, so, none⟩) q l) (.slice (some ⟨tb, tq, none⟩) m d) ar s t m q p q As cs At ct Aw cw vs us ws)) (fun iv _ => m - (intOf iv).toNat)
      case atStart => exact ⟨0, rfl, Nat.zero_le _, Lib.hid ⟨_, _, _, HST.out⟩⟩
      clear rg0 hEr hszr HST
      case round =>
        obtain ⟨p, rfl, hp, hM⟩ := hrel
        obtain ⟨At, ct, us, hst⟩ := hM.out
        clear hM
        have HST := Lib.hid hst
        have hEr := hst.ex
        have rg0 : wr.cell? ⟨w.heap.size, 0, none⟩ = some (.slice (some ⟨ab, ao, none⟩) n c) := by rw [cell_of_row wr _ _ _ _ (0, 0) hst.sg]; rfl
        have hszr := hEr.size
        clear hst
        by_cases hlt : p < m
        · have hqk : (p : Int) < (m : Int) := by omega
          have hq0 : (0 : Int) ≤ (p : Int) := by omega
          obtain ⟨⟨x, xs⟩, hsub⟩ : ∃ u, subT ar t p = u := ⟨_, rfl⟩
          obtain ⟨hu, rest, hud⟩ := subT_ok HTT.out (show p < t.length by rw [HB.out.len]; exact hlt)
          rw [hsub] at hu hud
          have HU := Lib.hid hu
          have HUD := Lib.hid hud
          have HSUB := Lib.hid (show (subT ar t p).as = xs by rw [hsub]; rfl)
          have HOWN := Lib.hid HST.out.own.2.1
          have rc4 : wr.cell? ⟨w.heap.size + 1, 5, none⟩ = some (.slice At p ct) := by rw [cell_of_row wr _ _ _ _ (0, 0) HST.out.bx]; rfl
          have HSTB : Hid (∀ {W : World}, Ext wr W → W.cell? ⟨w.heap.size + 1, 5, none⟩ = some (.slice At p ct)) := Lib.hid (fun hE => Ext.keep hE rc4)
          have HSTL : Hid (∀ {W : World}, Ext wr W → w.heap.size + 1 < W.heap.size) := Lib.hid (fun hE => Nat.lt_of_lt_of_le HST.out.glt hE.size)
          have HFZ : Hid (∀ (W : World), Ext wr W → W.frozen? ⟨w.heap.size + 1, 5, none⟩ = false) := Lib.hid (fun W hE => frozen_of_row W _ _ _ _ (HST.out.ext hE).bx)
          have HNB : Hid (∀ x : Nat, some (w.heap.size + 1) ≠ (Value.slice At p ct).ownBlock) := Lib.hid (fun _ e => (HOWN.out _ e.symm).2.2 rfl)
          clear hsub hu hud
          go_wp2_with fail
          refine wp_only (R := fun (a0 : Act) (a8 : Act) (w9 : World) => ∃ (A8 : Option Addr) (c8 q8 g6 cap : Nat), a8 = (((((((((((((a0.put (some 55) (.pointer (some ⟨w.heap.size + 1, 0, none⟩))).put (some 56) (.pointer (some ⟨w.heap.size + 1, 0, none⟩))).put (some 57) (.pointer (some ⟨w.heap.size + 1, 0, none⟩))).put (some 58) (.pointer (some ⟨w.heap.size + 1, 5, none⟩))).put (some 59) (.slice At p ct)).put (some 60) (.agg #[.slice (some ⟨ab, ao, none⟩) n c])).put (some 61) (.slice (some ⟨tb, tq, none⟩) m d)).put (some 62) (.int .i64 (p : Int))).put (some 63) (.slice A8 xs.length c8)).put (some 64) (.slice (some ⟨q8, 0, none⟩) 1 1)).put (some 65) (.slice (some ⟨g6, 0, none⟩) (p + 1) cap)).put (some 66) (.pointer (some ⟨w.heap.size + 1, 0, none⟩))).put (some 67) (.pointer (some ⟨w.heap.size + 1, 5, none⟩))) ∧ MkSt w w9 (w.heap.size + 1) (.slice (some ⟨ab, ao, none⟩) n c) (.slice (some ⟨rb, ro, none⟩) n rc) (.slice (some ⟨sb, so, none⟩) q l) (.slice (some ⟨tb, tq, none⟩) m d) ar s t m q (p + 1) q As cs (some ⟨g6, 0, none⟩) cap Aw cw vs (us ++ [.slice A8 (subT ar t p).as.length c8]) ws) ?_ (fun a8 w8 hR => ?_)
          · refine wp_region_held_drew (S := (fun w' => Ext w w' ∧ w'.cell? ⟨w.heap.size, 0, none⟩ = some (.slice (some ⟨ab, ao, none⟩) n c))) (by kernel_rfl) (⟨Ext.drew hEr, rg0⟩) (fun hH => ?_)
            refine wpAnyH_take_dst (i := 0) (v := .pointer (some ⟨w.heap.size + 1, 0, none⟩)) (d := some 55) rfl rfl (by kernel_rfl) (by kernel_rfl) (by kernel_rfl) (fun _ _ _ h => h) (Or.inl ⟨by rfl, ?_⟩) hH ?_
            · (intro w' hE'; (try dsimp only at hE'); obtain ⟨hE0, hcg⟩ := hE'; go_simp; try with_reducible rfl)
            try simp only [Act.put, List.setIfInBounds_toArray, List.set_cons_zero, List.set_cons_succ]
            refine wpAnyH_take_dst (i := 1) (v := .pointer (some ⟨w.heap.size + 1, 0, none⟩)) (d := some 56) rfl rfl (by kernel_rfl) (by kernel_rfl) (by kernel_rfl) (fun _ _ _ h => h) (Or.inl ⟨by rfl, ?_⟩) hH ?_
            · (intro w' hE'; (try dsimp only at hE'); obtain ⟨hE0, hcg⟩ := hE'; go_simp; try with_reducible rfl)
            try simp only [Act.put, List.setIfInBounds_toArray, List.set_cons_zero, List.set_cons_succ]
            refine wpAnyH_take_dst (i := 2) (v := .pointer (some ⟨w.heap.size + 1, 0, none⟩)) (d := some 57) rfl rfl (by kernel_rfl) (by kernel_rfl) (by kernel_rfl) (fun _ _ _ h => h) (Or.inl ⟨by rfl, ?_⟩) hH ?_
            · (intro w' hE'; (try dsimp only at hE'); obtain ⟨hE0, hcg⟩ := hE'; go_simp; try with_reducible rfl)
            try simp only [Act.put, List.setIfInBounds_toArray, List.set_cons_zero, List.set_cons_succ]
            refine wpAnyH_take_dst (i := 3) (v := .pointer (some ⟨w.heap.size + 1, 5, none⟩)) (d := some 58) rfl rfl (by kernel_rfl) (by kernel_rfl) (by kernel_rfl) (fun _ _ _ h => h) (Or.inl ⟨by rfl, ?_⟩) hH ?_
            · (intro w' hE'; (try dsimp only at hE'); obtain ⟨hE0, hcg⟩ := hE'; go_simp; try with_reducible rfl)
            try simp only [Act.put, List.setIfInBounds_toArray, List.set_cons_zero, List.set_cons_succ]
            refine wpAnyH_take_dst (i := 5) (v := .agg #[.slice (some ⟨ab, ao, none⟩) n c]) (d := some 60) rfl rfl (by kernel_rfl) (by kernel_rfl) (by kernel_rfl) (fun _ _ _ h => h) (Or.inl ⟨by rfl, ?_⟩) hH ?_
            · (intro w' hE'; (try dsimp only at hE'); obtain ⟨hE0, hcg⟩ := hE'; go_simp; try with_reducible rfl)
            try simp only [Act.put, List.setIfInBounds_toArray, List.set_cons_zero, List.set_cons_succ]
            refine wpAnyH_take_dst (i := 6) (v := .slice (some ⟨tb, tq, none⟩) m d) (d := some 61) rfl rfl (by kernel_rfl) (by kernel_rfl) (by kernel_rfl) (fun _ _ _ h => h) (Or.inl ⟨by rfl, ?_⟩) hH ?_
            · (intro w' hE'; (try dsimp only at hE'); obtain ⟨hE0, hcg⟩ := hE'; go_simp; try with_reducible rfl)
            try simp only [Act.put, List.setIfInBounds_toArray, List.set_cons_zero, List.set_cons_succ]
            refine wpAnyH_take_dst (i := 7) (v := .int .i64 (p : Int)) (d := some 62) rfl rfl (by kernel_rfl) (by kernel_rfl) (by kernel_rfl) (fun _ _ _ h => h) (Or.inl ⟨by rfl, ?_⟩) hH ?_
            · (intro w' hE'; (try dsimp only at hE'); obtain ⟨hE0, hcg⟩ := hE'; go_simp; try with_reducible rfl)
            try simp only [Act.put, List.setIfInBounds_toArray, List.set_cons_zero, List.set_cons_succ]
            refine wpAnyH_ready (rs := [4, 8]) (by kernel_rfl) (by simp) ?_
            refine AllReadyH.cons rfl (fun K hK => ?_) (AllReadyH.cons rfl (fun K hK => ?_) (AllReadyH.nil))
            · rw [if_pos (by rfl)]
              go_wp2_with fail
              refine hK.out _ _ (⟨hH.1, hH.2⟩) (fun hH9 => ?_)
              clear hK; have hH0 := hH; clear hH; have hH := hH9; clear hH9
              try simp only [Act.put, List.setIfInBounds_toArray, List.set_cons_zero, List.set_cons_succ]
              refine wpAnyH_ready (rs := [8]) (by kernel_rfl) (by simp) ?_
              refine AllReadyH.cons rfl (fun K hK => ?_) AllReadyH.nil
              rw [if_pos (by rfl)]
              go_wp2_with fail
              (with_reducible refine (c_l13Args (RdSig.mk (RI.ext HA.out hH.1)) (RdI.mk (RI.ext HB.out hH.1)) HSG.out HU.out HUD.out).mono ?_)
              rintro e w9 ⟨A8, c8, rfl, hO8, hE9⟩
              refine hK.out _ _ (⟨Ext.trans hH.1 hE9, Ext.keep hE9 hH.2⟩) (fun hH9 => ?_)
              clear hK; have hH0 := hH; clear hH; have hH := hH9; clear hH9
              try simp only [Act.put, List.setIfInBounds_toArray, List.set_cons_zero, List.set_cons_succ]
              refine wpAnyH_ready (rs := [9]) (by kernel_rfl) (by simp) ?_
              refine AllReadyH.cons rfl (fun K hK => ?_) AllReadyH.nil
              rw [if_pos (by rfl)]
              go_wp2_with fail
              refine hK.out _ _ (⟨hH.1.alloc _, Ext.keep (Ext.alloc (Ext.refl _) _) hH.2⟩) (fun hH9 => ?_)
              clear hK; have hH0 := hH; clear hH; have hH := hH9; clear hH9
              try simp only [Act.put, List.setIfInBounds_toArray, List.set_cons_zero, List.set_cons_succ]
              refine wpAnyH_ready (rs := [10]) (by kernel_rfl) (by simp) ?_
              refine AllReadyH.cons rfl (fun K hK => ?_) AllReadyH.nil
              rw [if_pos (by rfl)]
              have hEn : Ext wr (w9.alloc (.cells #[.slice A8 xs.length c8] 153)) := Ext.alloc (Ext.trans (Ext.drew (Ext.refl wr)) hE9) _; have hszn := hH.1.size; refine wp_append_lies _ (.tmp 59) (.tmp 64) 139 rfl w.heap.size 153 i1 (.slice none 0 0) 1 24 Try.underlying139 h1i h1z h1s h1b rfl (by decide) _ _ us rfl (own_ext HST.out.oT hEn) ⟨w9.heap.size, 0, none⟩ 1 1 [.slice A8 xs.length c8] rfl rfl (one_cells _ _ _) (one_slice _ _ _) (by decide) (by unfold maxLen; omega) (by omega) hszn _ rfl (fun g6 cap wx hown hg hat hlt => ?_); have HG := Lib.hid (And.intro hown (And.intro hg (And.intro hat hlt))); have hgx := hg.cell (HSTB.out hEn) (HNB.out 0) ; have hgf := hg.frozen_far ⟨w.heap.size + 1, 5, none⟩ (HSTL.out hEn) (HNB.out 0)
              refine hK.out _ _ (⟨Ext.grown hH.1 hg (fun b hb => (HOWN.out b hb).1), hg.cell hH.2 (fun e => (HOWN.out _ e.symm).2.1 rfl)⟩) (fun hH9 => ?_)
              clear hK; have hH0 := hH; clear hH; have hH := hH9; clear hH9
              try simp only [Act.put, List.setIfInBounds_toArray, List.set_cons_zero, List.set_cons_succ]
              refine wpAnyH_take_dst (i := 11) (v := .pointer (some ⟨w.heap.size + 1, 0, none⟩)) (d := some 66) rfl rfl (by kernel_rfl) (by kernel_rfl) (by kernel_rfl) (fun _ _ _ h => h) (Or.inl ⟨by rfl, ?_⟩) hH ?_
              · (intro w' hE'; (try dsimp only at hE'); obtain ⟨hE0, hcg⟩ := hE'; go_simp; try with_reducible rfl)
              try simp only [Act.put, List.setIfInBounds_toArray, List.set_cons_zero, List.set_cons_succ]
              refine wpAnyH_take_dst (i := 12) (v := .pointer (some ⟨w.heap.size + 1, 5, none⟩)) (d := some 67) rfl rfl (by kernel_rfl) (by kernel_rfl) (by kernel_rfl) (fun _ _ _ h => h) (Or.inl ⟨by rfl, ?_⟩) hH ?_
              · (intro w' hE'; (try dsimp only at hE'); obtain ⟨hE0, hcg⟩ := hE'; go_simp; try with_reducible rfl)
              try simp only [Act.put, List.setIfInBounds_toArray, List.set_cons_zero, List.set_cons_succ]
              refine wpAnyH_ready (rs := [13]) (by kernel_rfl) (by simp) ?_
              refine AllReadyH.cons rfl (fun K hK => ?_) AllReadyH.nil
              rw [if_pos (by rfl)]
              have hz13 := hgf.trans (HFZ.out _ hEn); clear hgf; go_wp2_with fail
              refine hK.out _ _ (⟨hH.1.set (p := ⟨w.heap.size + 1, 5, none⟩) (Nat.le_succ _) (.slice (some ⟨g6, 0, none⟩) (p + 1) cap), (show (wx.setCell ⟨w.heap.size + 1, 5, none⟩ (.slice (some ⟨g6, 0, none⟩) (p + 1) cap)).cell? ⟨w.heap.size, 0, none⟩ = _ from by rw [World.cell?_setCell_other _ _ _ _ (by first | (simp; done) | (simp; omega))]; exact hH.2)⟩) (fun hH9 => ?_)
              clear hK; have hH0 := hH; clear hH; have hH := hH9; clear hH9
              try simp only [Act.put, List.setIfInBounds_toArray, List.set_cons_zero, List.set_cons_succ]
              refine wpAnyH_done (by kernel_rfl) ?_ _
              exact ⟨A8, c8, w9.heap.size, g6, cap, rfl, (HST.out.ext hEn).pushT (by rw [HSUB.out]; exact HG.out.1) HG.out.2.1 HG.out.2.2.1 HG.out.2.2.2 (by rw [HSUB.out]; exact (hO8.fin).chg (ChgM.of_ext (Ext.alloc (Ext.refl _) _)))⟩
            · rw [if_pos (by rfl)]
              go_wp2_with fail
              (with_reducible refine (c_l13Args (RdSig.mk (RI.ext HA.out hH.1)) (RdI.mk (RI.ext HB.out hH.1)) HSG.out HU.out HUD.out).mono ?_)
              rintro e w9 ⟨A8, c8, rfl, hO8, hE9⟩
              refine hK.out _ _ (⟨Ext.trans hH.1 hE9, Ext.keep hE9 hH.2⟩) (fun hH9 => ?_)
              clear hK; have hH0 := hH; clear hH; have hH := hH9; clear hH9
              try simp only [Act.put, List.setIfInBounds_toArray, List.set_cons_zero, List.set_cons_succ]
              refine wpAnyH_ready (rs := [4, 9]) (by kernel_rfl) (by simp) ?_
              refine AllReadyH.cons rfl (fun K hK => ?_) (AllReadyH.cons rfl (fun K hK => ?_) (AllReadyH.nil))
              · rw [if_pos (by rfl)]
                have hk4 := Ext.keep hE9 (show wr.drew.cell? _ = _ from rc4); go_wp2_with fail
                refine hK.out _ _ (⟨hH.1, hH.2⟩) (fun hH9 => ?_)
                clear hK; have hH0 := hH; clear hH; have hH := hH9; clear hH9
                try simp only [Act.put, List.setIfInBounds_toArray, List.set_cons_zero, List.set_cons_succ]
                refine wpAnyH_ready (rs := [9]) (by kernel_rfl) (by simp) ?_
                refine AllReadyH.cons rfl (fun K hK => ?_) AllReadyH.nil
                rw [if_pos (by rfl)]
                go_wp2_with fail
                refine hK.out _ _ (⟨hH.1.alloc _, Ext.keep (Ext.alloc (Ext.refl _) _) hH.2⟩) (fun hH9 => ?_)
                clear hK; have hH0 := hH; clear hH; have hH := hH9; clear hH9
                try simp only [Act.put, List.setIfInBounds_toArray, List.set_cons_zero, List.set_cons_succ]
                refine wpAnyH_ready (rs := [10]) (by kernel_rfl) (by simp) ?_
                refine AllReadyH.cons rfl (fun K hK => ?_) AllReadyH.nil
                rw [if_pos (by rfl)]
                have hEn : Ext wr (w9.alloc (.cells #[.slice A8 xs.length c8] 153)) := Ext.alloc (Ext.trans (Ext.drew (Ext.refl wr)) hE9) _; have hszn := hH.1.size; refine wp_append_lies _ (.tmp 59) (.tmp 64) 139 rfl w.heap.size 153 i1 (.slice none 0 0) 1 24 Try.underlying139 h1i h1z h1s h1b rfl (by decide) _ _ us rfl (own_ext HST.out.oT hEn) ⟨w9.heap.size, 0, none⟩ 1 1 [.slice A8 xs.length c8] rfl rfl (one_cells _ _ _) (one_slice _ _ _) (by decide) (by unfold maxLen; omega) (by omega) hszn _ rfl (fun g6 cap wx hown hg hat hlt => ?_); have HG := Lib.hid (And.intro hown (And.intro hg (And.intro hat hlt))); have hgx := hg.cell (HSTB.out hEn) (HNB.out 0) ; have hgf := hg.frozen_far ⟨w.heap.size + 1, 5, none⟩ (HSTL.out hEn) (HNB.out 0)
                refine hK.out _ _ (⟨Ext.grown hH.1 hg (fun b hb => (HOWN.out b hb).1), hg.cell hH.2 (fun e => (HOWN.out _ e.symm).2.1 rfl)⟩) (fun hH9 => ?_)
                clear hK; have hH0 := hH; clear hH; have hH := hH9; clear hH9
                try simp only [Act.put, List.setIfInBounds_toArray, List.set_cons_zero, List.set_cons_succ]
                refine wpAnyH_take_dst (i := 11) (v := .pointer (some ⟨w.heap.size + 1, 0, none⟩)) (d := some 66) rfl rfl (by kernel_rfl) (by kernel_rfl) (by kernel_rfl) (fun _ _ _ h => h) (Or.inl ⟨by rfl, ?_⟩) hH ?_
                · (intro w' hE'; (try dsimp only at hE'); obtain ⟨hE0, hcg⟩ := hE'; go_simp; try with_reducible rfl)
                try simp only [Act.put, List.setIfInBounds_toArray, List.set_cons_zero, List.set_cons_succ]
                refine wpAnyH_take_dst (i := 12) (v := .pointer (some ⟨w.heap.size + 1, 5, none⟩)) (d := some 67) rfl rfl (by kernel_rfl) (by kernel_rfl) (by kernel_rfl) (fun _ _ _ h => h) (Or.inl ⟨by rfl, ?_⟩) hH ?_
                · (intro w' hE'; (try dsimp only at hE'); obtain ⟨hE0, hcg⟩ := hE'; go_simp; try with_reducible rfl)
                try simp only [Act.put, List.setIfInBounds_toArray, List.set_cons_zero, List.set_cons_succ]
                refine wpAnyH_ready (rs := [13]) (by kernel_rfl) (by simp) ?_
                refine AllReadyH.cons rfl (fun K hK => ?_) AllReadyH.nil
                rw [if_pos (by rfl)]
                have hz13 := hgf.trans (HFZ.out _ hEn); clear hgf; go_wp2_with fail
                refine hK.out _ _ (⟨hH.1.set (p := ⟨w.heap.size + 1, 5, none⟩) (Nat.le_succ _) (.slice (some ⟨g6, 0, none⟩) (p + 1) cap), (show (wx.setCell ⟨w.heap.size + 1, 5, none⟩ (.slice (some ⟨g6, 0, none⟩) (p + 1) cap)).cell? ⟨w.heap.size, 0, none⟩ = _ from by rw [World.cell?_setCell_other _ _ _ _ (by first | (simp; done) | (simp; omega))]; exact hH.2)⟩) (fun hH9 => ?_)
                clear hK; have hH0 := hH; clear hH; have hH := hH9; clear hH9
                try simp only [Act.put, List.setIfInBounds_toArray, List.set_cons_zero, List.set_cons_succ]
                refine wpAnyH_done (by kernel_rfl) ?_ _
                exact ⟨A8, c8, w9.heap.size, g6, cap, rfl, (HST.out.ext hEn).pushT (by rw [HSUB.out]; exact HG.out.1) HG.out.2.1 HG.out.2.2.1 HG.out.2.2.2 (by rw [HSUB.out]; exact (hO8.fin).chg (ChgM.of_ext (Ext.alloc (Ext.refl _) _)))⟩
              · rw [if_pos (by rfl)]
                go_wp2_with fail
                refine hK.out _ _ (⟨hH.1.alloc _, Ext.keep (Ext.alloc (Ext.refl _) _) hH.2⟩) (fun hH9 => ?_)
                clear hK; have hH0 := hH; clear hH; have hH := hH9; clear hH9
                try simp only [Act.put, List.setIfInBounds_toArray, List.set_cons_zero, List.set_cons_succ]
                refine wpAnyH_ready (rs := [4]) (by kernel_rfl) (by simp) ?_
                refine AllReadyH.cons rfl (fun K hK => ?_) AllReadyH.nil
                rw [if_pos (by rfl)]
                have hk4 := Ext.keep (Ext.alloc hE9 (.cells #[.slice A8 xs.length c8] 153)) (show wr.drew.cell? _ = _ from rc4); go_wp2_with fail
                refine hK.out _ _ (⟨hH.1, hH.2⟩) (fun hH9 => ?_)
                clear hK; have hH0 := hH; clear hH; have hH := hH9; clear hH9
                try simp only [Act.put, List.setIfInBounds_toArray, List.set_cons_zero, List.set_cons_succ]
                refine wpAnyH_ready (rs := [10]) (by kernel_rfl) (by simp) ?_
                refine AllReadyH.cons rfl (fun K hK => ?_) AllReadyH.nil
                rw [if_pos (by rfl)]
                have hEn : Ext wr (w9.alloc (.cells #[.slice A8 xs.length c8] 153)) := Ext.alloc (Ext.trans (Ext.drew (Ext.refl wr)) hE9) _; have hszn := hH.1.size; refine wp_append_lies _ (.tmp 59) (.tmp 64) 139 rfl w.heap.size 153 i1 (.slice none 0 0) 1 24 Try.underlying139 h1i h1z h1s h1b rfl (by decide) _ _ us rfl (own_ext HST.out.oT hEn) ⟨w9.heap.size, 0, none⟩ 1 1 [.slice A8 xs.length c8] rfl rfl (one_cells _ _ _) (one_slice _ _ _) (by decide) (by unfold maxLen; omega) (by omega) hszn _ rfl (fun g6 cap wx hown hg hat hlt => ?_); have HG := Lib.hid (And.intro hown (And.intro hg (And.intro hat hlt))); have hgx := hg.cell (HSTB.out hEn) (HNB.out 0) ; have hgf := hg.frozen_far ⟨w.heap.size + 1, 5, none⟩ (HSTL.out hEn) (HNB.out 0)
                refine hK.out _ _ (⟨Ext.grown hH.1 hg (fun b hb => (HOWN.out b hb).1), hg.cell hH.2 (fun e => (HOWN.out _ e.symm).2.1 rfl)⟩) (fun hH9 => ?_)
                clear hK; have hH0 := hH; clear hH; have hH := hH9; clear hH9
                try simp only [Act.put, List.setIfInBounds_toArray, List.set_cons_zero, List.set_cons_succ]
                refine wpAnyH_take_dst (i := 11) (v := .pointer (some ⟨w.heap.size + 1, 0, none⟩)) (d := some 66) rfl rfl (by kernel_rfl) (by kernel_rfl) (by kernel_rfl) (fun _ _ _ h => h) (Or.inl ⟨by rfl, ?_⟩) hH ?_
                · (intro w' hE'; (try dsimp only at hE'); obtain ⟨hE0, hcg⟩ := hE'; go_simp; try with_reducible rfl)
                try simp only [Act.put, List.setIfInBounds_toArray, List.set_cons_zero, List.set_cons_succ]
                refine wpAnyH_take_dst (i := 12) (v := .pointer (some ⟨w.heap.size + 1, 5, none⟩)) (d := some 67) rfl rfl (by kernel_rfl) (by kernel_rfl) (by kernel_rfl) (fun _ _ _ h => h) (Or.inl ⟨by rfl, ?_⟩) hH ?_
                · (intro w' hE'; (try dsimp only at hE'); obtain ⟨hE0, hcg⟩ := hE'; go_simp; try with_reducible rfl)
                try simp only [Act.put, List.setIfInBounds_toArray, List.set_cons_zero, List.set_cons_succ]
                refine wpAnyH_ready (rs := [13]) (by kernel_rfl) (by simp) ?_
                refine AllReadyH.cons rfl (fun K hK => ?_) AllReadyH.nil
                rw [if_pos (by rfl)]
                have hz13 := hgf.trans (HFZ.out _ hEn); clear hgf; go_wp2_with fail
                refine hK.out _ _ (⟨hH.1.set (p := ⟨w.heap.size + 1, 5, none⟩) (Nat.le_succ _) (.slice (some ⟨g6, 0, none⟩) (p + 1) cap), (show (wx.setCell ⟨w.heap.size + 1, 5, none⟩ (.slice (some ⟨g6, 0, none⟩) (p + 1) cap)).cell? ⟨w.heap.size, 0, none⟩ = _ from by rw [World.cell?_setCell_other _ _ _ _ (by first | (simp; done) | (simp; omega))]; exact hH.2)⟩) (fun hH9 => ?_)
                clear hK; have hH0 := hH; clear hH; have hH := hH9; clear hH9
                try simp only [Act.put, List.setIfInBounds_toArray, List.set_cons_zero, List.set_cons_succ]
                refine wpAnyH_done (by kernel_rfl) ?_ _
                exact ⟨A8, c8, w9.heap.size, g6, cap, rfl, (HST.out.ext hEn).pushT (by rw [HSUB.out]; exact HG.out.1) HG.out.2.1 HG.out.2.2.1 HG.out.2.2.2 (by rw [HSUB.out]; exact (hO8.fin).chg (ChgM.of_ext (Ext.alloc (Ext.refl _) _)))⟩
          obtain ⟨A8, c8, q8, g6, cap, ha, hM8⟩ := hR
          simp only [Act.put, List.setIfInBounds_toArray, List.set_cons_zero, List.set_cons_succ] at ha
          subst ha
          have HST8 := Lib.hid hM8
          clear hM8 rc4 rg0
          go_wp2
          go_roundw
          case rel => exact ⟨p + 1, by go_num, by omega, Lib.hid ⟨_, _, _, HST8.out⟩⟩
          case measure => simp only [intOf]; omega
        · have hpm : p = m := by omega
          subst hpm
          obtain ⟨Y, e1, h1, h2, h3, h4⟩ := HST.out.made HSG.out HP0.out.1 HTT.out HTS.out HA.out HR.out HB.out HD.out HP0.out.2.1 HP0.out.2.2 hab hrb htb hsb
          have HF := Lib.hid (And.intro e1 (And.intro h1 (And.intro h2 (And.intro h3 h4))))
          clear e1 h1 h2 h3 h4
          go_wp2
          go_ret
          exact ⟨Y, by show Ending.returned (.pointer (some ⟨w.heap.size + 1, 0, none⟩)) = _; rw [HF.out.1], HF.out.2.1, HF.out.2.2.1, HF.out.2.2.2.1, HF.out.2.2.2.2, hEr⟩

/-! The reference's path orders: the table is filled. -/
def putV (V : Nat → Nat → Int) (i j : Nat) (v : Int) : Nat → Nat → Int := fun a b => if a = i ∧ b = j then v else V a b
theorem RI.farS {w w' : World} {b o n : Nat} {xs : List Int} (h : RI w (some ⟨b, o, none⟩) n xs) (hk : w'.heap[b]? = w.heap[b]?) : RI w' (some ⟨b, o, none⟩) n xs :=
  ⟨h.1, fun hn => by
    obtain ⟨b', o', e, hc⟩ := h.2 hn
    cases e
    exact ⟨b, o, rfl, fun j x hx => (World.cell?_of_block hk).trans (hc j x hx)⟩⟩
/-- One more place of the table is told. -/
theorem SC.H.put {Y : SC} {w : World} {V : Nat → Nat → Int} (h : Y.H w V) {i j : Nat} (hi : i < Y.k) (v : Int) : Y.H (w.setCell ⟨Y.row i, j, none⟩ (.int .i64 v)) (putV V i j v) := by
  obtain ⟨f1, f2, f3, f4, f5, f6, f7, f8⟩ := h.far i hi
  have hs : ∀ b, b ≠ Y.row i → (w.setCell ⟨Y.row i, j, none⟩ (.int .i64 v)).heap[b]? = w.heap[b]? := fun b hb => Below.heap_setCell _ _ _ _ hb
  have hc : ∀ {b o u}, b ≠ Y.row i → w.cell? ⟨b, o, none⟩ = some u → (w.setCell ⟨Y.row i, j, none⟩ (.int .i64 v)).cell? ⟨b, o, none⟩ = some u := fun hb e => (World.cell?_of_block (hs _ hb)).trans e
  have hargs : ∀ {ar t : List Int} {pa : Nat}, pa ≠ Y.row i → ArgsIn w ar t pa Y.row Y.k → ArgsIn (w.setCell ⟨Y.row i, j, none⟩ (.int .i64 v)) ar t pa Y.row Y.k := fun hp ha q hq => by
    obtain ⟨A, c, h1, h2, h3⟩ := ha q hq
    refine ⟨A, c, hc hp h1, ⟨h2.1, fun hn => ?_⟩, h3⟩
    obtain ⟨b, o, e, h4⟩ := h2.2 hn
    exact ⟨b, o, e, fun r x hx => hc (h3 b o none e i hi) (h4 r x hx)⟩
  refine ⟨h.a.farS (hs _ (Ne.symm f1)), h.r.farS (hs _ (Ne.symm f2)), h.s.farS (hs _ (Ne.symm f3)), h.t.farS (hs _ (Ne.symm f4)), hc (Ne.symm f5) h.c0, hc (Ne.symm f5) h.c1, hc (Ne.symm f5) h.c2, hc (Ne.symm f5) h.c3, hc (Ne.symm f5) h.c4, hc (Ne.symm f5) h.c5, hc (Ne.symm f5) h.c6, hargs (Ne.symm f6) h.sa, hargs (Ne.symm f7) h.ta, fun a ha => hc (Ne.symm f8) (h.wy a ha), fun a b ha hb => ?_, fun a b ha => by rw [World.frozen?_setCell]; exact h.fr a b ha, fun a ha => by simpa [World.setCell] using h.lt a ha, h.one, h.far⟩
  unfold putV
  by_cases e : a = i ∧ b = j
  · obtain ⟨rfl, rfl⟩ := e
    rw [if_pos ⟨rfl, rfl⟩]
    exact World.cell?_setCell_same _ _ _ (h.v a b ha hb)
  · rw [if_neg e]
    by_cases e2 : a = i
    · subst e2
      rw [World.cell?_setCell_other _ _ _ _ (by first | (simp; done) | (simp; omega) | (simp; intro e3; exact absurd ⟨rfl, e3⟩ e) | (simp; intro e3; exact absurd ⟨rfl, e3.symm⟩ e))]
      exact h.v a b ha hb
    · exact hc (fun e3 => e2 (h.one a i ha hi e3)) (h.v a b ha hb)
/-- The table tells what is behind a place: all places with a greater j, and with the same j a greater or the same i. -/
def Filled (Y : SC) (F : Tm → Tm → Nat) (V : Nat → Nat → Int) (i j : Nat) : Prop := ∀ a b, a < Y.s.length → b < Y.t.length → (j < b ∨ (b = j ∧ i ≤ a)) → V a b = (F (subT Y.ar Y.t b) (subT Y.ar Y.s a) : Int)
theorem Filled.step {Y : SC} {F : Tm → Tm → Nat} {V : Nat → Nat → Int} {i j : Nat} (h : Filled Y F V (i + 1) j) (v : Int) (hv : v = (F (subT Y.ar Y.t j) (subT Y.ar Y.s i) : Int)) : Filled Y F (putV V i j v) i j := by
  intro a b ha hb hab
  unfold putV
  by_cases e : a = i ∧ b = j
  · obtain ⟨rfl, rfl⟩ := e
    rw [if_pos ⟨rfl, rfl⟩]; exact hv
  · rw [if_neg e]
    exact h a b ha hb (by omega)
theorem Filled.next {Y : SC} {F : Tm → Tm → Nat} {V : Nat → Nat → Int} {j : Nat} (h : Filled Y F V 0 (j + 1)) : Filled Y F V Y.s.length j := fun a b ha hb hab => h a b ha hb (by omega)
theorem Filled.at_ {Y : SC} {F : Tm → Tm → Nat} {V : Nat → Nat → Int} {i j a b : Nat} {t s : Tm} (h : Filled Y F V (i + 1) j) (ha : a < Y.s.length) (hb : b < Y.t.length) (hs : subT Y.ar Y.s a = s) (ht : subT Y.ar Y.t b = t) (hab : j < b ∨ (b = j ∧ i + 1 ≤ a)) : V a b = (F t s : Int) := by
  rw [← hs, ← ht]; exact h a b ha hb hab
theorem Told.of {v : Int} {n : Nat} (h : v = (n : Int)) : Told v n := by subst h; unfold Told; omega
theorem pl_lt {i : Nat} {us : List Tm} {k : Nat} : i < pl i us k := by unfold pl; omega

/-! The reference's path orders: l13Why, l13Bag. -/
def flagN (W : Tm → Tm → Nat) (t s : Tm) : Nat := if 0 < W t s then 1 else 0
theorem Told.flag {v : Int} {W : Tm → Tm → Nat} {t s : Tm} (h : v = (flagN W t s : Int)) : Told v (W t s) := by
  subst h; unfold flagN Told
  split <;> omega
theorem SC.H.out {Y : SC} {w : World} {V : Nat → Nat → Int} {F : Tm → Tm → Nat} (h : Y.H w V) (hP : Y.P) (hF : Filled Y F V 0 0) : (0 < Y.k ∧ 0 < Y.m) ∧ w.cell? ⟨Y.wb, 0, none⟩ = some (.slice (some ⟨Y.row 0, 0, none⟩) Y.m Y.m) ∧ w.cell? ⟨Y.row 0, 0, none⟩ = some (.int .i64 (F (subT Y.ar Y.t 0) (subT Y.ar Y.s 0) : Int)) := by
  have hk : 0 < Y.k := by rw [← h.s.len]; exact hP.ts.2.1.1
  have hm : 0 < Y.m := by rw [← h.t.len]; exact hP.tt.2.1.1
  refine ⟨⟨hk, hm⟩, h.wy 0 hk, ?_⟩
  rw [h.v 0 0 hk hm, hF 0 0 hP.ts.2.1.1 hP.tt.2.1.1 (by omega)]
set_option maxRecDepth 100000 in
set_option maxHeartbeats 8000000 in
theorem c_l13Why {ar rk s t : List Int} {A : Option Addr} {n c : Nat} {R : Option Addr} {rn rc : Nat} {B : Option Addr} {m d : Nat} {D : Option Addr} {k l : Nat} {w : World} (hs : SigP ar) (hrl : rk.length = ar.length) (ht : TermP ar t) (hss : TermP ar s)
    (ha : RI w A n ar) (hr : RI w R rn rk) (hB : RI w B m t) (hD : RI w D k s) (hmd : m ≤ d ∧ d ≤ 9223372036854775807) (hkl : k ≤ l ∧ l ≤ 9223372036854775807) :
    Calls Try.prog 124 #[.agg #[.slice A n c], .slice R rn rc, .slice D k l, .slice B m d] w fun e w' => e = .returned (.int .i64 (lpoW (rkF rk) true (subT ar t 0) (subT ar s 0) : Int)) ∧ Ext w w' := by
  have hm60 : m ≤ 60 := by rw [← hB.len]; exact ht.2.1.2
  have hk60 : k ≤ 60 := by rw [← hD.len]; exact hss.2.1.2
  have HA := Lib.hid ha
  have HR := Lib.hid hr
  have HB := Lib.hid hB
  have HD := Lib.hid hD
  have HS := Lib.hid hs
  have HT := Lib.hid ht
  have HSS := Lib.hid hss
  have HRL := Lib.hid hrl
  have HMD := Lib.hid hmd
  have HKL := Lib.hid hkl
  clear ha hr hB hD hs hrl ht hss hmd hkl
  go_enter Try.func124, Try.ntmps124
  go_wp2_with fail
  (with_reducible refine (c_l13Make HS.out HRL.out HT.out HSS.out (RI.ext HA.out (by exact extX)) (RI.ext HR.out (by exact extX)) (RI.ext HB.out (by exact extX)) (RI.ext HD.out (by exact extX)) HMD.out HKL.out).mono ?_)
  rintro e w1 ⟨Y, rfl, hP, hH, ⟨rfl, rfl, rfl, rfl⟩, hrow, hE1⟩
  obtain rfl : k = Y.k := by rw [← HD.out.len, hH.s.len]
  obtain rfl : m = Y.m := by rw [← HB.out.len, hH.t.len]
  have hE1w : Ext w w1 := Ext.trans (by exact extX) hE1
  have HP := Lib.hid hP
  have HROW := Lib.hid (show ∀ i, i < Y.k → w.heap.size ≤ Y.row i from fun i hi => by have := hrow i hi; simp [go_sem] at this; omega)
  have HH := Lib.hid hH
  obtain ⟨F, hF⟩ : ∃ F, F = lpoW (rkF Y.rk) true := ⟨_, rfl⟩
  have HF := Lib.hid hF
  clear hP hH hrow hF hE1
  go_wp2_with fail
  go_loopw [10] (fun jv wr => ∃ p : Nat, jv = .int .i64 ((p : Int) - 1) ∧ p ≤ Y.m ∧ Hid (∃ V, Y.H wr V ∧ Filled Y F V 0 p) ∧ Ext w wr) (fun jv _ => (intOf jv + 1).toNat)
  case atStart => exact ⟨Y.m, rfl, Nat.le_refl _, Lib.hid ⟨_, HH.out, fun a b ha hb hab => by rw [HH.out.t.len] at hb; omega⟩, hE1w⟩
  case round =>
    obtain ⟨p, rfl, hp, hV, hE⟩ := hrel
    cases p with
    | zero =>
      obtain ⟨V, h1, h2⟩ := hV.out
      obtain ⟨⟨q1, q2⟩, q3, q4⟩ := h1.out HP.out h2
      have c6 := h1.c6
      go_wp2
      go_ret
      exact ⟨ret_int (by rw [HF.out]), hE⟩
    | succ j =>
      obtain ⟨wj, rfl⟩ : ∃ wj : World, wj = wr := ⟨_, rfl⟩
      have hj1 : ((j + 1 : Nat) : Int) - 1 = (j : Int) := by omega
      have hj0 : (0 : Int) ≤ (j : Int) := by omega
      have hjm : (j : Int) < (Y.m : Int) := by omega
      rw [hj1]
      clear hj1
      go_wp2_with fail
      go_loopw [11] (fun iv wr => ∃ r : Nat, iv = .int .i64 ((r : Int) - 1) ∧ r ≤ Y.k ∧ Hid (∃ V, Y.H wr V ∧ Filled Y F V r j) ∧ Ext w wr) (fun iv _ => (intOf iv + 1).toNat)
      case atStart => exact ⟨Y.k, rfl, Nat.le_refl _, Lib.hid (by obtain ⟨V, h1, h2⟩ := hV.out; exact ⟨V, h1, by have := h2.next; rw [h1.s.len] at this; exact this⟩), hE⟩
      case round =>
        obtain ⟨r, rfl, hr, hV2, hE2⟩ := hrel
        cases r with
        | zero =>
          go_wp2
          go_roundw
          case rel => exact ⟨j, by first | rfl | (congr 1; omega), by omega, hV2, hE2⟩
          case measure => simp only [intOf]; omega
        | succ i =>
          have hi1 : ((i + 1 : Nat) : Int) - 1 = (i : Int) := by omega
          have hi0 : (0 : Int) ≤ (i : Int) := by omega
          have hik : (i : Int) < (Y.k : Int) := by omega
          rw [hi1]
          clear hi1
          obtain ⟨V, h1, h2⟩ := hV2.out
          have hil : i < Y.s.length := by rw [h1.s.len]; omega
          have hjl : j < Y.t.length := by rw [h1.t.len]; omega
          obtain ⟨⟨y, ss⟩, hsi⟩ : ∃ u, subT Y.ar Y.s i = u := ⟨_, rfl⟩
          obtain ⟨⟨x, us⟩, htj⟩ : ∃ u, subT Y.ar Y.t j = u := ⟨_, rfl⟩
          have hA : Y.At i j y ss x us := ⟨hil, hjl, hsi, htj⟩
          have HA2 := Lib.hid hA
          have HV := Lib.hid h1
          have HFI := Lib.hid h2
          have c6 := h1.c6
          have cw := h1.wy i (by omega)
          have hi' : i < Y.k := by omega
          have hj' : j < Y.m := by omega
          have hft1 : ∀ k a, us[k]? = some a → V i (pl j us k) = (F a (.node y ss) : Int) := fun k a ha => by
            obtain ⟨g1, g2⟩ := hA.pt HP.out ha
            exact h2.at_ hil g1 hsi g2 (.inl pl_lt)
          have hft2 : ∀ k b, ss[k]? = some b → V (pl i ss k) j = (F (.node x us) b : Int) := fun k b hb => by
            obtain ⟨g1, g2⟩ := hA.ps HP.out hb
            exact h2.at_ g1 hjl g2 htj (.inr ⟨rfl, pl_lt⟩)
          have hft3 : ∀ k q a b, us[k]? = some a → ss[q]? = some b → V (pl i ss q) (pl j us k) = (F a b : Int) := fun k q a b ha hb => by
            obtain ⟨g1, g2⟩ := hA.pt HP.out ha
            obtain ⟨g3, g4⟩ := hA.ps HP.out hb
            exact h2.at_ g3 g1 g4 g2 (.inl pl_lt)
          have HT1 := Lib.hid hft1
          have HT2 := Lib.hid hft2
          have HT3 := Lib.hid hft3
          have HSI := Lib.hid hsi
          have HTJ := Lib.hid htj
          clear h1 h2 hA hsi htj hil hjl hft1 hft2 hft3 hV2
          obtain ⟨r0, hr0⟩ : ∃ r0, lpoB (rkF Y.rk) true F (.node x us) (.node y ss) = r0 := ⟨_, rfl⟩
          have HR0 := Lib.hid hr0
          have HRF := Lib.hid (show F (.node x us) (.node y ss) = r0 by rw [← hr0, HF.out]; exact lpoW_eq _ _ _ _)
          clear hr0
          go_wp2_with fail
          refine wp_only (R := fun (a0 : Act) (a8 : Act) (w9 : World) => a8 = (((((((((((((a0.put (some 31) (.pointer (some ⟨Y.g, 0, none⟩))).put (some 32) (.pointer (some ⟨Y.g, 0, none⟩))).put (some 33) (.pointer (some ⟨Y.g, 6, none⟩))).put (some 34) (.slice (some ⟨Y.wb, 0, none⟩) Y.k Y.wc)).put (some 35) (.int .i64 (i : Int))).put (some 36) (.pointer (some ⟨Y.wb, i, none⟩))).put (some 37) (.slice (some ⟨Y.row i, 0, none⟩) Y.m Y.m)).put (some 38) (.int .i64 (j : Int))).put (some 39) (.pointer (some ⟨Y.g, 0, none⟩))).put (some 40) (.int .i64 (i : Int))).put (some 41) (.int .i64 (j : Int))).put (some 42) (.int .i64 (r0 : Int))).put (some 43) (.pointer (some ⟨Y.row i, j, none⟩))) ∧ Y.H w9 (putV V i j (r0 : Int)) ∧ Ext w w9) ?_ (fun a8 w9 hR => ?_)
          · refine wp_region_held_drew (S := (fun w' => w'.cell? ⟨Y.g, 6, none⟩ = some (.slice (some ⟨Y.wb, 0, none⟩) Y.k Y.wc) ∧ w'.cell? ⟨Y.wb, i, none⟩ = some (.slice (some ⟨Y.row i, 0, none⟩) Y.m Y.m))) (by kernel_rfl) (⟨c6, cw⟩) (fun hH => ?_)
            refine wpAnyH_take_dst (i := 0) (v := .pointer (some ⟨Y.g, 0, none⟩)) (d := some 31) rfl rfl (by kernel_rfl) (by kernel_rfl) (by kernel_rfl) (fun _ _ _ h => h) (Or.inl ⟨by rfl, ?_⟩) hH ?_
            · (intro w' hE'; (try dsimp only at hE'); obtain ⟨hs6, hsw⟩ := hE'; go_simp; try with_reducible rfl)
            try simp only [Act.put, List.setIfInBounds_toArray, List.set_cons_zero, List.set_cons_succ]
            refine wpAnyH_take_dst (i := 1) (v := .pointer (some ⟨Y.g, 0, none⟩)) (d := some 32) rfl rfl (by kernel_rfl) (by kernel_rfl) (by kernel_rfl) (fun _ _ _ h => h) (Or.inl ⟨by rfl, ?_⟩) hH ?_
            · (intro w' hE'; (try dsimp only at hE'); obtain ⟨hs6, hsw⟩ := hE'; go_simp; try with_reducible rfl)
            try simp only [Act.put, List.setIfInBounds_toArray, List.set_cons_zero, List.set_cons_succ]
            refine wpAnyH_take_dst (i := 2) (v := .pointer (some ⟨Y.g, 6, none⟩)) (d := some 33) rfl rfl (by kernel_rfl) (by kernel_rfl) (by kernel_rfl) (fun _ _ _ h => h) (Or.inl ⟨by rfl, ?_⟩) hH ?_
            · (intro w' hE'; (try dsimp only at hE'); obtain ⟨hs6, hsw⟩ := hE'; go_simp; try with_reducible rfl)
            try simp only [Act.put, List.setIfInBounds_toArray, List.set_cons_zero, List.set_cons_succ]
            refine wpAnyH_take_dst (i := 3) (v := .slice (some ⟨Y.wb, 0, none⟩) Y.k Y.wc) (d := some 34) rfl rfl (by kernel_rfl) (by kernel_rfl) (by kernel_rfl) (fun _ _ _ h => h) (Or.inl ⟨by rfl, ?_⟩) hH ?_
            · (intro w' hE'; (try dsimp only at hE'); obtain ⟨hs6, hsw⟩ := hE'; go_simp; try with_reducible rfl)
            try simp only [Act.put, List.setIfInBounds_toArray, List.set_cons_zero, List.set_cons_succ]
            refine wpAnyH_take_dst (i := 4) (v := .int .i64 (i : Int)) (d := some 35) rfl rfl (by kernel_rfl) (by kernel_rfl) (by kernel_rfl) (fun _ _ _ h => h) (Or.inl ⟨by rfl, ?_⟩) hH ?_
            · (intro w' hE'; (try dsimp only at hE'); obtain ⟨hs6, hsw⟩ := hE'; go_simp; try with_reducible rfl)
            try simp only [Act.put, List.setIfInBounds_toArray, List.set_cons_zero, List.set_cons_succ]
            refine wpAnyH_take_dst (i := 5) (v := .pointer (some ⟨Y.wb, i, none⟩)) (d := some 36) rfl rfl (by kernel_rfl) (by kernel_rfl) (by kernel_rfl) (fun _ _ _ h => h) (Or.inl ⟨by rfl, ?_⟩) hH ?_
            · (intro w' hE'; (try dsimp only at hE'); obtain ⟨hs6, hsw⟩ := hE'; go_simp; try with_reducible rfl)
            try simp only [Act.put, List.setIfInBounds_toArray, List.set_cons_zero, List.set_cons_succ]
            refine wpAnyH_take_dst (i := 6) (v := .slice (some ⟨Y.row i, 0, none⟩) Y.m Y.m) (d := some 37) rfl rfl (by kernel_rfl) (by kernel_rfl) (by kernel_rfl) (fun _ _ _ h => h) (Or.inl ⟨by rfl, ?_⟩) hH ?_
            · (intro w' hE'; (try dsimp only at hE'); obtain ⟨hs6, hsw⟩ := hE'; go_simp; try with_reducible rfl)
            try simp only [Act.put, List.setIfInBounds_toArray, List.set_cons_zero, List.set_cons_succ]
            refine wpAnyH_take_dst (i := 7) (v := .int .i64 (j : Int)) (d := some 38) rfl rfl (by kernel_rfl) (by kernel_rfl) (by kernel_rfl) (fun _ _ _ h => h) (Or.inl ⟨by rfl, ?_⟩) hH ?_
            · (intro w' hE'; (try dsimp only at hE'); obtain ⟨hs6, hsw⟩ := hE'; go_simp; try with_reducible rfl)
            try simp only [Act.put, List.setIfInBounds_toArray, List.set_cons_zero, List.set_cons_succ]
            refine wpAnyH_take_dst (i := 8) (v := .pointer (some ⟨Y.g, 0, none⟩)) (d := some 39) rfl rfl (by kernel_rfl) (by kernel_rfl) (by kernel_rfl) (fun _ _ _ h => h) (Or.inl ⟨by rfl, ?_⟩) hH ?_
            · (intro w' hE'; (try dsimp only at hE'); obtain ⟨hs6, hsw⟩ := hE'; go_simp; try with_reducible rfl)
            try simp only [Act.put, List.setIfInBounds_toArray, List.set_cons_zero, List.set_cons_succ]
            refine wpAnyH_take_dst (i := 9) (v := .int .i64 (i : Int)) (d := some 40) rfl rfl (by kernel_rfl) (by kernel_rfl) (by kernel_rfl) (fun _ _ _ h => h) (Or.inl ⟨by rfl, ?_⟩) hH ?_
            · (intro w' hE'; (try dsimp only at hE'); obtain ⟨hs6, hsw⟩ := hE'; go_simp; try with_reducible rfl)
            try simp only [Act.put, List.setIfInBounds_toArray, List.set_cons_zero, List.set_cons_succ]
            refine wpAnyH_take_dst (i := 10) (v := .int .i64 (j : Int)) (d := some 41) rfl rfl (by kernel_rfl) (by kernel_rfl) (by kernel_rfl) (fun _ _ _ h => h) (Or.inl ⟨by rfl, ?_⟩) hH ?_
            · (intro w' hE'; (try dsimp only at hE'); obtain ⟨hs6, hsw⟩ := hE'; go_simp; try with_reducible rfl)
            try simp only [Act.put, List.setIfInBounds_toArray, List.set_cons_zero, List.set_cons_succ]
            refine wpAnyH_ready (rs := [11]) (by kernel_rfl) (by simp) ?_
            refine AllReadyH.cons rfl (fun K hK => ?_) AllReadyH.nil
            rw [if_pos (by rfl)]
            go_wp2_with fail
            (with_reducible refine (c_l13Reason (V := V) (W := F) HR0.out HP.out (HV.out.ext (Ext.drew (Ext.refl wr))) HA2.out (fun k a ha => .of (HT1.out k a ha)) (fun k b hb => .of (HT2.out k b hb)) (fun k a b ha hb => .of (HT3.out k k a b ha hb))).mono ?_)
            rintro e w9 ⟨rfl, hE9⟩
            refine hK.out _ _ (⟨Ext.keep hE9 hH.1, Ext.keep hE9 hH.2⟩) (fun hH9 => ?_)
            clear hK; have hH0 := hH; clear hH; have hH := hH9; clear hH9
            try simp only [Act.put, List.setIfInBounds_toArray, List.set_cons_zero, List.set_cons_succ]
            refine wpAnyH_take_dst (i := 12) (v := .pointer (some ⟨Y.row i, j, none⟩)) (d := some 43) rfl rfl (by kernel_rfl) (by kernel_rfl) (by kernel_rfl) (fun _ _ _ h => h) (Or.inl ⟨by rfl, ?_⟩) hH ?_
            · (intro w' hE'; (try dsimp only at hE'); obtain ⟨hs6, hsw⟩ := hE'; go_simp; try with_reducible rfl)
            try simp only [Act.put, List.setIfInBounds_toArray, List.set_cons_zero, List.set_cons_succ]
            refine wpAnyH_ready (rs := [13]) (by kernel_rfl) (by simp) ?_
            refine AllReadyH.cons rfl (fun K hK => ?_) AllReadyH.nil
            rw [if_pos (by rfl)]
            have h13 := (HV.out.ext (Ext.trans (Ext.drew (Ext.refl wr)) hE9)).v i j hi' hj'; have f13 := fun j => (HV.out.ext (Ext.trans (Ext.drew (Ext.refl wr)) hE9)).fr i j hi'; go_wp2_with fail
            refine hK.out _ _ (⟨((HV.out.ext (Ext.trans (Ext.drew (Ext.refl wr)) hE9)).put hi' (j := j) (r0 : Int)).c6, ((HV.out.ext (Ext.trans (Ext.drew (Ext.refl wr)) hE9)).put hi' (j := j) (r0 : Int)).wy i hi'⟩) (fun hH9 => ?_)
            clear hK; have hH0 := hH; clear hH; have hH := hH9; clear hH9
            try simp only [Act.put, List.setIfInBounds_toArray, List.set_cons_zero, List.set_cons_succ]
            refine wpAnyH_done (by kernel_rfl) ?_ _
            exact ⟨rfl, (HV.out.ext (Ext.trans (Ext.drew (Ext.refl wr)) hE9)).put hi' (r0 : Int), Ext.set (Ext.trans hE2 (Ext.trans (Ext.drew (Ext.refl wr)) hE9)) (HROW.out i hi') _⟩
          obtain ⟨ha, ⟨hH9, hE9⟩⟩ := hR
          simp only [Act.put, List.setIfInBounds_toArray, List.set_cons_zero, List.set_cons_succ] at ha
          subst ha
          have HN := Lib.hid (show Y.H w9 (putV V i j (r0 : Int)) ∧ Filled Y F (putV V i j (r0 : Int)) i j from ⟨hH9, HFI.out.step _ (by rw [HSI.out, HTJ.out, HRF.out])⟩)
          clear hH9
          go_wp2
          go_roundw
          case rel => exact ⟨i, by first | rfl | (congr 1; omega), by omega, Lib.hid ⟨_, HN.out⟩, hE9⟩
          case measure => simp only [intOf]; omega

/-! OrientsAll of the reference. -/
theorem c_l13WhyO {v0 v1 v2 v3 : Value} {ar rk s t : List Int} {V : Nat} {w : World} (hok : lpoArgs ar rk s t = true) (hV : V = lpoA ar rk true s t) (h0 : RdSig w v0 ar) (h1 : RdI w v1 rk) (h2 : RdIc w v2 s) (h3 : RdIc w v3 t) :
    Calls Try.prog 124 #[v0, v1, v2, v3] w fun e w' => e = .returned (.int .i64 (V : Int)) ∧ Ext w w' := by
  obtain ⟨A, n, c, rfl, ha⟩ := h0
  obtain ⟨R, rn, rc, rfl, hr⟩ := h1
  obtain ⟨D, k, l, rfl, hkl, hd⟩ := h2
  obtain ⟨B, m, d, rfl, hmd, hb⟩ := h3
  obtain ⟨⟨g1, g2⟩, g3, g4, g5⟩ := lpoArgs_iff.1 hok
  subst hV
  exact c_l13Why g3 g4 g2 g1 ha hr hb hd hmd hkl
set_option maxRecDepth 100000 in
set_option maxHeartbeats 2000000 in
theorem c_l13Orients {v0 v1 : Value} {s : Sy} {rk : List Int} {w : World} (h0 : RdSyC w v0 s) (h1 : RdI w v1 rk) (hs : SysP s) (hk : rankOk s.ar rk = true) :
    Calls Try.prog 93 #[v0, v1] w fun e w' => e = .returned (.bool (lpAll true s rk)) ∧ Ext w w' := by
  obtain ⟨A, n, c, B, m, d, rfl, ha, hb⟩ := h0
  obtain ⟨R, q, f, rfl, hrk⟩ := h1
  have hm := hb.le
  have HL := Lib.hid hb.len
  have HA := Lib.hid ha
  have HB := Lib.hid hb
  have HRK := Lib.hid hrk
  have HS := Lib.hid hs
  have HK := Lib.hid hk
  clear ha hb hrk hs hk
  go_enter Try.func93, Try.ntmps93
  go_wp2_with fail
  obtain ⟨wo, hwo⟩ : ∃ wo, wo = w.alloc (.cells #[.slice A n c, .slice B m d] 57) := ⟨_, rfl⟩
  have hw0 : wo.cell? ⟨w.heap.size, 0, none⟩ = some (.slice A n c) := by rw [hwo]; simp [go_sem]
  have hw1 : wo.cell? ⟨w.heap.size, 1, none⟩ = some (.slice B m d) := by rw [hwo]; simp [go_sem]
  have hEo : Ext w wo := by rw [hwo]; exact extX
  rw [← hwo]
  clear hwo
  go_loopw [5] (fun i wr => ∃ k : Nat, i = .int .i64 k ∧ k ≤ m ∧ Hid (∀ (j : Nat) (r : Ru), j < k → s.rs[j]? = some r → lpoA s.ar rk true r.r r.l ≠ 0) ∧ Ext wo wr) (fun i _ => m - (intOf i).toNat)
  case atStart => exact ⟨0, rfl, Nat.zero_le _, Lib.hid fun j y hj => by omega, Ext.refl _⟩
  case round =>
    obtain ⟨k, rfl, hk, hp, hE9⟩ := hrel
    have hw : Ext w wr := Ext.trans hEo hE9
    have hr0 : wr.cell? ⟨w.heap.size, 0, none⟩ = some (.slice A n c) := Ext.keep hE9 hw0
    have hr1' : wr.cell? ⟨w.heap.size, 1, none⟩ = some (.slice B m d) := Ext.keep hE9 hw1
    have hws0 : w.heap.size < wr.heap.size := World.block_lt_of_cell? wr _ hr0
    by_cases hlt : k < m
    · obtain ⟨b, o, r, A1, m1, c1, A2, m2, c2, rfl, hx, hd1, hd2, hr1, hr5, hcap1, hcap2⟩ := RR.at_ (RR.ext HB.out hw) hlt
      have hEd : Ext wr wr.drew := (Ext.refl wr).drew
      have hEwd : Ext w wr.drew := hw.drew
      have HX := Lib.hid hx
      have HR1 := Lib.hid (hr1.ext hEd)
      have HR2 := Lib.hid (hr5.ext hEd)
      have HC1 := Lib.hid (hcap1 rfl)
      have HC2 := Lib.hid (hcap2 rfl)
      have HOK := Lib.hid (lpoArgs_rule HS.out HK.out hx)
      have hbl : b < wr.heap.size := World.block_lt_of_cell? wr _ hd1
      clear hx hr1 hr5 hcap1 hcap2
      have hlt' : (k : Int) < (m : Int) := by omega
      obtain ⟨V, hV⟩ : ∃ V, V = lpoA s.ar rk true r.r r.l := ⟨_, rfl⟩
      have HV := Lib.hid hV
      clear hV
      by_cases hz : V = 0
      · have HR := Lib.hid (lpAll_f (lex := true) (rk := rk) HX.out (HV.out.symm.trans hz))
        have hzb : ((V : Int) == 0) = true := by rw [hz]; rfl
        clear hz
        go_wp2_with fail
        go_still_tail 15, (by kernel_rfl)
        change wpList _ _ _ _ _ wr.drew
        go_wp2_with fail
        (with_reducible refine (c_l13WhyO HOK.out HV.out (RdSig.mk (RI.ext HA.out hEwd)) (RdI.mk (RI.ext HRK.out hEwd)) (RdIc.mk HC2.out HR2.out) (RdIc.mk HC1.out HR1.out)).mono ?_)
        rintro e w5 ⟨rfl, hE5⟩
        go_wp2
        go_ret
        exact ⟨ret_bool HR.out.symm, Ext.trans hEwd hE5⟩
      · have hzb : ((V : Int) == 0) = false := by simp; exact hz
        have HP := Lib.hid (show ∀ (j : Nat) (r : Ru), j < k + 1 → s.rs[j]? = some r → lpoA s.ar rk true r.r r.l ≠ 0 from fun j y hj e => by
          rcases Nat.lt_or_ge j k with h' | h'
          · exact hp.out j y h' e
          · obtain rfl : j = k := by omega
            rw [HX.out] at e; cases e; rw [← HV.out]; exact hz)
        clear hz
        go_wp2_with fail
        go_still_tail 15, (by kernel_rfl)
        change wpList _ _ _ _ _ wr.drew
        go_wp2_with fail
        (with_reducible refine (c_l13WhyO HOK.out HV.out (RdSig.mk (RI.ext HA.out hEwd)) (RdI.mk (RI.ext HRK.out hEwd)) (RdIc.mk HC2.out HR2.out) (RdIc.mk HC1.out HR1.out)).mono ?_)
        rintro e w5 ⟨rfl, hE5⟩
        go_wp2
        go_roundw
        case rel => exact ⟨k + 1, by go_num, by omega, HP, Ext.trans hE9 (Ext.trans hEd hE5)⟩
        case measure => simp only [intOf]; omega
    · have HR := Lib.hid (lpAll_t (s := s) (rk := rk) (lex := true) fun j r hj e => hp.out j r (by rw [HL.out] at hj; omega) e)
      go_wp2
      go_ret
      exact ⟨ret_bool HR.out.symm, by exact extX⟩
set_option maxRecDepth 100000 in
set_option maxHeartbeats 1000000 in
theorem c_sOrientsAll {v0 v1 : Value} {s : Sy} {rk : List Int} {w : World} (h0 : RdSyC w v0 s) (h1 : RdI w v1 rk) :
    Calls Try.prog 47 #[v0, v1] w fun e w' => e = .returned (.bool (orientsV true s rk)) ∧ Ext w w' := by
  obtain ⟨A, n, c, B, m, d, rfl, ha, hb⟩ := h0
  obtain ⟨R, q, f, rfl, hrk⟩ := h1
  have hm := hb.le
  have HL := Lib.hid hb.len
  have HA := Lib.hid ha
  have HB := Lib.hid hb
  have HRK := Lib.hid hrk
  clear ha hb hrk
  cases hs : sysOk s with
  | false =>
    have HR := Lib.hid (orientsV_sys (lex := true) (rk := rk) hs)
    go_enter Try.func47, Try.ntmps47
    go_wp2_with (go_at_call 72; (with_reducible refine (c_sSystemOk (s := s) (by (first | (first | (with_reducible exact RdI.mk (RI.ext (Hid.out (by with_reducible assumption)) (by exact extX))) | (with_reducible exact RdI.ext (by with_reducible assumption) (by exact extX))) | (with_reducible exact RdSyK.mk (by (first | (with_reducible exact RI.ext (Hid.out (by with_reducible assumption)) (by exact extX)))) (RR.ext (Hid.out (by with_reducible assumption)) (by exact extX))) | (with_reducible exact RdSyK.ext (by with_reducible assumption) (by exact extX)) | (with_reducible exact RdSig.mk (by (first | (with_reducible exact RI.ext (Hid.out (by with_reducible assumption)) (by exact extX))))) | (with_reducible exact RdSig.ext (by with_reducible assumption) (by exact extX))))).mono ?_); rintro e w1 ⟨rfl, hE1⟩; have hz1 := sz_of hE1; (try simp only [World.size_alloc, World.size_setCell, World.size_drew] at hz1); obtain ⟨hc1, hf1⟩ := bcell hE1; (try have hq1_0 : w.heap.size < w1.heap.size := by omega); (try have hq1_1 : w.heap.size + 1 < w1.heap.size := by omega); (try have hq1_2 : w.heap.size + 1 + 1 < w1.heap.size := by omega); (try have hq1_3 : w.heap.size + 1 + 1 + 1 < w1.heap.size := by omega); (try have hq1_4 : w.heap.size + 1 + 1 + 1 + 1 < w1.heap.size := by omega); (try have hq1_5 : w.heap.size + 1 + 1 + 1 + 1 + 1 < w1.heap.size := by omega))
    go_ret
    exact ⟨ret_bool HR.out.symm, by exact extX⟩
  | true =>
    cases hk : rankOk s.ar rk with
    | false =>
      have HR := Lib.hid (orientsV_rank (lex := true) hs hk)
      go_enter Try.func47, Try.ntmps47
      go_wp2_with (first
        | (go_at_call 72; (with_reducible refine (c_sSystemOk (s := s) (by (first | (first | (with_reducible exact RdI.mk (RI.ext (Hid.out (by with_reducible assumption)) (by exact extX))) | (with_reducible exact RdI.ext (by with_reducible assumption) (by exact extX))) | (with_reducible exact RdSyK.mk (by (first | (with_reducible exact RI.ext (Hid.out (by with_reducible assumption)) (by exact extX)))) (RR.ext (Hid.out (by with_reducible assumption)) (by exact extX))) | (with_reducible exact RdSyK.ext (by with_reducible assumption) (by exact extX)) | (with_reducible exact RdSig.mk (by (first | (with_reducible exact RI.ext (Hid.out (by with_reducible assumption)) (by exact extX))))) | (with_reducible exact RdSig.ext (by with_reducible assumption) (by exact extX))))).mono ?_); rintro e w1 ⟨rfl, hE1⟩; have hz1 := sz_of hE1; (try simp only [World.size_alloc, World.size_setCell, World.size_drew] at hz1); obtain ⟨hc1, hf1⟩ := bcell hE1; (try have hq1_0 : w.heap.size < w1.heap.size := by omega); (try have hq1_1 : w.heap.size + 1 < w1.heap.size := by omega); (try have hq1_2 : w.heap.size + 1 + 1 < w1.heap.size := by omega); (try have hq1_3 : w.heap.size + 1 + 1 + 1 < w1.heap.size := by omega); (try have hq1_4 : w.heap.size + 1 + 1 + 1 + 1 < w1.heap.size := by omega); (try have hq1_5 : w.heap.size + 1 + 1 + 1 + 1 + 1 < w1.heap.size := by omega))
        | (go_at_call 92; (with_reducible refine (c_sRankOk (ar := s.ar) (rk := rk) (by (first | (first | (with_reducible exact RdI.mk (RI.ext (Hid.out (by with_reducible assumption)) (by exact extX))) | (with_reducible exact RdI.ext (by with_reducible assumption) (by exact extX))) | (with_reducible exact RdSyK.mk (by (first | (with_reducible exact RI.ext (Hid.out (by with_reducible assumption)) (by exact extX)))) (RR.ext (Hid.out (by with_reducible assumption)) (by exact extX))) | (with_reducible exact RdSyK.ext (by with_reducible assumption) (by exact extX)) | (with_reducible exact RdSig.mk (by (first | (with_reducible exact RI.ext (Hid.out (by with_reducible assumption)) (by exact extX))))) | (with_reducible exact RdSig.ext (by with_reducible assumption) (by exact extX)))) (by (first | (first | (with_reducible exact RdI.mk (RI.ext (Hid.out (by with_reducible assumption)) (by exact extX))) | (with_reducible exact RdI.ext (by with_reducible assumption) (by exact extX))) | (with_reducible exact RdSyK.mk (by (first | (with_reducible exact RI.ext (Hid.out (by with_reducible assumption)) (by exact extX)))) (RR.ext (Hid.out (by with_reducible assumption)) (by exact extX))) | (with_reducible exact RdSyK.ext (by with_reducible assumption) (by exact extX)) | (with_reducible exact RdSig.mk (by (first | (with_reducible exact RI.ext (Hid.out (by with_reducible assumption)) (by exact extX))))) | (with_reducible exact RdSig.ext (by with_reducible assumption) (by exact extX))))).mono ?_); rintro e w2 ⟨rfl, hE2⟩; have hz2 := sz_of hE2; (try simp only [World.size_alloc, World.size_setCell, World.size_drew] at hz2); obtain ⟨hc2, hf2⟩ := bcell hE2; (try have hq2_0 : w.heap.size < w2.heap.size := by omega); (try have hq2_1 : w.heap.size + 1 < w2.heap.size := by omega); (try have hq2_2 : w.heap.size + 1 + 1 < w2.heap.size := by omega); (try have hq2_3 : w.heap.size + 1 + 1 + 1 < w2.heap.size := by omega); (try have hq2_4 : w.heap.size + 1 + 1 + 1 + 1 < w2.heap.size := by omega); (try have hq2_5 : w.heap.size + 1 + 1 + 1 + 1 + 1 < w2.heap.size := by omega); (try have hx2_1 : w1.heap.size < w2.heap.size := by omega)))
      go_ret
      exact ⟨ret_bool HR.out.symm, by exact extX⟩
    | true =>
      have HR := Lib.hid (orientsV_all (lex := true) hs hk)
      have HS := Lib.hid (sysOk_iff.1 hs)
      have HK := Lib.hid hk
      go_enter Try.func47, Try.ntmps47
      go_wp2_with (first
        | (go_at_call 72; (with_reducible refine (c_sSystemOk (s := s) (by (first | (first | (with_reducible exact RdI.mk (RI.ext (Hid.out (by with_reducible assumption)) (by exact extX))) | (with_reducible exact RdI.ext (by with_reducible assumption) (by exact extX))) | (with_reducible exact RdSyK.mk (by (first | (with_reducible exact RI.ext (Hid.out (by with_reducible assumption)) (by exact extX)))) (RR.ext (Hid.out (by with_reducible assumption)) (by exact extX))) | (with_reducible exact RdSyK.ext (by with_reducible assumption) (by exact extX)) | (with_reducible exact RdSig.mk (by (first | (with_reducible exact RI.ext (Hid.out (by with_reducible assumption)) (by exact extX))))) | (with_reducible exact RdSig.ext (by with_reducible assumption) (by exact extX))))).mono ?_); rintro e w1 ⟨rfl, hE1⟩; have hz1 := sz_of hE1; (try simp only [World.size_alloc, World.size_setCell, World.size_drew] at hz1); obtain ⟨hc1, hf1⟩ := bcell hE1; (try have hq1_0 : w.heap.size < w1.heap.size := by omega); (try have hq1_1 : w.heap.size + 1 < w1.heap.size := by omega); (try have hq1_2 : w.heap.size + 1 + 1 < w1.heap.size := by omega); (try have hq1_3 : w.heap.size + 1 + 1 + 1 < w1.heap.size := by omega); (try have hq1_4 : w.heap.size + 1 + 1 + 1 + 1 < w1.heap.size := by omega); (try have hq1_5 : w.heap.size + 1 + 1 + 1 + 1 + 1 < w1.heap.size := by omega))
        | (go_at_call 92; (with_reducible refine (c_sRankOk (ar := s.ar) (rk := rk) (by (first | (first | (with_reducible exact RdI.mk (RI.ext (Hid.out (by with_reducible assumption)) (by exact extX))) | (with_reducible exact RdI.ext (by with_reducible assumption) (by exact extX))) | (with_reducible exact RdSyK.mk (by (first | (with_reducible exact RI.ext (Hid.out (by with_reducible assumption)) (by exact extX)))) (RR.ext (Hid.out (by with_reducible assumption)) (by exact extX))) | (with_reducible exact RdSyK.ext (by with_reducible assumption) (by exact extX)) | (with_reducible exact RdSig.mk (by (first | (with_reducible exact RI.ext (Hid.out (by with_reducible assumption)) (by exact extX))))) | (with_reducible exact RdSig.ext (by with_reducible assumption) (by exact extX)))) (by (first | (first | (with_reducible exact RdI.mk (RI.ext (Hid.out (by with_reducible assumption)) (by exact extX))) | (with_reducible exact RdI.ext (by with_reducible assumption) (by exact extX))) | (with_reducible exact RdSyK.mk (by (first | (with_reducible exact RI.ext (Hid.out (by with_reducible assumption)) (by exact extX)))) (RR.ext (Hid.out (by with_reducible assumption)) (by exact extX))) | (with_reducible exact RdSyK.ext (by with_reducible assumption) (by exact extX)) | (with_reducible exact RdSig.mk (by (first | (with_reducible exact RI.ext (Hid.out (by with_reducible assumption)) (by exact extX))))) | (with_reducible exact RdSig.ext (by with_reducible assumption) (by exact extX))))).mono ?_); rintro e w2 ⟨rfl, hE2⟩; have hz2 := sz_of hE2; (try simp only [World.size_alloc, World.size_setCell, World.size_drew] at hz2); obtain ⟨hc2, hf2⟩ := bcell hE2; (try have hq2_0 : w.heap.size < w2.heap.size := by omega); (try have hq2_1 : w.heap.size + 1 < w2.heap.size := by omega); (try have hq2_2 : w.heap.size + 1 + 1 < w2.heap.size := by omega); (try have hq2_3 : w.heap.size + 1 + 1 + 1 < w2.heap.size := by omega); (try have hq2_4 : w.heap.size + 1 + 1 + 1 + 1 < w2.heap.size := by omega); (try have hq2_5 : w.heap.size + 1 + 1 + 1 + 1 + 1 < w2.heap.size := by omega); (try have hx2_1 : w1.heap.size < w2.heap.size := by omega))
        | (go_at_call 93; (with_reducible refine (c_l13Orients (s := s) (rk := rk) (by (first | (first | (with_reducible exact RdI.mk (RI.ext (Hid.out (by with_reducible assumption)) (by exact extX))) | (with_reducible exact RdI.ext (by with_reducible assumption) (by exact extX))) | (with_reducible exact RdSyK.mk (by (first | (with_reducible exact RI.ext (Hid.out (by with_reducible assumption)) (by exact extX)))) (RR.ext (Hid.out (by with_reducible assumption)) (by exact extX))) | (with_reducible exact RdSyK.ext (by with_reducible assumption) (by exact extX)) | (with_reducible exact RdSig.mk (by (first | (with_reducible exact RI.ext (Hid.out (by with_reducible assumption)) (by exact extX))))) | (with_reducible exact RdSig.ext (by with_reducible assumption) (by exact extX)))) (by (first | (first | (with_reducible exact RdI.mk (RI.ext (Hid.out (by with_reducible assumption)) (by exact extX))) | (with_reducible exact RdI.ext (by with_reducible assumption) (by exact extX))) | (with_reducible exact RdSyK.mk (by (first | (with_reducible exact RI.ext (Hid.out (by with_reducible assumption)) (by exact extX)))) (RR.ext (Hid.out (by with_reducible assumption)) (by exact extX))) | (with_reducible exact RdSyK.ext (by with_reducible assumption) (by exact extX)) | (with_reducible exact RdSig.mk (by (first | (with_reducible exact RI.ext (Hid.out (by with_reducible assumption)) (by exact extX))))) | (with_reducible exact RdSig.ext (by with_reducible assumption) (by exact extX)))) HS.out HK.out).mono ?_); rintro e w3 ⟨rfl, hE3⟩; have hz3 := sz_of hE3; (try simp only [World.size_alloc, World.size_setCell, World.size_drew] at hz3); obtain ⟨hc3, hf3⟩ := bcell hE3; (try have hq3_0 : w.heap.size < w3.heap.size := by omega); (try have hq3_1 : w.heap.size + 1 < w3.heap.size := by omega); (try have hq3_2 : w.heap.size + 1 + 1 < w3.heap.size := by omega); (try have hq3_3 : w.heap.size + 1 + 1 + 1 < w3.heap.size := by omega); (try have hq3_4 : w.heap.size + 1 + 1 + 1 + 1 < w3.heap.size := by omega); (try have hq3_5 : w.heap.size + 1 + 1 + 1 + 1 + 1 < w3.heap.size := by omega); (try have hx3_1 : w1.heap.size < w3.heap.size := by omega); (try have hx3_2 : w2.heap.size < w3.heap.size := by omega)))
      all_goals go_ret
      all_goals exact ⟨ret_bool HR.out.symm, by exact extX⟩

end Go.Proofs.Ytleahogikppepaa
