/- Several texts in one: LpsR. -/
import Derived.Test.YtdlgjhngndpgoaaQ25
namespace Go.Proofs.Ytdlgjhngndpgoaa
open Go.RowKit
set_option linter.unusedSimpArgs false
set_option linter.unusedVariables false
theorem lq26 : (∀ (l : List Value) (i : Nat) (a : Value), l.toArray.setIfInBounds i a = (l.set i a).toArray) ∧ (∀ (x y : Value) (l : List Value), (x :: l).set 0 y = y :: l) ∧ (∀ (x y : Value) (l : List Value) (n : Nat), (x :: l).set (n + 1) y = x :: l.set n y) := ⟨fun l i a => by simp, fun _ _ _ => rfl, fun _ _ _ _ => rfl⟩
theorem z0q26 {p : Prop} (h : p := by (intro w hSw; (try dsimp only at hSw); go_split_ands; go_simp; try with_reducible rfl)) : p := h
set_option maxRecDepth 100000 in
set_option maxHeartbeats 4000000 in
theorem c_l13Reason {Y : SC} {i j : Nat} {x y : Int} {us ss : List Tm} {V : Nat → Nat → Int} {W : Tm → Tm → Nat} {w : World} {r0 : Nat} (hr0 : lpoB (rkF Y.rk) true W (.node x us) (.node y ss) = r0) (hP : Y.P) (h : Y.H w V) (hA : Y.At i j y ss x us)
    (hV1 : ∀ k a, us[k]? = some a → Told (V i (pl j us k)) (W a (.node y ss))) (hV2 : ∀ k b, ss[k]? = some b → Told (V (pl i ss k) j) (W (.node x us) b)) (hV3 : ∀ k a b, us[k]? = some a → ss[k]? = some b → Told (V (pl i ss k) (pl j us k)) (W a b)) :
    Calls Try.prog 78 #[.pointer (some ⟨Y.g, 0, none⟩), .int .i64 (i : Int), .int .i64 (j : Int)] w fun e w' => e = .returned (.int .i64 (r0 : Int)) ∧ Ext w w' := by
  have hP' := hP
  have hik : i < Y.k := by rw [← h.s.len]; exact hA.hi
  have hjm : j < Y.m := by rw [← h.t.len]; exact hA.hj
  have hkk := h.s.le
  have hmm := h.t.le
  have hi0 : (0 : Int) ≤ (i : Int) := by omega
  have hj0 : (0 : Int) ≤ (j : Int) := by omega
  have hii : (i : Int) < (Y.k : Int) := by omega
  have hjj : (j : Int) < (Y.m : Int) := by omega
  have c1 := h.c1
  have c2 := h.c2
  have c3 := h.c3
  have c4 := h.c4
  have c5 := h.c5
  have c6 := h.c6
  have wy := h.wy i hik
  have HH := Lib.hid h
  have HP := Lib.hid hP
  have HA := Lib.hid hA
  have hcx := h.at_t hP hA
  have hcy := h.at_s hP hA
  have hxn := arI_lt (Ok_node.1 (hA.ok hP).2).1
  have hyn := arI_lt (Ok_node.1 (hA.ok hP).1).1
  rw [h.a.len] at hxn hyn
  have hxy : x = y → us.length = ss.length := by
    rintro rfl
    have e1 := (Ok_node.1 (hA.ok hP).1).1
    rw [(Ok_node.1 (hA.ok hP).2).1] at e1
    injection e1 with e1
  have HXY := Lib.hid hxy
  have HR0 := Lib.hid hr0
  have HV1 := Lib.hid hV1
  have HV2 := Lib.hid hV2
  have HV3 := Lib.hid hV3
  clear h hP hP' hA hV1 hV2 hV3 hr0 wy hxy
  cases hag : argG W us (.node y ss) with
  | true =>
    have HAG := Lib.hid hag
    have HX : x < 0 → False := fun hx => by
      have e := (Ok_node.1 (HA.out.ok HP.out).2).1
      unfold arI at e; rw [if_pos hx] at e
      have e2 : us.length = 0 := by injection e with e; exact e.symm
      rw [List.length_eq_zero_iff.1 e2] at hag
      cases hag
    have HX0 := Lib.hid (show 0 ≤ x by rcases Int.lt_or_le x 0 with h | h; exact (HX h).elim; exact h)
    have HR := Lib.hid (show r0 = 1 by rw [← HR0.out, lpoB_1 HX0.out HAG.out])
    clear hag HX
    go_enter Try.func78, Try.ntmps78
    go_wp2_with fail
    (with_reducible refine (c_l13Arg HAG.out HP.out HH.out HA.out HV1.out).mono ?_)
    rintro e w1 ⟨rfl, hE1⟩
    go_wp2
    go_ret
    exact ⟨ret_int (by rw [HR.out]; rfl), hE1⟩
  | false =>
    have HAG := Lib.hid hag
    clear hag
    by_cases hneg : y < 0 ∨ x < 0
    · have HR := Lib.hid (show r0 = 0 by
        rw [← HR0.out]
        rcases Int.lt_or_le x 0 with h | h
        · exact lpoB_var h
        · rw [lpoB_rest h HAG.out, if_pos (hneg.resolve_right (Int.not_lt.2 h))])
      have hd1 : decide (y < 0) = true ∨ (decide (y < 0) = false ∧ decide (x < 0) = true) := by
        rcases Int.lt_or_le y 0 with h | h
        · exact .inl (by simpa using h)
        · exact .inr ⟨by simpa using h, by simpa using hneg.resolve_left (Int.not_lt.2 h)⟩
      clear hneg
      rcases hd1 with hd1 | ⟨hd1, hd2⟩
      all_goals
        go_enter Try.func78, Try.ntmps78
        go_wp2_with fail
        (with_reducible refine (c_l13Arg HAG.out HP.out HH.out HA.out HV1.out).mono ?_)
        rintro e w1 ⟨rfl, hE1⟩
        go_wp2
        go_ret
        exact ⟨ret_int (by rw [HR.out]; rfl), hE1⟩
    · obtain ⟨x0, rfl⟩ := Int.eq_ofNat_of_zero_le (show 0 ≤ x by omega)
      obtain ⟨y0, rfl⟩ := Int.eq_ofNat_of_zero_le (show 0 ≤ y by omega)
      clear hneg
      have HREST := Lib.hid (HR0.out.symm.trans ((lpoB_rest (by omega) HAG.out).trans (if_neg (by omega))))
      obtain ⟨b6, o6, zx, e6, hzx, d7⟩ := RI.at_ HH.out.r (show x0 < Y.n by omega)
      cases e6
      obtain ⟨b7, o7, zy, e7, hzy, d8⟩ := RI.at_ HH.out.r (show y0 < Y.n by omega)
      cases e7
      have HKX := Lib.hid (show rkF Y.rk (x0 : Int) = zx by unfold rkF; rw [Int.toNat_natCast, List.getD_eq_getElem?_getD, hzx]; rfl)
      have HKY := Lib.hid (show rkF Y.rk (y0 : Int) = zy by unfold rkF; rw [Int.toNat_natCast, List.getD_eq_getElem?_getD, hzy]; rfl)
      have hx0n : (x0 : Int) < (Y.n : Int) := by omega
      have hy0n : (y0 : Int) < (Y.n : Int) := by omega
      have hx00 : (0 : Int) ≤ (x0 : Int) := by omega
      have hy00 : (0 : Int) ≤ (y0 : Int) := by omega
      clear hzx hzy
      by_cases hxy : x0 = y0
      · subst hxy
        have hzz : zy = zx := by rw [d7] at d8; injection d8 with d8; injection d8 with _ d8; exact d8.symm
        subst hzz
        have HLEN := Lib.hid (HXY.out rfl)
        have HR2 := Lib.hid (HREST.out.trans (if_pos rfl))
        have hdl : decide (zy < zy) = false := by simp
        have hxe : ((x0 : Int) == (x0 : Int)) = true := by simp
        cases hov : overG W (.node (x0 : Int) us) ss with
        | false =>
          have HOV := Lib.hid hov
          have HR := Lib.hid (show r0 = 0 by rw [HR2.out, hov]; rfl)
          clear hov
          go_enter Try.func78, Try.ntmps78
          go_wp2_with fail
          (with_reducible refine (c_l13Arg HAG.out HP.out HH.out HA.out HV1.out).mono ?_)
          rintro e w1 ⟨rfl, hE1⟩
          have HH1 := Lib.hid (HH.out.ext hE1)
          have c11 := Ext.keep hE1 c1
          have d71 := Ext.keep hE1 d7
          have d81 := Ext.keep hE1 d8
          go_wp2_with fail
          refine wp_region_held_drew (S := (fun w' => Ext w1 w' ∧ w'.cell? ⟨Y.g, 1, none⟩ = some (.slice (some ⟨Y.rb, Y.ro, none⟩) Y.n Y.rc) ∧ w'.cell? ⟨Y.rb, Y.ro + x0, none⟩ = some (.int .i64 zy) ∧ w'.cell? ⟨Y.rb, Y.ro + x0, none⟩ = some (.int .i64 zy))) (by kernel_rfl) ?_ (fun hH => ?_)
          · exact ⟨(Ext.refl w1).drew, c11, d71, d81⟩
          refine wpAnyH_take_dst (i := 0) (v := .pointer (some ⟨Y.g, 0, none⟩)) (d := some 36) rfl rfl (by kernel_rfl) (by kernel_rfl) (by kernel_rfl) (fun _ _ _ h => h) (Or.inl ⟨by rfl, ?_⟩) hH ?_
          · exact z0q26
          try simp only [Act.put, lq26]
          refine wpAnyH_take_dst (i := 1) (v := .pointer (some ⟨Y.g, 0, none⟩)) (d := some 37) rfl rfl (by kernel_rfl) (by kernel_rfl) (by kernel_rfl) (fun _ _ _ h => h) (Or.inl ⟨by rfl, ?_⟩) hH ?_
          · exact z0q26
          try simp only [Act.put, lq26]
          refine wpAnyH_take_dst (i := 2) (v := .pointer (some ⟨Y.g, 1, none⟩)) (d := some 38) rfl rfl (by kernel_rfl) (by kernel_rfl) (by kernel_rfl) (fun _ _ _ h => h) (Or.inl ⟨by rfl, ?_⟩) hH ?_
          · exact z0q26
          try simp only [Act.put, lq26]
          refine wpAnyH_take_dst (i := 3) (v := .slice (some ⟨Y.rb, Y.ro, none⟩) Y.n Y.rc) (d := some 39) rfl rfl (by kernel_rfl) (by kernel_rfl) (by kernel_rfl) (fun _ _ _ h => h) (Or.inl ⟨by rfl, ?_⟩) hH ?_
          · exact z0q26
          try simp only [Act.put, lq26]
          refine wpAnyH_take_dst (i := 4) (v := .int .i64 (x0 : Int)) (d := some 40) rfl rfl (by kernel_rfl) (by kernel_rfl) (by kernel_rfl) (fun _ _ _ h => h) (Or.inl ⟨by rfl, ?_⟩) hH ?_
          · exact z0q26
          try simp only [Act.put, lq26]
          refine wpAnyH_take_dst (i := 5) (v := .pointer (some ⟨Y.rb, Y.ro + x0, none⟩)) (d := some 41) rfl rfl (by kernel_rfl) (by kernel_rfl) (by kernel_rfl) (fun _ _ _ h => h) (Or.inl ⟨by rfl, ?_⟩) hH ?_
          · exact z0q26
          try simp only [Act.put, lq26]
          refine wpAnyH_take_dst (i := 6) (v := .int .i64 zy) (d := some 42) rfl rfl (by kernel_rfl) (by kernel_rfl) (by kernel_rfl) (fun _ _ _ h => h) (Or.inl ⟨by rfl, ?_⟩) hH ?_
          · exact z0q26
          try simp only [Act.put, lq26]
          refine wpAnyH_take_dst (i := 7) (v := .pointer (some ⟨Y.g, 0, none⟩)) (d := some 43) rfl rfl (by kernel_rfl) (by kernel_rfl) (by kernel_rfl) (fun _ _ _ h => h) (Or.inl ⟨by rfl, ?_⟩) hH ?_
          · exact z0q26
          try simp only [Act.put, lq26]
          refine wpAnyH_take_dst (i := 8) (v := .pointer (some ⟨Y.g, 0, none⟩)) (d := some 44) rfl rfl (by kernel_rfl) (by kernel_rfl) (by kernel_rfl) (fun _ _ _ h => h) (Or.inl ⟨by rfl, ?_⟩) hH ?_
          · exact z0q26
          try simp only [Act.put, lq26]
          refine wpAnyH_take_dst (i := 9) (v := .pointer (some ⟨Y.g, 1, none⟩)) (d := some 45) rfl rfl (by kernel_rfl) (by kernel_rfl) (by kernel_rfl) (fun _ _ _ h => h) (Or.inl ⟨by rfl, ?_⟩) hH ?_
          · exact z0q26
          try simp only [Act.put, lq26]
          refine wpAnyH_take_dst (i := 10) (v := .slice (some ⟨Y.rb, Y.ro, none⟩) Y.n Y.rc) (d := some 46) rfl rfl (by kernel_rfl) (by kernel_rfl) (by kernel_rfl) (fun _ _ _ h => h) (Or.inl ⟨by rfl, ?_⟩) hH ?_
          · exact z0q26
          try simp only [Act.put, lq26]
          refine wpAnyH_take_dst (i := 11) (v := .int .i64 (x0 : Int)) (d := some 47) rfl rfl (by kernel_rfl) (by kernel_rfl) (by kernel_rfl) (fun _ _ _ h => h) (Or.inl ⟨by rfl, ?_⟩) hH ?_
          · exact z0q26
          try simp only [Act.put, lq26]
          refine wpAnyH_take_dst (i := 12) (v := .pointer (some ⟨Y.rb, Y.ro + x0, none⟩)) (d := some 48) rfl rfl (by kernel_rfl) (by kernel_rfl) (by kernel_rfl) (fun _ _ _ h => h) (Or.inl ⟨by rfl, ?_⟩) hH ?_
          · exact z0q26
          try simp only [Act.put, lq26]
          refine wpAnyH_take_dst (i := 13) (v := .int .i64 zy) (d := some 49) rfl rfl (by kernel_rfl) (by kernel_rfl) (by kernel_rfl) (fun _ _ _ h => h) (Or.inl ⟨by rfl, ?_⟩) hH ?_
          · exact z0q26
          try simp only [Act.put, lq26]
          refine wpAnyH_take_dst (i := 14) (v := .bool false) (d := some 50) rfl rfl (by kernel_rfl) (by kernel_rfl) (by kernel_rfl) (fun _ _ _ h => h) (Or.inl ⟨by rfl, ?_⟩) hH ?_
          · exact z0q26
          try simp only [Act.put, lq26]
          refine wpAnyH_take_dst (i := 15) (v := .bool false) (d := some 51) rfl rfl (by kernel_rfl) (by kernel_rfl) (by kernel_rfl) (fun _ _ _ h => h) (Or.inl ⟨by rfl, ?_⟩) hH ?_
          · exact z0q26
          try simp only [Act.put, lq26]
          refine wpAnyH_take_dst (i := 16) (v := undef) (d := some 52) rfl rfl (by kernel_rfl) (by kernel_rfl) (by kernel_rfl) (fun _ _ _ h => h) (Or.inr ⟨by rfl, rfl⟩) hH ?_
          try simp only [Act.put, lq26]
          refine wpAnyH_take_dst (i := 17) (v := undef) (d := some 53) rfl rfl (by kernel_rfl) (by kernel_rfl) (by kernel_rfl) (fun _ _ _ h => h) (Or.inr ⟨by rfl, rfl⟩) hH ?_
          try simp only [Act.put, lq26]
          refine wpAnyH_take_dst (i := 18) (v := undef) (d := some 54) rfl rfl (by kernel_rfl) (by kernel_rfl) (by kernel_rfl) (fun _ _ _ h => h) (Or.inr ⟨by rfl, rfl⟩) hH ?_
          try simp only [Act.put, lq26]
          refine wpAnyH_take_dst (i := 19) (v := undef) (d := some 55) rfl rfl (by kernel_rfl) (by kernel_rfl) (by kernel_rfl) (fun _ _ _ h => h) (Or.inr ⟨by rfl, rfl⟩) hH ?_
          try simp only [Act.put, lq26]
          refine wpAnyH_take_dst (i := 20) (v := .bool false) (d := some 56) rfl rfl (by kernel_rfl) (by kernel_rfl) (by kernel_rfl) (fun _ _ _ h => h) (Or.inl ⟨by rfl, ?_⟩) hH ?_
          · exact z0q26
          try simp only [Act.put, lq26]
          refine wpAnyH_take_dst (i := 21) (v := .bool false) (d := some 35) rfl rfl (by kernel_rfl) (by kernel_rfl) (by kernel_rfl) (fun _ _ _ h => h) (Or.inl ⟨by rfl, ?_⟩) hH ?_
          · exact z0q26
          try simp only [Act.put, lq26]
          refine wpAnyH_done (by kernel_rfl) ?_ _
          obtain ⟨hE2, _, _, _⟩ := hH
          have HH2 := Lib.hid (HH1.out.ext hE2)
          go_wp2_with fail
          (with_reducible refine (c_l13Over HOV.out HP.out HH2.out HA.out HV2.out).mono ?_)
          rintro e w3 ⟨rfl, hE3⟩
          go_wp2
          go_ret
          exact ⟨ret_int (by rw [HR.out]; rfl), Ext.trans hE1 (Ext.trans hE2 hE3)⟩
        | true =>
          have HOV := Lib.hid hov
          obtain ⟨bl, hbl⟩ : ∃ bl, lexG W us ss = bl := ⟨_, rfl⟩
          have HBL := Lib.hid hbl
          have HR := Lib.hid (show r0 = if bl = true then 3 else 0 by rw [HR2.out, hov, hbl]; first | done | rfl | simp)
          clear hov hbl
          go_enter Try.func78, Try.ntmps78
          go_wp2_with fail
          (with_reducible refine (c_l13Arg HAG.out HP.out HH.out HA.out HV1.out).mono ?_)
          rintro e w1 ⟨rfl, hE1⟩
          have HH1 := Lib.hid (HH.out.ext hE1)
          have c11 := Ext.keep hE1 c1
          have d71 := Ext.keep hE1 d7
          have d81 := Ext.keep hE1 d8
          go_wp2_with fail
          refine wp_region_held_drew (S := (fun w' => Ext w1 w' ∧ w'.cell? ⟨Y.g, 1, none⟩ = some (.slice (some ⟨Y.rb, Y.ro, none⟩) Y.n Y.rc) ∧ w'.cell? ⟨Y.rb, Y.ro + x0, none⟩ = some (.int .i64 zy) ∧ w'.cell? ⟨Y.rb, Y.ro + x0, none⟩ = some (.int .i64 zy))) (by kernel_rfl) ?_ (fun hH => ?_)
          · exact ⟨(Ext.refl w1).drew, c11, d71, d81⟩
          refine wpAnyH_take_dst (i := 0) (v := .pointer (some ⟨Y.g, 0, none⟩)) (d := some 36) rfl rfl (by kernel_rfl) (by kernel_rfl) (by kernel_rfl) (fun _ _ _ h => h) (Or.inl ⟨by rfl, ?_⟩) hH ?_
          · exact z0q26
          try simp only [Act.put, lq26]
          refine wpAnyH_take_dst (i := 1) (v := .pointer (some ⟨Y.g, 0, none⟩)) (d := some 37) rfl rfl (by kernel_rfl) (by kernel_rfl) (by kernel_rfl) (fun _ _ _ h => h) (Or.inl ⟨by rfl, ?_⟩) hH ?_
          · exact z0q26
          try simp only [Act.put, lq26]
          refine wpAnyH_take_dst (i := 2) (v := .pointer (some ⟨Y.g, 1, none⟩)) (d := some 38) rfl rfl (by kernel_rfl) (by kernel_rfl) (by kernel_rfl) (fun _ _ _ h => h) (Or.inl ⟨by rfl, ?_⟩) hH ?_
          · exact z0q26
          try simp only [Act.put, lq26]
          refine wpAnyH_take_dst (i := 3) (v := .slice (some ⟨Y.rb, Y.ro, none⟩) Y.n Y.rc) (d := some 39) rfl rfl (by kernel_rfl) (by kernel_rfl) (by kernel_rfl) (fun _ _ _ h => h) (Or.inl ⟨by rfl, ?_⟩) hH ?_
          · exact z0q26
          try simp only [Act.put, lq26]
          refine wpAnyH_take_dst (i := 4) (v := .int .i64 (x0 : Int)) (d := some 40) rfl rfl (by kernel_rfl) (by kernel_rfl) (by kernel_rfl) (fun _ _ _ h => h) (Or.inl ⟨by rfl, ?_⟩) hH ?_
          · exact z0q26
          try simp only [Act.put, lq26]
          refine wpAnyH_take_dst (i := 5) (v := .pointer (some ⟨Y.rb, Y.ro + x0, none⟩)) (d := some 41) rfl rfl (by kernel_rfl) (by kernel_rfl) (by kernel_rfl) (fun _ _ _ h => h) (Or.inl ⟨by rfl, ?_⟩) hH ?_
          · exact z0q26
          try simp only [Act.put, lq26]
          refine wpAnyH_take_dst (i := 6) (v := .int .i64 zy) (d := some 42) rfl rfl (by kernel_rfl) (by kernel_rfl) (by kernel_rfl) (fun _ _ _ h => h) (Or.inl ⟨by rfl, ?_⟩) hH ?_
          · exact z0q26
          try simp only [Act.put, lq26]
          refine wpAnyH_take_dst (i := 7) (v := .pointer (some ⟨Y.g, 0, none⟩)) (d := some 43) rfl rfl (by kernel_rfl) (by kernel_rfl) (by kernel_rfl) (fun _ _ _ h => h) (Or.inl ⟨by rfl, ?_⟩) hH ?_
          · exact z0q26
          try simp only [Act.put, lq26]
          refine wpAnyH_take_dst (i := 8) (v := .pointer (some ⟨Y.g, 0, none⟩)) (d := some 44) rfl rfl (by kernel_rfl) (by kernel_rfl) (by kernel_rfl) (fun _ _ _ h => h) (Or.inl ⟨by rfl, ?_⟩) hH ?_
          · exact z0q26
          try simp only [Act.put, lq26]
          refine wpAnyH_take_dst (i := 9) (v := .pointer (some ⟨Y.g, 1, none⟩)) (d := some 45) rfl rfl (by kernel_rfl) (by kernel_rfl) (by kernel_rfl) (fun _ _ _ h => h) (Or.inl ⟨by rfl, ?_⟩) hH ?_
          · exact z0q26
          try simp only [Act.put, lq26]
          refine wpAnyH_take_dst (i := 10) (v := .slice (some ⟨Y.rb, Y.ro, none⟩) Y.n Y.rc) (d := some 46) rfl rfl (by kernel_rfl) (by kernel_rfl) (by kernel_rfl) (fun _ _ _ h => h) (Or.inl ⟨by rfl, ?_⟩) hH ?_
          · exact z0q26
          try simp only [Act.put, lq26]
          refine wpAnyH_take_dst (i := 11) (v := .int .i64 (x0 : Int)) (d := some 47) rfl rfl (by kernel_rfl) (by kernel_rfl) (by kernel_rfl) (fun _ _ _ h => h) (Or.inl ⟨by rfl, ?_⟩) hH ?_
          · exact z0q26
          try simp only [Act.put, lq26]
          refine wpAnyH_take_dst (i := 12) (v := .pointer (some ⟨Y.rb, Y.ro + x0, none⟩)) (d := some 48) rfl rfl (by kernel_rfl) (by kernel_rfl) (by kernel_rfl) (fun _ _ _ h => h) (Or.inl ⟨by rfl, ?_⟩) hH ?_
          · exact z0q26
          try simp only [Act.put, lq26]
          refine wpAnyH_take_dst (i := 13) (v := .int .i64 zy) (d := some 49) rfl rfl (by kernel_rfl) (by kernel_rfl) (by kernel_rfl) (fun _ _ _ h => h) (Or.inl ⟨by rfl, ?_⟩) hH ?_
          · exact z0q26
          try simp only [Act.put, lq26]
          refine wpAnyH_take_dst (i := 14) (v := .bool false) (d := some 50) rfl rfl (by kernel_rfl) (by kernel_rfl) (by kernel_rfl) (fun _ _ _ h => h) (Or.inl ⟨by rfl, ?_⟩) hH ?_
          · exact z0q26
          try simp only [Act.put, lq26]
          refine wpAnyH_take_dst (i := 15) (v := .bool false) (d := some 51) rfl rfl (by kernel_rfl) (by kernel_rfl) (by kernel_rfl) (fun _ _ _ h => h) (Or.inl ⟨by rfl, ?_⟩) hH ?_
          · exact z0q26
          try simp only [Act.put, lq26]
          refine wpAnyH_take_dst (i := 16) (v := undef) (d := some 52) rfl rfl (by kernel_rfl) (by kernel_rfl) (by kernel_rfl) (fun _ _ _ h => h) (Or.inr ⟨by rfl, rfl⟩) hH ?_
          try simp only [Act.put, lq26]
          refine wpAnyH_take_dst (i := 17) (v := undef) (d := some 53) rfl rfl (by kernel_rfl) (by kernel_rfl) (by kernel_rfl) (fun _ _ _ h => h) (Or.inr ⟨by rfl, rfl⟩) hH ?_
          try simp only [Act.put, lq26]
          refine wpAnyH_take_dst (i := 18) (v := undef) (d := some 54) rfl rfl (by kernel_rfl) (by kernel_rfl) (by kernel_rfl) (fun _ _ _ h => h) (Or.inr ⟨by rfl, rfl⟩) hH ?_
          try simp only [Act.put, lq26]
          refine wpAnyH_take_dst (i := 19) (v := undef) (d := some 55) rfl rfl (by kernel_rfl) (by kernel_rfl) (by kernel_rfl) (fun _ _ _ h => h) (Or.inr ⟨by rfl, rfl⟩) hH ?_
          try simp only [Act.put, lq26]
          refine wpAnyH_take_dst (i := 20) (v := .bool false) (d := some 56) rfl rfl (by kernel_rfl) (by kernel_rfl) (by kernel_rfl) (fun _ _ _ h => h) (Or.inl ⟨by rfl, ?_⟩) hH ?_
          · exact z0q26
          try simp only [Act.put, lq26]
          refine wpAnyH_take_dst (i := 21) (v := .bool false) (d := some 35) rfl rfl (by kernel_rfl) (by kernel_rfl) (by kernel_rfl) (fun _ _ _ h => h) (Or.inl ⟨by rfl, ?_⟩) hH ?_
          · exact z0q26
          try simp only [Act.put, lq26]
          refine wpAnyH_done (by kernel_rfl) ?_ _
          obtain ⟨hE2, _, _, _⟩ := hH
          have HH2 := Lib.hid (HH1.out.ext hE2)
          go_wp2_with fail
          (with_reducible refine (c_l13Over HOV.out HP.out HH2.out HA.out HV2.out).mono ?_)
          rintro e w3 ⟨rfl, hE3⟩
          have HH3 := Lib.hid (HH2.out.ext hE3)
          go_wp2_with fail
          (with_reducible refine (c_l13First HBL.out HP.out HH3.out HA.out HLEN.out HV3.out).mono ?_)
          rintro e w4 ⟨rfl, hE4⟩
          cases bl with
          | true =>
            go_wp2
            go_ret
            exact ⟨ret_int (by rw [HR.out]; rfl), Ext.trans hE1 (Ext.trans hE2 (Ext.trans hE3 hE4))⟩
          | false =>
            go_wp2
            go_ret
            exact ⟨ret_int (by rw [HR.out]; rfl), Ext.trans hE1 (Ext.trans hE2 (Ext.trans hE3 hE4))⟩
      · have HR2 := Lib.hid (HREST.out.trans (if_neg (by omega)))
        have hxe : ((y0 : Int) == (x0 : Int)) = false := by simp; omega
        by_cases hlt : zy < zx
        · have hdl : decide (zy < zx) = true := by simpa using hlt
          have hlt2 : rkF Y.rk (y0 : Int) < rkF Y.rk (x0 : Int) := by rw [HKX.out, HKY.out]; exact hlt
          cases hov : overG W (.node (x0 : Int) us) ss with
          | true =>
            have HOV := Lib.hid hov
            have HR := Lib.hid (show r0 = 2 by rw [HR2.out, if_pos ⟨hlt2, hov⟩])
            clear hov hlt hlt2 hxy
            go_enter Try.func78, Try.ntmps78
            go_wp2_with fail
            (with_reducible refine (c_l13Arg HAG.out HP.out HH.out HA.out HV1.out).mono ?_)
            rintro e w1 ⟨rfl, hE1⟩
            have HH1 := Lib.hid (HH.out.ext hE1)
            have c11 := Ext.keep hE1 c1
            have d71 := Ext.keep hE1 d7
            have d81 := Ext.keep hE1 d8
            go_wp2_with fail
            refine wp_region_held_drew (S := (fun w' => Ext w1 w' ∧ w'.cell? ⟨Y.g, 1, none⟩ = some (.slice (some ⟨Y.rb, Y.ro, none⟩) Y.n Y.rc) ∧ w'.cell? ⟨Y.rb, Y.ro + x0, none⟩ = some (.int .i64 zx) ∧ w'.cell? ⟨Y.rb, Y.ro + y0, none⟩ = some (.int .i64 zy))) (by kernel_rfl) ?_ (fun hH => ?_)
            · exact ⟨(Ext.refl w1).drew, c11, d71, d81⟩
            refine wpAnyH_take_dst (i := 0) (v := .pointer (some ⟨Y.g, 0, none⟩)) (d := some 36) rfl rfl (by kernel_rfl) (by kernel_rfl) (by kernel_rfl) (fun _ _ _ h => h) (Or.inl ⟨by rfl, ?_⟩) hH ?_
            · exact z0q26
            try simp only [Act.put, lq26]
            refine wpAnyH_take_dst (i := 1) (v := .pointer (some ⟨Y.g, 0, none⟩)) (d := some 37) rfl rfl (by kernel_rfl) (by kernel_rfl) (by kernel_rfl) (fun _ _ _ h => h) (Or.inl ⟨by rfl, ?_⟩) hH ?_
            · exact z0q26
            try simp only [Act.put, lq26]
            refine wpAnyH_take_dst (i := 2) (v := .pointer (some ⟨Y.g, 1, none⟩)) (d := some 38) rfl rfl (by kernel_rfl) (by kernel_rfl) (by kernel_rfl) (fun _ _ _ h => h) (Or.inl ⟨by rfl, ?_⟩) hH ?_
            · exact z0q26
            try simp only [Act.put, lq26]
            refine wpAnyH_take_dst (i := 3) (v := .slice (some ⟨Y.rb, Y.ro, none⟩) Y.n Y.rc) (d := some 39) rfl rfl (by kernel_rfl) (by kernel_rfl) (by kernel_rfl) (fun _ _ _ h => h) (Or.inl ⟨by rfl, ?_⟩) hH ?_
            · exact z0q26
            try simp only [Act.put, lq26]
            refine wpAnyH_take_dst (i := 4) (v := .int .i64 (y0 : Int)) (d := some 40) rfl rfl (by kernel_rfl) (by kernel_rfl) (by kernel_rfl) (fun _ _ _ h => h) (Or.inl ⟨by rfl, ?_⟩) hH ?_
            · exact z0q26
            try simp only [Act.put, lq26]
            refine wpAnyH_take_dst (i := 5) (v := .pointer (some ⟨Y.rb, Y.ro + y0, none⟩)) (d := some 41) rfl rfl (by kernel_rfl) (by kernel_rfl) (by kernel_rfl) (fun _ _ _ h => h) (Or.inl ⟨by rfl, ?_⟩) hH ?_
            · exact z0q26
            try simp only [Act.put, lq26]
            refine wpAnyH_take_dst (i := 6) (v := .int .i64 zy) (d := some 42) rfl rfl (by kernel_rfl) (by kernel_rfl) (by kernel_rfl) (fun _ _ _ h => h) (Or.inl ⟨by rfl, ?_⟩) hH ?_
            · exact z0q26
            try simp only [Act.put, lq26]
            refine wpAnyH_take_dst (i := 7) (v := .pointer (some ⟨Y.g, 0, none⟩)) (d := some 43) rfl rfl (by kernel_rfl) (by kernel_rfl) (by kernel_rfl) (fun _ _ _ h => h) (Or.inl ⟨by rfl, ?_⟩) hH ?_
            · exact z0q26
            try simp only [Act.put, lq26]
            refine wpAnyH_take_dst (i := 8) (v := .pointer (some ⟨Y.g, 0, none⟩)) (d := some 44) rfl rfl (by kernel_rfl) (by kernel_rfl) (by kernel_rfl) (fun _ _ _ h => h) (Or.inl ⟨by rfl, ?_⟩) hH ?_
            · exact z0q26
            try simp only [Act.put, lq26]
            refine wpAnyH_take_dst (i := 9) (v := .pointer (some ⟨Y.g, 1, none⟩)) (d := some 45) rfl rfl (by kernel_rfl) (by kernel_rfl) (by kernel_rfl) (fun _ _ _ h => h) (Or.inl ⟨by rfl, ?_⟩) hH ?_
            · exact z0q26
            try simp only [Act.put, lq26]
            refine wpAnyH_take_dst (i := 10) (v := .slice (some ⟨Y.rb, Y.ro, none⟩) Y.n Y.rc) (d := some 46) rfl rfl (by kernel_rfl) (by kernel_rfl) (by kernel_rfl) (fun _ _ _ h => h) (Or.inl ⟨by rfl, ?_⟩) hH ?_
            · exact z0q26
            try simp only [Act.put, lq26]
            refine wpAnyH_take_dst (i := 11) (v := .int .i64 (x0 : Int)) (d := some 47) rfl rfl (by kernel_rfl) (by kernel_rfl) (by kernel_rfl) (fun _ _ _ h => h) (Or.inl ⟨by rfl, ?_⟩) hH ?_
            · exact z0q26
            try simp only [Act.put, lq26]
            refine wpAnyH_take_dst (i := 12) (v := .pointer (some ⟨Y.rb, Y.ro + x0, none⟩)) (d := some 48) rfl rfl (by kernel_rfl) (by kernel_rfl) (by kernel_rfl) (fun _ _ _ h => h) (Or.inl ⟨by rfl, ?_⟩) hH ?_
            · exact z0q26
            try simp only [Act.put, lq26]
            refine wpAnyH_take_dst (i := 13) (v := .int .i64 zx) (d := some 49) rfl rfl (by kernel_rfl) (by kernel_rfl) (by kernel_rfl) (fun _ _ _ h => h) (Or.inl ⟨by rfl, ?_⟩) hH ?_
            · exact z0q26
            try simp only [Act.put, lq26]
            refine wpAnyH_take_dst (i := 14) (v := .bool true) (d := some 50) rfl rfl (by kernel_rfl) (by kernel_rfl) (by kernel_rfl) (fun _ _ _ h => h) (Or.inl ⟨by rfl, ?_⟩) hH ?_
            · exact z0q26
            try simp only [Act.put, lq26]
            refine wpAnyH_take_dst (i := 15) (v := .bool true) (d := some 51) rfl rfl (by kernel_rfl) (by kernel_rfl) (by kernel_rfl) (fun _ _ _ h => h) (Or.inl ⟨by rfl, ?_⟩) hH ?_
            · exact z0q26
            try simp only [Act.put, lq26]
            refine wpAnyH_take_dst (i := 16) (v := .pointer (some ⟨Y.g, 0, none⟩)) (d := some 52) rfl rfl (by kernel_rfl) (by kernel_rfl) (by kernel_rfl) (fun _ _ _ h => h) (Or.inl ⟨by rfl, ?_⟩) hH ?_
            · exact z0q26
            try simp only [Act.put, lq26]
            refine wpAnyH_take_dst (i := 17) (v := .int .i64 (i : Int)) (d := some 53) rfl rfl (by kernel_rfl) (by kernel_rfl) (by kernel_rfl) (fun _ _ _ h => h) (Or.inl ⟨by rfl, ?_⟩) hH ?_
            · exact z0q26
            try simp only [Act.put, lq26]
            refine wpAnyH_take_dst (i := 18) (v := .int .i64 (j : Int)) (d := some 54) rfl rfl (by kernel_rfl) (by kernel_rfl) (by kernel_rfl) (fun _ _ _ h => h) (Or.inl ⟨by rfl, ?_⟩) hH ?_
            · exact z0q26
            try simp only [Act.put, lq26]
            refine wpAnyH_ready (rs := [19]) (by kernel_rfl) (by simp) ?_
            refine AllReadyH.cons rfl (fun K hK => ?_) AllReadyH.nil
            rw [if_pos (by rfl)]
            go_wp2_with (go_at_call 60; (with_reducible refine ((c_l13Over HOV.out HP.out (HH1.out.ext hH.1) HA.out HV2.out)).mono ?_); rintro e w2 ⟨rfl, hE9⟩)
            refine hK.out _ _ ⟨Ext.trans hH.1 hE9, Ext.keep hE9 hH.2.1, Ext.keep hE9 hH.2.2.1, Ext.keep hE9 hH.2.2.2⟩ (fun hH9 => ?_)
            clear hK hH; have hH := hH9; clear hH9
            try simp only [Act.put, lq26]
            refine wpAnyH_take_dst (i := 20) (v := .bool true) (d := some 56) rfl rfl (by kernel_rfl) (by kernel_rfl) (by kernel_rfl) (fun _ _ _ h => h) (Or.inl ⟨by rfl, ?_⟩) hH ?_
            · exact z0q26
            try simp only [Act.put, lq26]
            refine wpAnyH_take_dst (i := 21) (v := .bool true) (d := some 35) rfl rfl (by kernel_rfl) (by kernel_rfl) (by kernel_rfl) (fun _ _ _ h => h) (Or.inl ⟨by rfl, ?_⟩) hH ?_
            · exact z0q26
            try simp only [Act.put, lq26]
            refine wpAnyH_done (by kernel_rfl) ?_ _
            obtain ⟨hE2, _, _, _⟩ := hH
            go_wp2
            go_ret
            exact ⟨ret_int (by rw [HR.out]; rfl), Ext.trans hE1 hE2⟩
          | false =>
            have HOV := Lib.hid hov
            have HR := Lib.hid (show r0 = 0 by rw [HR2.out, if_neg (fun h => by rw [hov] at h; cases h.2)])
            clear hov hlt hlt2 hxy
            go_enter Try.func78, Try.ntmps78
            go_wp2_with fail
            (with_reducible refine (c_l13Arg HAG.out HP.out HH.out HA.out HV1.out).mono ?_)
            rintro e w1 ⟨rfl, hE1⟩
            have HH1 := Lib.hid (HH.out.ext hE1)
            have c11 := Ext.keep hE1 c1
            have d71 := Ext.keep hE1 d7
            have d81 := Ext.keep hE1 d8
            go_wp2_with fail
            refine wp_region_held_drew (S := (fun w' => Ext w1 w' ∧ w'.cell? ⟨Y.g, 1, none⟩ = some (.slice (some ⟨Y.rb, Y.ro, none⟩) Y.n Y.rc) ∧ w'.cell? ⟨Y.rb, Y.ro + x0, none⟩ = some (.int .i64 zx) ∧ w'.cell? ⟨Y.rb, Y.ro + y0, none⟩ = some (.int .i64 zy))) (by kernel_rfl) ?_ (fun hH => ?_)
            · exact ⟨(Ext.refl w1).drew, c11, d71, d81⟩
            refine wpAnyH_take_dst (i := 0) (v := .pointer (some ⟨Y.g, 0, none⟩)) (d := some 36) rfl rfl (by kernel_rfl) (by kernel_rfl) (by kernel_rfl) (fun _ _ _ h => h) (Or.inl ⟨by rfl, ?_⟩) hH ?_
            · exact z0q26
            try simp only [Act.put, lq26]
            refine wpAnyH_take_dst (i := 1) (v := .pointer (some ⟨Y.g, 0, none⟩)) (d := some 37) rfl rfl (by kernel_rfl) (by kernel_rfl) (by kernel_rfl) (fun _ _ _ h => h) (Or.inl ⟨by rfl, ?_⟩) hH ?_
            · exact z0q26
            try simp only [Act.put, lq26]
            refine wpAnyH_take_dst (i := 2) (v := .pointer (some ⟨Y.g, 1, none⟩)) (d := some 38) rfl rfl (by kernel_rfl) (by kernel_rfl) (by kernel_rfl) (fun _ _ _ h => h) (Or.inl ⟨by rfl, ?_⟩) hH ?_
            · exact z0q26
            try simp only [Act.put, lq26]
            refine wpAnyH_take_dst (i := 3) (v := .slice (some ⟨Y.rb, Y.ro, none⟩) Y.n Y.rc) (d := some 39) rfl rfl (by kernel_rfl) (by kernel_rfl) (by kernel_rfl) (fun _ _ _ h => h) (Or.inl ⟨by rfl, ?_⟩) hH ?_
            · exact z0q26
            try simp only [Act.put, lq26]
            refine wpAnyH_take_dst (i := 4) (v := .int .i64 (y0 : Int)) (d := some 40) rfl rfl (by kernel_rfl) (by kernel_rfl) (by kernel_rfl) (fun _ _ _ h => h) (Or.inl ⟨by rfl, ?_⟩) hH ?_
            · exact z0q26
            try simp only [Act.put, lq26]
            refine wpAnyH_take_dst (i := 5) (v := .pointer (some ⟨Y.rb, Y.ro + y0, none⟩)) (d := some 41) rfl rfl (by kernel_rfl) (by kernel_rfl) (by kernel_rfl) (fun _ _ _ h => h) (Or.inl ⟨by rfl, ?_⟩) hH ?_
            · exact z0q26
            try simp only [Act.put, lq26]
            refine wpAnyH_take_dst (i := 6) (v := .int .i64 zy) (d := some 42) rfl rfl (by kernel_rfl) (by kernel_rfl) (by kernel_rfl) (fun _ _ _ h => h) (Or.inl ⟨by rfl, ?_⟩) hH ?_
            · exact z0q26
            try simp only [Act.put, lq26]
            refine wpAnyH_take_dst (i := 7) (v := .pointer (some ⟨Y.g, 0, none⟩)) (d := some 43) rfl rfl (by kernel_rfl) (by kernel_rfl) (by kernel_rfl) (fun _ _ _ h => h) (Or.inl ⟨by rfl, ?_⟩) hH ?_
            · exact z0q26
            try simp only [Act.put, lq26]
            refine wpAnyH_take_dst (i := 8) (v := .pointer (some ⟨Y.g, 0, none⟩)) (d := some 44) rfl rfl (by kernel_rfl) (by kernel_rfl) (by kernel_rfl) (fun _ _ _ h => h) (Or.inl ⟨by rfl, ?_⟩) hH ?_
            · exact z0q26
            try simp only [Act.put, lq26]
            refine wpAnyH_take_dst (i := 9) (v := .pointer (some ⟨Y.g, 1, none⟩)) (d := some 45) rfl rfl (by kernel_rfl) (by kernel_rfl) (by kernel_rfl) (fun _ _ _ h => h) (Or.inl ⟨by rfl, ?_⟩) hH ?_
            · exact z0q26
            try simp only [Act.put, lq26]
            refine wpAnyH_take_dst (i := 10) (v := .slice (some ⟨Y.rb, Y.ro, none⟩) Y.n Y.rc) (d := some 46) rfl rfl (by kernel_rfl) (by kernel_rfl) (by kernel_rfl) (fun _ _ _ h => h) (Or.inl ⟨by rfl, ?_⟩) hH ?_
            · exact z0q26
            try simp only [Act.put, lq26]
            refine wpAnyH_take_dst (i := 11) (v := .int .i64 (x0 : Int)) (d := some 47) rfl rfl (by kernel_rfl) (by kernel_rfl) (by kernel_rfl) (fun _ _ _ h => h) (Or.inl ⟨by rfl, ?_⟩) hH ?_
            · exact z0q26
            try simp only [Act.put, lq26]
            refine wpAnyH_take_dst (i := 12) (v := .pointer (some ⟨Y.rb, Y.ro + x0, none⟩)) (d := some 48) rfl rfl (by kernel_rfl) (by kernel_rfl) (by kernel_rfl) (fun _ _ _ h => h) (Or.inl ⟨by rfl, ?_⟩) hH ?_
            · exact z0q26
            try simp only [Act.put, lq26]
            refine wpAnyH_take_dst (i := 13) (v := .int .i64 zx) (d := some 49) rfl rfl (by kernel_rfl) (by kernel_rfl) (by kernel_rfl) (fun _ _ _ h => h) (Or.inl ⟨by rfl, ?_⟩) hH ?_
            · exact z0q26
            try simp only [Act.put, lq26]
            refine wpAnyH_take_dst (i := 14) (v := .bool true) (d := some 50) rfl rfl (by kernel_rfl) (by kernel_rfl) (by kernel_rfl) (fun _ _ _ h => h) (Or.inl ⟨by rfl, ?_⟩) hH ?_
            · exact z0q26
            try simp only [Act.put, lq26]
            refine wpAnyH_take_dst (i := 15) (v := .bool true) (d := some 51) rfl rfl (by kernel_rfl) (by kernel_rfl) (by kernel_rfl) (fun _ _ _ h => h) (Or.inl ⟨by rfl, ?_⟩) hH ?_
            · exact z0q26
            try simp only [Act.put, lq26]
            refine wpAnyH_take_dst (i := 16) (v := .pointer (some ⟨Y.g, 0, none⟩)) (d := some 52) rfl rfl (by kernel_rfl) (by kernel_rfl) (by kernel_rfl) (fun _ _ _ h => h) (Or.inl ⟨by rfl, ?_⟩) hH ?_
            · exact z0q26
            try simp only [Act.put, lq26]
            refine wpAnyH_take_dst (i := 17) (v := .int .i64 (i : Int)) (d := some 53) rfl rfl (by kernel_rfl) (by kernel_rfl) (by kernel_rfl) (fun _ _ _ h => h) (Or.inl ⟨by rfl, ?_⟩) hH ?_
            · exact z0q26
            try simp only [Act.put, lq26]
            refine wpAnyH_take_dst (i := 18) (v := .int .i64 (j : Int)) (d := some 54) rfl rfl (by kernel_rfl) (by kernel_rfl) (by kernel_rfl) (fun _ _ _ h => h) (Or.inl ⟨by rfl, ?_⟩) hH ?_
            · exact z0q26
            try simp only [Act.put, lq26]
            refine wpAnyH_ready (rs := [19]) (by kernel_rfl) (by simp) ?_
            refine AllReadyH.cons rfl (fun K hK => ?_) AllReadyH.nil
            rw [if_pos (by rfl)]
            go_wp2_with (go_at_call 60; (with_reducible refine ((c_l13Over HOV.out HP.out (HH1.out.ext hH.1) HA.out HV2.out)).mono ?_); rintro e w2 ⟨rfl, hE9⟩)
            refine hK.out _ _ ⟨Ext.trans hH.1 hE9, Ext.keep hE9 hH.2.1, Ext.keep hE9 hH.2.2.1, Ext.keep hE9 hH.2.2.2⟩ (fun hH9 => ?_)
            clear hK hH; have hH := hH9; clear hH9
            try simp only [Act.put, lq26]
            refine wpAnyH_take_dst (i := 20) (v := .bool false) (d := some 56) rfl rfl (by kernel_rfl) (by kernel_rfl) (by kernel_rfl) (fun _ _ _ h => h) (Or.inl ⟨by rfl, ?_⟩) hH ?_
            · exact z0q26
            try simp only [Act.put, lq26]
            refine wpAnyH_take_dst (i := 21) (v := .bool false) (d := some 35) rfl rfl (by kernel_rfl) (by kernel_rfl) (by kernel_rfl) (fun _ _ _ h => h) (Or.inl ⟨by rfl, ?_⟩) hH ?_
            · exact z0q26
            try simp only [Act.put, lq26]
            refine wpAnyH_done (by kernel_rfl) ?_ _
            obtain ⟨hE2, _, _, _⟩ := hH
            go_wp2
            go_ret
            exact ⟨ret_int (by rw [HR.out]; rfl), Ext.trans hE1 hE2⟩
        · have hdl : decide (zy < zx) = false := by simpa using hlt
          have HR := Lib.hid (show r0 = 0 by rw [HR2.out, if_neg (fun h => hlt (by have := h.1; rw [HKX.out, HKY.out] at this; exact this))])
          clear hlt hxy
          go_enter Try.func78, Try.ntmps78
          go_wp2_with fail
          (with_reducible refine (c_l13Arg HAG.out HP.out HH.out HA.out HV1.out).mono ?_)
          rintro e w1 ⟨rfl, hE1⟩
          have HH1 := Lib.hid (HH.out.ext hE1)
          have c11 := Ext.keep hE1 c1
          have d71 := Ext.keep hE1 d7
          have d81 := Ext.keep hE1 d8
          go_wp2_with fail
          refine wp_region_held_drew (S := (fun w' => Ext w1 w' ∧ w'.cell? ⟨Y.g, 1, none⟩ = some (.slice (some ⟨Y.rb, Y.ro, none⟩) Y.n Y.rc) ∧ w'.cell? ⟨Y.rb, Y.ro + x0, none⟩ = some (.int .i64 zx) ∧ w'.cell? ⟨Y.rb, Y.ro + y0, none⟩ = some (.int .i64 zy))) (by kernel_rfl) ?_ (fun hH => ?_)
          · exact ⟨(Ext.refl w1).drew, c11, d71, d81⟩
          refine wpAnyH_take_dst (i := 0) (v := .pointer (some ⟨Y.g, 0, none⟩)) (d := some 36) rfl rfl (by kernel_rfl) (by kernel_rfl) (by kernel_rfl) (fun _ _ _ h => h) (Or.inl ⟨by rfl, ?_⟩) hH ?_
          · exact z0q26
          try simp only [Act.put, lq26]
          refine wpAnyH_take_dst (i := 1) (v := .pointer (some ⟨Y.g, 0, none⟩)) (d := some 37) rfl rfl (by kernel_rfl) (by kernel_rfl) (by kernel_rfl) (fun _ _ _ h => h) (Or.inl ⟨by rfl, ?_⟩) hH ?_
          · exact z0q26
          try simp only [Act.put, lq26]
          refine wpAnyH_take_dst (i := 2) (v := .pointer (some ⟨Y.g, 1, none⟩)) (d := some 38) rfl rfl (by kernel_rfl) (by kernel_rfl) (by kernel_rfl) (fun _ _ _ h => h) (Or.inl ⟨by rfl, ?_⟩) hH ?_
          · exact z0q26
          try simp only [Act.put, lq26]
          refine wpAnyH_take_dst (i := 3) (v := .slice (some ⟨Y.rb, Y.ro, none⟩) Y.n Y.rc) (d := some 39) rfl rfl (by kernel_rfl) (by kernel_rfl) (by kernel_rfl) (fun _ _ _ h => h) (Or.inl ⟨by rfl, ?_⟩) hH ?_
          · exact z0q26
          try simp only [Act.put, lq26]
          refine wpAnyH_take_dst (i := 4) (v := .int .i64 (y0 : Int)) (d := some 40) rfl rfl (by kernel_rfl) (by kernel_rfl) (by kernel_rfl) (fun _ _ _ h => h) (Or.inl ⟨by rfl, ?_⟩) hH ?_
          · exact z0q26
          try simp only [Act.put, lq26]
          refine wpAnyH_take_dst (i := 5) (v := .pointer (some ⟨Y.rb, Y.ro + y0, none⟩)) (d := some 41) rfl rfl (by kernel_rfl) (by kernel_rfl) (by kernel_rfl) (fun _ _ _ h => h) (Or.inl ⟨by rfl, ?_⟩) hH ?_
          · exact z0q26
          try simp only [Act.put, lq26]
          refine wpAnyH_take_dst (i := 6) (v := .int .i64 zy) (d := some 42) rfl rfl (by kernel_rfl) (by kernel_rfl) (by kernel_rfl) (fun _ _ _ h => h) (Or.inl ⟨by rfl, ?_⟩) hH ?_
          · exact z0q26
          try simp only [Act.put, lq26]
          refine wpAnyH_take_dst (i := 7) (v := .pointer (some ⟨Y.g, 0, none⟩)) (d := some 43) rfl rfl (by kernel_rfl) (by kernel_rfl) (by kernel_rfl) (fun _ _ _ h => h) (Or.inl ⟨by rfl, ?_⟩) hH ?_
          · exact z0q26
          try simp only [Act.put, lq26]
          refine wpAnyH_take_dst (i := 8) (v := .pointer (some ⟨Y.g, 0, none⟩)) (d := some 44) rfl rfl (by kernel_rfl) (by kernel_rfl) (by kernel_rfl) (fun _ _ _ h => h) (Or.inl ⟨by rfl, ?_⟩) hH ?_
          · exact z0q26
          try simp only [Act.put, lq26]
          refine wpAnyH_take_dst (i := 9) (v := .pointer (some ⟨Y.g, 1, none⟩)) (d := some 45) rfl rfl (by kernel_rfl) (by kernel_rfl) (by kernel_rfl) (fun _ _ _ h => h) (Or.inl ⟨by rfl, ?_⟩) hH ?_
          · exact z0q26
          try simp only [Act.put, lq26]
          refine wpAnyH_take_dst (i := 10) (v := .slice (some ⟨Y.rb, Y.ro, none⟩) Y.n Y.rc) (d := some 46) rfl rfl (by kernel_rfl) (by kernel_rfl) (by kernel_rfl) (fun _ _ _ h => h) (Or.inl ⟨by rfl, ?_⟩) hH ?_
          · exact z0q26
          try simp only [Act.put, lq26]
          refine wpAnyH_take_dst (i := 11) (v := .int .i64 (x0 : Int)) (d := some 47) rfl rfl (by kernel_rfl) (by kernel_rfl) (by kernel_rfl) (fun _ _ _ h => h) (Or.inl ⟨by rfl, ?_⟩) hH ?_
          · exact z0q26
          try simp only [Act.put, lq26]
          refine wpAnyH_take_dst (i := 12) (v := .pointer (some ⟨Y.rb, Y.ro + x0, none⟩)) (d := some 48) rfl rfl (by kernel_rfl) (by kernel_rfl) (by kernel_rfl) (fun _ _ _ h => h) (Or.inl ⟨by rfl, ?_⟩) hH ?_
          · exact z0q26
          try simp only [Act.put, lq26]
          refine wpAnyH_take_dst (i := 13) (v := .int .i64 zx) (d := some 49) rfl rfl (by kernel_rfl) (by kernel_rfl) (by kernel_rfl) (fun _ _ _ h => h) (Or.inl ⟨by rfl, ?_⟩) hH ?_
          · exact z0q26
          try simp only [Act.put, lq26]
          refine wpAnyH_take_dst (i := 14) (v := .bool false) (d := some 50) rfl rfl (by kernel_rfl) (by kernel_rfl) (by kernel_rfl) (fun _ _ _ h => h) (Or.inl ⟨by rfl, ?_⟩) hH ?_
          · exact z0q26
          try simp only [Act.put, lq26]
          refine wpAnyH_take_dst (i := 15) (v := .bool false) (d := some 51) rfl rfl (by kernel_rfl) (by kernel_rfl) (by kernel_rfl) (fun _ _ _ h => h) (Or.inl ⟨by rfl, ?_⟩) hH ?_
          · exact z0q26
          try simp only [Act.put, lq26]
          refine wpAnyH_take_dst (i := 16) (v := undef) (d := some 52) rfl rfl (by kernel_rfl) (by kernel_rfl) (by kernel_rfl) (fun _ _ _ h => h) (Or.inr ⟨by rfl, rfl⟩) hH ?_
          try simp only [Act.put, lq26]
          refine wpAnyH_take_dst (i := 17) (v := undef) (d := some 53) rfl rfl (by kernel_rfl) (by kernel_rfl) (by kernel_rfl) (fun _ _ _ h => h) (Or.inr ⟨by rfl, rfl⟩) hH ?_
          try simp only [Act.put, lq26]
          refine wpAnyH_take_dst (i := 18) (v := undef) (d := some 54) rfl rfl (by kernel_rfl) (by kernel_rfl) (by kernel_rfl) (fun _ _ _ h => h) (Or.inr ⟨by rfl, rfl⟩) hH ?_
          try simp only [Act.put, lq26]
          refine wpAnyH_take_dst (i := 19) (v := undef) (d := some 55) rfl rfl (by kernel_rfl) (by kernel_rfl) (by kernel_rfl) (fun _ _ _ h => h) (Or.inr ⟨by rfl, rfl⟩) hH ?_
          try simp only [Act.put, lq26]
          refine wpAnyH_take_dst (i := 20) (v := .bool false) (d := some 56) rfl rfl (by kernel_rfl) (by kernel_rfl) (by kernel_rfl) (fun _ _ _ h => h) (Or.inl ⟨by rfl, ?_⟩) hH ?_
          · exact z0q26
          try simp only [Act.put, lq26]
          refine wpAnyH_take_dst (i := 21) (v := .bool false) (d := some 35) rfl rfl (by kernel_rfl) (by kernel_rfl) (by kernel_rfl) (fun _ _ _ h => h) (Or.inl ⟨by rfl, ?_⟩) hH ?_
          · exact z0q26
          try simp only [Act.put, lq26]
          refine wpAnyH_done (by kernel_rfl) ?_ _
          obtain ⟨hE2, _, _, _⟩ := hH
          go_wp2
          go_ret
          exact ⟨ret_int (by rw [HR.out]; rfl), Ext.trans hE1 hE2⟩
end Go.Proofs.Ytdlgjhngndpgoaa
