/- What a projection removes: the program's. -/
import Derived.Test.YtccahngnnfohcaaPrjB
import Derived.Test.YtccahngnnfohcaaProj
import Derived.Lib.SliceRun
-- rd: RdSyK RdDp RdDq
namespace Go.Proofs.Ytccahngnnfohcaa
open Go.RowKit
set_option linter.unusedSimpArgs false
set_option linter.unusedVariables false

/-- A list of the call's own and whether there is one. -/
def NewOb (w : World) (o : Option (List Int)) (e : Ending) (w' : World) : Prop := ∃ A n c, e = .returned (.tuple #[.slice A n c, .bool o.isSome]) ∧ OwI w' w.heap.size A n c (o.getD []) ∧ Ext w w'
theorem arg_pos {ar pj t l : List Int} (hp : ProjP ar pj) (ht : TermP ar t) (h0 : ∀ x, t[0]? = some x → 0 ≤ x) (h : argO ar pj t = some l) : 1 ≤ l.length ∧ TermP ar l := by
  obtain ⟨f, us, i, _, _, _, _, h1, h2⟩ := arg_at hp ht h0
  by_cases hi : i < 0
  · rw [h1 hi] at h; cases h
  · obtain ⟨a, _, e, _, hta⟩ := h2 (by omega)
    rw [e] at h; cases h
    exact ⟨flat_pos a, hta⟩
set_option maxRecDepth 100000 in
set_option maxHeartbeats 8000000 in
theorem c_project {v0 v2 v3 : Value} {A : Option Addr} {n c : Nat} {ar set pj : List Int} {ps : List DepP} {o : Option (List Int)} {w : World} (ho : prjGo ar pj ps set [] = o) (h0 : RdSig w v0 ar) (h1 : RE w A n ps) (h2 : RdI w v2 set) (h3 : RdI w v3 pj)
    (hpp : ∀ q ∈ ps, PairP ar q) (hpr : ProjP ar pj) (hset : SetP n set) :
    Calls Try.prog 75 #[v0, .slice A n c, v2, v3] w (NewOb w o) := by
  obtain ⟨S, sn, sc, rfl, hs⟩ := h0
  obtain ⟨D, m, d, rfl, hd⟩ := h2
  obtain ⟨J, jn, jc, rfl, hj⟩ := h3
  have HO := Lib.hid ho
  have HS := Lib.hid hs
  have HD := Lib.hid hd
  have HJ := Lib.hid hj
  have HA := Lib.hid h1
  have HPP := Lib.hid hpp
  have HPR := Lib.hid hpr
  have HST := Lib.hid hset
  have hmle := hd.le
  have hml := hd.len
  obtain ⟨i0, hii, hiz, his, hib⟩ := info_parts int64_info
  clear ho hs hd hj h1 hpp hpr hset
  have qN : ∀ (w : World) (a : Option Addr) (n c n' c' : Nat), (binOp .eql 22 (.slice a n c) (.slice none n' c')).run Try.prog w = .ok (.bool a.isNone) w := fun w a n c n' c' => Lib.run_eql_slice_nil w _ _ a n c n' c' Try.underlying22
  go_enter Try.func75, Try.ntmps75
  go_wp2_with fail
  obtain ⟨wb, hwb⟩ : ∃ wb, wb = w.alloc (.cells #[.slice S sn sc] 31) := ⟨_, rfl⟩
  have hb0 : wb.cell? ⟨w.heap.size, 0, none⟩ = some (.slice S sn sc) := by rw [hwb]; simp [go_sem]
  have hEb : Ext w wb := by rw [hwb]; (repeat' (first | (with_reducible exact Ext.refl _) | (with_reducible assumption) | (with_reducible refine Ext.alloc ?_ _) | (with_reducible refine Ext.set ?_ ?_ _) | (with_reducible refine Ext.drewN ?_ _) | (with_reducible refine Ext.drew ?_) | (with_reducible refine Ext.trans ?_ (by with_reducible assumption)) | go_size))
  have hbs : wb.heap.size = w.heap.size + 1 := by rw [hwb]; simp [go_sem]
  have HBS := Lib.hid hbs
  rw [← hwb]
  clear hwb hbs
  go_loopw [10, 17] (fun ov kv wr => ∃ k : Nat, kv = .int .i64 k ∧ k ≤ m ∧ (∃ A4 n4 c4, ov = .slice A4 n4 c4 ∧ n4 ≤ k ∧ Hid (∃ out, OwI wr (w.heap.size + 1) A4 n4 c4 out ∧ prjGo ar pj ps (set.drop k) out = o)) ∧ Ext wb wr) (fun _ kv _ => m - (intOf kv).toNat)
  case atStart => exact ⟨0, rfl, Nat.zero_le _, ⟨none, 0, 0, rfl, Nat.le_refl _, Lib.hid ⟨[], ⟨by omega, World.ownsRow_nil _ _ _ _⟩, HO.out⟩⟩, Ext.refl _⟩
  case round =>
    obtain ⟨k, rfl, hk, ⟨A4, n4, c4, rfl, hn4, hO⟩, hE⟩ := hrel
    obtain ⟨out, hO4, hG4⟩ := hO.out
    have HO4 := Lib.hid hO4
    have HG4 := Lib.hid hG4
    clear hO hO4 hG4
    have hEw : Ext w wr := Ext.trans hEb hE
    have hr0 := Ext.keep hE hb0
    by_cases hlt : k < m
    · obtain ⟨b', o', x, rfl, hx, hcx⟩ := RI.at_ (RI.ext HD.out hEw) hlt
      have hxs := (HST.out k x hx).1
      obtain ⟨z, rfl⟩ := Int.eq_ofNat_of_zero_le hxs.1
      have hzn : z < n := by omega
      obtain ⟨q, b, o2, A1, n1, c1, A2, n2, c2, hq, rfl, hc0, hc1, _, _, hcap1, hcap2, hr1, hr2⟩ := RE.at_ (RE.ext HA.out hEw) hzn
      have hqp := HPP.out q (List.mem_of_getElem? hq)
      have HX := Lib.hid hx
      have HQ := Lib.hid hq
      have HC1 := Lib.hid hcap1
      have HC2 := Lib.hid hcap2
      have HR1 := Lib.hid hr1
      have HR2 := Lib.hid hr2
      have HQ1 := Lib.hid hqp.1
      have HQ2 := Lib.hid hqp.2
      have hki : (k : Int) < (m : Int) := by omega
      have hk0 : (0 : Int) ≤ (k : Int) := by omega
      have hzi : (z : Int) < (n : Int) := by omega
      have hz0 : (0 : Int) ≤ (z : Int) := by omega
      have hbl := World.block_lt_of_cell? wr _ hc0
      clear hx hxs hq hqp hcap1 hcap2 hr1 hr2
      obtain ⟨ol, hol⟩ : ∃ ol, argO ar pj q.l = ol := ⟨_, rfl⟩
      obtain ⟨orr, hor⟩ : ∃ orr, argO ar pj q.r = orr := ⟨_, rfl⟩
      have HOL := Lib.hid hol
      have HOR := Lib.hid hor
      clear hol hor
      go_wp2_with fail
      refine wp_region_held_drew (S := (fun w' => w'.cell? ⟨w.heap.size, 0, none⟩ = some (.slice S sn sc) ∧ w'.cell? ⟨b, o2 + z * 4, none⟩ = some (.slice A1 n1 c1) ∧ w'.cell? ⟨b, o2 + z * 4 + 1, none⟩ = some (.slice A2 n2 c2) ∧ Ext wr w')) (by kernel_rfl) ?_ (fun hH => ?_)
      · exact ⟨hr0, hc0, hc1, (Ext.refl wr).drew⟩
      refine wpAnyH_take_dst (i := 0) (v := .agg #[.slice S sn sc]) (d := some 21) rfl rfl (by kernel_rfl) (by kernel_rfl) (by kernel_rfl) (fun _ _ _ h => h) (Or.inl ⟨by rfl, ?_⟩) hH ?_
      · (intro w hSw; (try dsimp only at hSw); go_split_ands; go_simp; try with_reducible rfl)
      try simp only [Act.put, List.setIfInBounds_toArray, List.set_cons_zero, List.set_cons_succ]
      refine wpAnyH_take_dst (i := 1) (v := .slice J jn jc) (d := some 22) rfl rfl (by kernel_rfl) (by kernel_rfl) (by kernel_rfl) (fun _ _ _ h => h) (Or.inl ⟨by rfl, ?_⟩) hH ?_
      · (intro w hSw; (try dsimp only at hSw); go_split_ands; go_simp; try with_reducible rfl)
      try simp only [Act.put, List.setIfInBounds_toArray, List.set_cons_zero, List.set_cons_succ]
      refine wpAnyH_take_dst (i := 2) (v := .slice (some ⟨b, o2, none⟩) n c) (d := some 23) rfl rfl (by kernel_rfl) (by kernel_rfl) (by kernel_rfl) (fun _ _ _ h => h) (Or.inl ⟨by rfl, ?_⟩) hH ?_
      · (intro w hSw; (try dsimp only at hSw); go_split_ands; go_simp; try with_reducible rfl)
      try simp only [Act.put, List.setIfInBounds_toArray, List.set_cons_zero, List.set_cons_succ]
      refine wpAnyH_take_dst (i := 3) (v := .int .i64 (z : Int)) (d := some 24) rfl rfl (by kernel_rfl) (by kernel_rfl) (by kernel_rfl) (fun _ _ _ h => h) (Or.inl ⟨by rfl, ?_⟩) hH ?_
      · (intro w hSw; (try dsimp only at hSw); go_split_ands; go_simp; try with_reducible rfl)
      try simp only [Act.put, List.setIfInBounds_toArray, List.set_cons_zero, List.set_cons_succ]
      refine wpAnyH_take_dst (i := 4) (v := .pointer (some ⟨b, o2 + z * 4, none⟩)) (d := some 25) rfl rfl (by kernel_rfl) (by kernel_rfl) (by kernel_rfl) (fun _ _ _ h => h) (Or.inl ⟨by rfl, ?_⟩) hH ?_
      · (intro w hSw; (try dsimp only at hSw); go_split_ands; go_simp; try with_reducible rfl)
      try simp only [Act.put, List.setIfInBounds_toArray, List.set_cons_zero, List.set_cons_succ]
      refine wpAnyH_take_dst (i := 5) (v := .pointer (some ⟨b, o2 + z * 4, none⟩)) (d := some 26) rfl rfl (by kernel_rfl) (by kernel_rfl) (by kernel_rfl) (fun _ _ _ h => h) (Or.inl ⟨by rfl, ?_⟩) hH ?_
      · (intro w hSw; (try dsimp only at hSw); go_split_ands; go_simp; try with_reducible rfl)
      try simp only [Act.put, List.setIfInBounds_toArray, List.set_cons_zero, List.set_cons_succ]
      refine wpAnyH_take_dst (i := 6) (v := .slice A1 n1 c1) (d := some 27) rfl rfl (by kernel_rfl) (by kernel_rfl) (by kernel_rfl) (fun _ _ _ h => h) (Or.inl ⟨by rfl, ?_⟩) hH ?_
      · (intro w hSw; (try dsimp only at hSw); go_split_ands; go_simp; try with_reducible rfl)
      try simp only [Act.put, List.setIfInBounds_toArray, List.set_cons_zero, List.set_cons_succ]
      refine wpAnyH_take_dst (i := 8) (v := .agg #[.slice S sn sc]) (d := some 29) rfl rfl (by kernel_rfl) (by kernel_rfl) (by kernel_rfl) (fun _ _ _ h => h) (Or.inl ⟨by rfl, ?_⟩) hH ?_
      · (intro w hSw; (try dsimp only at hSw); go_split_ands; go_simp; try with_reducible rfl)
      try simp only [Act.put, List.setIfInBounds_toArray, List.set_cons_zero, List.set_cons_succ]
      refine wpAnyH_take_dst (i := 9) (v := .slice J jn jc) (d := some 30) rfl rfl (by kernel_rfl) (by kernel_rfl) (by kernel_rfl) (fun _ _ _ h => h) (Or.inl ⟨by rfl, ?_⟩) hH ?_
      · (intro w hSw; (try dsimp only at hSw); go_split_ands; go_simp; try with_reducible rfl)
      try simp only [Act.put, List.setIfInBounds_toArray, List.set_cons_zero, List.set_cons_succ]
      refine wpAnyH_take_dst (i := 10) (v := .slice (some ⟨b, o2, none⟩) n c) (d := some 31) rfl rfl (by kernel_rfl) (by kernel_rfl) (by kernel_rfl) (fun _ _ _ h => h) (Or.inl ⟨by rfl, ?_⟩) hH ?_
      · (intro w hSw; (try dsimp only at hSw); go_split_ands; go_simp; try with_reducible rfl)
      try simp only [Act.put, List.setIfInBounds_toArray, List.set_cons_zero, List.set_cons_succ]
      refine wpAnyH_take_dst (i := 11) (v := .int .i64 (z : Int)) (d := some 32) rfl rfl (by kernel_rfl) (by kernel_rfl) (by kernel_rfl) (fun _ _ _ h => h) (Or.inl ⟨by rfl, ?_⟩) hH ?_
      · (intro w hSw; (try dsimp only at hSw); go_split_ands; go_simp; try with_reducible rfl)
      try simp only [Act.put, List.setIfInBounds_toArray, List.set_cons_zero, List.set_cons_succ]
      refine wpAnyH_take_dst (i := 12) (v := .pointer (some ⟨b, o2 + z * 4, none⟩)) (d := some 33) rfl rfl (by kernel_rfl) (by kernel_rfl) (by kernel_rfl) (fun _ _ _ h => h) (Or.inl ⟨by rfl, ?_⟩) hH ?_
      · (intro w hSw; (try dsimp only at hSw); go_split_ands; go_simp; try with_reducible rfl)
      try simp only [Act.put, List.setIfInBounds_toArray, List.set_cons_zero, List.set_cons_succ]
      refine wpAnyH_take_dst (i := 13) (v := .pointer (some ⟨b, o2 + z * 4 + 1, none⟩)) (d := some 34) rfl rfl (by kernel_rfl) (by kernel_rfl) (by kernel_rfl) (fun _ _ _ h => h) (Or.inl ⟨by rfl, ?_⟩) hH ?_
      · (intro w hSw; (try dsimp only at hSw); go_split_ands; go_simp; try with_reducible rfl)
      try simp only [Act.put, List.setIfInBounds_toArray, List.set_cons_zero, List.set_cons_succ]
      refine wpAnyH_take_dst (i := 14) (v := .slice A2 n2 c2) (d := some 35) rfl rfl (by kernel_rfl) (by kernel_rfl) (by kernel_rfl) (fun _ _ _ h => h) (Or.inl ⟨by rfl, ?_⟩) hH ?_
      · (intro w hSw; (try dsimp only at hSw); go_split_ands; go_simp; try with_reducible rfl)
      try simp only [Act.put, List.setIfInBounds_toArray, List.set_cons_zero, List.set_cons_succ]
      refine wpAnyH_ready (rs := [7]) (by kernel_rfl) (by simp) ?_
      refine AllReadyH.cons rfl (fun K hK => ?_) AllReadyH.nil
      rw [if_pos (by rfl)]
      go_wp2_with (go_at_call 114; (with_reducible refine ((c_projected HOL.out (RdSig.mk (RI.ext HS.out (Ext.trans hEw hH.2.2.2))) (RdI.mk (RI.ext HJ.out (Ext.trans hEw hH.2.2.2))) (RdIc.mk HC1.out (RI.ext HR1.out hH.2.2.2)) HPR.out HQ1.out.1 HQ1.out.2)).mono ?_); rintro e w6 ⟨⟨A6, n6, c6, rfl, hcap6, hr6, hE9⟩, hnn6⟩)
      refine hK.out _ _ ⟨Ext.keep hE9 hH.1, Ext.keep hE9 hH.2.1, Ext.keep hE9 hH.2.2.1, Ext.trans hH.2.2.2 hE9⟩ (fun hH9 => ?_)
      clear hK hH; have hH := hH9; clear hH9
      try simp only [Act.put, List.setIfInBounds_toArray, List.set_cons_zero, List.set_cons_succ]
      refine wpAnyH_ready (rs := [15]) (by kernel_rfl) (by simp) ?_
      refine AllReadyH.cons rfl (fun K hK => ?_) AllReadyH.nil
      rw [if_pos (by rfl)]
      go_wp2_with (go_at_call 114; (with_reducible refine ((c_projected HOR.out (RdSig.mk (RI.ext HS.out (Ext.trans hEw hH.2.2.2))) (RdI.mk (RI.ext HJ.out (Ext.trans hEw hH.2.2.2))) (RdIc.mk HC2.out (RI.ext HR2.out hH.2.2.2)) HPR.out HQ2.out.1 HQ2.out.2)).mono ?_); rintro e w7 ⟨⟨A7, n7, c7, rfl, hcap7, hr7, hE9⟩, hnn7⟩)
      refine hK.out _ _ ⟨Ext.keep hE9 hH.1, Ext.keep hE9 hH.2.1, Ext.keep hE9 hH.2.2.1, Ext.trans hH.2.2.2 hE9⟩ (fun hH9 => ?_)
      clear hK hH; have hH := hH9; clear hH9
      try simp only [Act.put, List.setIfInBounds_toArray, List.set_cons_zero, List.set_cons_succ]
      refine wpAnyH_take_dst (i := 16) (v := .slice A6 n6 c6) (d := some 13) rfl rfl (by kernel_rfl) (by kernel_rfl) (by kernel_rfl) (fun _ _ _ h => h) (Or.inl ⟨by rfl, ?_⟩) hH ?_
      · (intro w hSw; (try dsimp only at hSw); go_split_ands; go_simp; try with_reducible rfl)
      try simp only [Act.put, List.setIfInBounds_toArray, List.set_cons_zero, List.set_cons_succ]
      refine wpAnyH_take_dst (i := 17) (v := .slice A7 n7 c7) (d := some 14) rfl rfl (by kernel_rfl) (by kernel_rfl) (by kernel_rfl) (fun _ _ _ h => h) (Or.inl ⟨by rfl, ?_⟩) hH ?_
      · (intro w hSw; (try dsimp only at hSw); go_split_ands; go_simp; try with_reducible rfl)
      try simp only [Act.put, List.setIfInBounds_toArray, List.set_cons_zero, List.set_cons_succ]
      refine wpAnyH_done (by kernel_rfl) ?_ _
      have hEr := hH.2.2.2
      have hr7' := hH.1
      have hE7w := Ext.trans hEw hEr
      have hE7b := Ext.trans hE hEr
      have HR6 := Lib.hid (RI.ext hr6 hE9)
      have HR7 := Lib.hid hr7
      have HO7 := Lib.hid (HO4.out.ext hEr)
      clear hH hr6 hr7
      cases ol with
      | none =>
        have h5 := hnn6 rfl
        injection h5 with h5; injection h5 with h5 h6 h7
        subst h5 h6 h7
        have HP := Lib.hid (show o = none by rw [← HG4.out]; exact prjGo_none HX.out HQ.out (prjSt_l HOL.out))
        go_wp2_with fail
        refine bodyPost_ret (v := .tuple #[.slice none 0 0, .bool false]) (by simp [results, Try.results75, go_sem]) rfl ?_
        rw [HP.out]
        exact ⟨none, 0, 0, rfl, ⟨by omega, World.ownsRow_nil _ _ _ _⟩, hE7w⟩
      | some l =>
        have HL := Lib.hid (arg_pos HPR.out HQ1.out.1 HQ1.out.2 HOL.out)
        have hl1 := HL.out.1
        have hl6 := HR6.out.len
        simp only [Option.getD_some] at hl6
        obtain ⟨b6, o6, rfl, _⟩ := HR6.out.2 (by omega)
        cases orr with
        | none =>
          have h5 := hnn7 rfl
          injection h5 with h5; injection h5 with h5 h6 h7
          subst h5 h6 h7
          have HP := Lib.hid (show o = none by rw [← HG4.out]; exact prjGo_none HX.out HQ.out (prjSt_r HOR.out))
          go_wp2_with fail
          refine bodyPost_ret (v := .tuple #[.slice none 0 0, .bool false]) (by simp [results, Try.results75, go_sem]) rfl ?_
          rw [HP.out]
          exact ⟨none, 0, 0, rfl, ⟨by omega, World.ownsRow_nil _ _ _ _⟩, hE7w⟩
        | some r =>
          have HRR := Lib.hid (arg_pos HPR.out HQ2.out.1 HQ2.out.2 HOR.out)
          have hrr1 := HRR.out.1
          have hl7 := HR7.out.len
          simp only [Option.getD_some] at hl7
          obtain ⟨b7, o7, rfl, _⟩ := HR7.out.2 (by omega)
          cases h00 : has0 ar l r with
          | false =>
            have HP := Lib.hid (show o = none by rw [← HG4.out]; exact prjGo_none HX.out HQ.out (prjSt_n HOL.out HOR.out h00))
            go_wp2_with fail
            (with_reducible refine (c_hasSub0 (t := l) (u := r) h00 (RdSig.mk (RI.ext HS.out hE7w)) (RdIc.mk hcap6 HR6.out) (RdI.mk HR7.out) HL.out.2).mono ?_)
            rintro e8 w8 ⟨rfl, hE8⟩
            go_wp2_with fail
            refine bodyPost_ret (v := .tuple #[.slice none 0 0, .bool false]) (by simp [results, Try.results75, go_sem]) rfl ?_
            rw [HP.out]
            exact ⟨none, 0, 0, rfl, ⟨by omega, World.ownsRow_nil _ _ _ _⟩, Ext.trans hE7w hE8⟩
          | true =>
            cases h11 : has ar l r with
            | false =>
              have HP := Lib.hid (show prjGo ar pj ps (set.drop (k + 1)) out = o by rw [← HG4.out]; exact (prjGo_stay HX.out HQ.out (prjSt_s HOL.out HOR.out h00 h11)).symm)
              go_wp2_with fail
              (with_reducible refine (c_hasSub0 (t := l) (u := r) h00 (RdSig.mk (RI.ext HS.out hE7w)) (RdIc.mk hcap6 HR6.out) (RdI.mk HR7.out) HL.out.2).mono ?_)
              rintro e8 w8 ⟨rfl, hE8⟩
              have hr8 := Ext.keep hE8 hr7'
              have hE8w := Ext.trans hE7w hE8
              go_wp2_with fail
              (with_reducible refine (c_hasSub1 (t := l) (u := r) h11 (RdSig.mk (RI.ext HS.out hE8w)) (RdIc.mk hcap6 (RI.ext HR6.out hE8)) (RdI.mk (RI.ext HR7.out hE8)) HL.out.2).mono ?_)
              rintro e9 w9 ⟨rfl, hE9'⟩
              go_wp2_with fail
              go_roundw
              case rel => exact ⟨k + 1, by go_num, by omega, ⟨_, _, _, rfl, by omega, Lib.hid ⟨out, (HO7.out.ext hE8).ext hE9', HP.out⟩⟩, Ext.trans hE7b (Ext.trans hE8 hE9')⟩
              case measure => simp only [intOf]; omega
            | true =>
              have HP := Lib.hid (show prjGo ar pj ps (set.drop (k + 1)) (out ++ [(z : Int)]) = o by rw [← HG4.out]; exact (prjGo_go HX.out HQ.out (prjSt_s HOL.out HOR.out h00 h11)).symm)
              go_wp2_with fail
              (with_reducible refine (c_hasSub0 (t := l) (u := r) h00 (RdSig.mk (RI.ext HS.out hE7w)) (RdIc.mk hcap6 HR6.out) (RdI.mk HR7.out) HL.out.2).mono ?_)
              rintro e8 w8 ⟨rfl, hE8⟩
              have hr8 := Ext.keep hE8 hr7'
              have hE8w := Ext.trans hE7w hE8
              go_wp2_with fail
              (with_reducible refine (c_hasSub1 (t := l) (u := r) h11 (RdSig.mk (RI.ext HS.out hE8w)) (RdIc.mk hcap6 (RI.ext HR6.out hE8)) (RdI.mk (RI.ext HR7.out hE8)) HL.out.2).mono ?_)
              rintro e9 w9 ⟨rfl, hE9'⟩
              have HO9 := Lib.hid ((HO7.out.ext hE8).ext hE9')
              have hE9b := Ext.trans hE7b (Ext.trans hE8 hE9')
              have hsz9 := hE9b.size
              have hbz := HBS.out
              go_wp2_with (at_builtin; go_loud (refine wpList_append_lies _ rfl (.tmp 54) (.tmp 56) 22 rfl (w.heap.size + 1) 2 i0 (.int .i64 0) 1 8 Try.underlying22 hii hiz his hib rfl (by decide) _ _ _ rfl (OwI.alloc HO9.out _).2 ⟨w9.heap.size, 0, none⟩ 1 1 [.int .i64 (z : Int)] rfl rfl (one_cells _ _ _) (one_one _) (by decide) (by unfold maxLen; omega) (by omega) (by go_size) _ rfl ?_))
              intro g4 cap wx hown hg hat hltg
              have HON := Lib.hid (show OwI wx (w.heap.size + 1) (some ⟨g4, 0, none⟩) (n4 + 1) cap (out ++ [(z : Int)]) from ⟨by omega, by simpa using hown⟩)
              have hob := OwI.ob2 HO9.out
              have hEx : Ext wb wx := Ext.grown (hE9b.alloc _) hg (fun b hb => by have := (hob b hb).1; omega)
              clear hown hg hat hob
              go_wp2
              go_roundw
              case rel => exact ⟨k + 1, by go_num, by omega, ⟨_, _, _, rfl, by omega, Lib.hid ⟨_, HON.out, HP.out⟩⟩, hEx⟩
              case measure => simp only [intOf]; omega
    · obtain rfl : k = m := by omega
      have HP := Lib.hid (show o = some out by rw [← HG4.out]; exact prjGo_end (by omega))
      go_wp2_with fail
      refine bodyPost_ret (v := .tuple #[.slice A4 n4 c4, .bool true]) (by simp [results, Try.results75, go_sem]) rfl ?_
      rw [HP.out]
      exact ⟨A4, n4, c4, rfl, HO4.out.lower (Nat.le_succ _), hEw⟩

theorem c_iProjOk' {v0 v1 : Value} {ar pr : List Int} {b : Bool} {w : World} (hb : projOk ar pr = b) (h0 : RdSig w v0 ar) (h1 : RdI w v1 pr) :
    Calls Try.prog 37 #[v0, v1] w fun e w' => e = .returned (.bool b) ∧ Ext w w' := by subst hb; exact c_iProjOk h0 h1
set_option maxRecDepth 100000 in
set_option maxHeartbeats 4000000 in
theorem c_iProjectedBy {v0 v1 v2 : Value} {s : Sy} {set pj : List Int} {o : Option (List Int)} {w : World} (ho : prjV s set pj = o) (h0 : RdSyC w v0 s) (h1 : RdI w v1 set) (h2 : RdI w v2 pj) :
    Calls Try.prog 35 #[v0, v1, v2] w (NewOb w o) := by
  obtain ⟨A0, n0, c0, B0, m0, d0, rfl, ha, hb⟩ := h0
  obtain ⟨D, m, d, rfl, hd⟩ := h1
  obtain ⟨J, jn, jc, rfl, hj⟩ := h2
  have HA := Lib.hid ha
  have HB := Lib.hid hb
  have HD := Lib.hid hd
  have HJ := Lib.hid hj
  clear ha hb hd hj
  cases hpb : prB s with
  | false =>
    have HO := Lib.hid (show o = none by rw [← ho]; exact prjV_no1 hpb)
    clear ho
    go_enter Try.func35, Try.ntmps35
    go_wp2_with fail
    (with_reducible refine (c_iPairsOf rfl hpb (RdSyK.mk (RI.ext HA.out (by (repeat' (first | (with_reducible exact Ext.refl _) | (with_reducible assumption) | (with_reducible refine Ext.alloc ?_ _) | (with_reducible refine Ext.set ?_ ?_ _) | (with_reducible refine Ext.drewN ?_ _) | (with_reducible refine Ext.drew ?_) | (with_reducible refine Ext.trans ?_ (by with_reducible assumption)) | go_size)))) (RR.ext HB.out (by (repeat' (first | (with_reducible exact Ext.refl _) | (with_reducible assumption) | (with_reducible refine Ext.alloc ?_ _) | (with_reducible refine Ext.set ?_ ?_ _) | (with_reducible refine Ext.drewN ?_ _) | (with_reducible refine Ext.drew ?_) | (with_reducible refine Ext.trans ?_ (by with_reducible assumption)) | go_size)))))).mono ?_)
    rintro e w2 ⟨A2, n2, c2, rfl, hO2, hE2⟩
    clear hO2
    go_wp2_with fail
    refine bodyPost_ret (v := .tuple #[.slice none 0 0, .bool false]) (by simp [results, Try.results35, go_sem]) rfl ?_
    rw [HO.out]
    exact ⟨none, 0, 0, rfl, ⟨by omega, World.ownsRow_nil _ _ _ _⟩, by (repeat' (first | (with_reducible exact Ext.refl _) | (with_reducible assumption) | (with_reducible refine Ext.alloc ?_ _) | (with_reducible refine Ext.set ?_ ?_ _) | (with_reducible refine Ext.drewN ?_ _) | (with_reducible refine Ext.drew ?_) | (with_reducible refine Ext.trans ?_ (by with_reducible assumption)) | go_size))⟩
  | true =>
    have HPB := Lib.hid hpb
    go_enter Try.func35, Try.ntmps35
    go_wp2_with fail
    (with_reducible refine (c_iPairsOf rfl hpb (RdSyK.mk (RI.ext HA.out (by (repeat' (first | (with_reducible exact Ext.refl _) | (with_reducible assumption) | (with_reducible refine Ext.alloc ?_ _) | (with_reducible refine Ext.set ?_ ?_ _) | (with_reducible refine Ext.drewN ?_ _) | (with_reducible refine Ext.drew ?_) | (with_reducible refine Ext.trans ?_ (by with_reducible assumption)) | go_size)))) (RR.ext HB.out (by (repeat' (first | (with_reducible exact Ext.refl _) | (with_reducible assumption) | (with_reducible refine Ext.alloc ?_ _) | (with_reducible refine Ext.set ?_ ?_ _) | (with_reducible refine Ext.drewN ?_ _) | (with_reducible refine Ext.drew ?_) | (with_reducible refine Ext.trans ?_ (by with_reducible assumption)) | go_size)))))).mono ?_)
    rintro e w2 ⟨A2, n2, c2, rfl, hO2, hE2⟩
    have hlen := hO2.1.2.1
    have h64 := prV_le hpb
    rw [hlen] at h64
    have HR2 := Lib.hid hO2.re
    have hEw2 : Ext w w2 := by (repeat' (first | (with_reducible exact Ext.refl _) | (with_reducible assumption) | (with_reducible refine Ext.alloc ?_ _) | (with_reducible refine Ext.set ?_ ?_ _) | (with_reducible refine Ext.drewN ?_ _) | (with_reducible refine Ext.drew ?_) | (with_reducible refine Ext.trans ?_ (by with_reducible assumption)) | go_size))
    have hb0 : w2.cell? ⟨w.heap.size, 0, none⟩ = some (.slice A0 n0 c0) := Ext.keep hE2 (by simp [go_sem])
    clear hO2
    cases hst : setB (prV s).length set with
    | false =>
      have HO := Lib.hid (show o = none by rw [← ho]; exact prjV_no2 hst)
      rw [hlen] at hst
      clear ho
      go_wp2_with fail
      (with_reducible refine (c_setOk hst (RdI.mk (RI.ext HD.out hEw2)) (by omega)).mono ?_)
      rintro e w3 ⟨rfl, hE3⟩
      go_wp2_with fail
      refine bodyPost_ret (v := .tuple #[.slice none 0 0, .bool false]) (by simp [results, Try.results35, go_sem]) rfl ?_
      rw [HO.out]
      exact ⟨none, 0, 0, rfl, ⟨by omega, World.ownsRow_nil _ _ _ _⟩, by (repeat' (first | (with_reducible exact Ext.refl _) | (with_reducible assumption) | (with_reducible refine Ext.alloc ?_ _) | (with_reducible refine Ext.set ?_ ?_ _) | (with_reducible refine Ext.drewN ?_ _) | (with_reducible refine Ext.drew ?_) | (with_reducible refine Ext.trans ?_ (by with_reducible assumption)) | go_size))⟩
    | true =>
      have HST := Lib.hid (setB_iff.1 hst)
      have hst' := hst
      rw [hlen] at hst'
      cases hpj : projOk s.ar pj with
      | false =>
        have HO := Lib.hid (show o = none by rw [← ho]; exact prjV_no3 hpj)
        clear ho
        go_wp2_with fail
        (with_reducible refine (c_setOk hst' (RdI.mk (RI.ext HD.out hEw2)) (by omega)).mono ?_)
        rintro e w3 ⟨rfl, hE3⟩
        have hEw3 := Ext.trans hEw2 hE3
        have hb3 := Ext.keep hE3 hb0
        go_wp2_with fail
        (with_reducible refine (c_iProjOk' hpj (RdSig.mk (RI.ext HA.out hEw3)) (RdI.mk (RI.ext HJ.out hEw3))).mono ?_)
        rintro e w4 ⟨rfl, hE4⟩
        go_wp2_with fail
        refine bodyPost_ret (v := .tuple #[.slice none 0 0, .bool false]) (by simp [results, Try.results35, go_sem]) rfl ?_
        rw [HO.out]
        exact ⟨none, 0, 0, rfl, ⟨by omega, World.ownsRow_nil _ _ _ _⟩, by (repeat' (first | (with_reducible exact Ext.refl _) | (with_reducible assumption) | (with_reducible refine Ext.alloc ?_ _) | (with_reducible refine Ext.set ?_ ?_ _) | (with_reducible refine Ext.drewN ?_ _) | (with_reducible refine Ext.drew ?_) | (with_reducible refine Ext.trans ?_ (by with_reducible assumption)) | go_size))⟩
      | true =>
        have HO := Lib.hid (show prjGo s.ar pj (prV s) set [] = o by rw [← ho]; exact (prjV_yes hpb hst hpj).symm)
        have HPR := Lib.hid (show ProjP s.ar pj by simpa only [projOk, decide_eq_true_eq] using hpj)
        rw [hlen] at HST
        clear ho
        go_wp2_with fail
        (with_reducible refine (c_setOk hst' (RdI.mk (RI.ext HD.out hEw2)) (by omega)).mono ?_)
        rintro e w3 ⟨rfl, hE3⟩
        have hEw3 := Ext.trans hEw2 hE3
        have hb3 := Ext.keep hE3 hb0
        go_wp2_with fail
        (with_reducible refine (c_iProjOk' hpj (RdSig.mk (RI.ext HA.out hEw3)) (RdI.mk (RI.ext HJ.out hEw3))).mono ?_)
        rintro e w4 ⟨rfl, hE4⟩
        have hEw4 := Ext.trans hEw3 hE4
        have hb4 := Ext.keep hE4 hb3
        go_wp2_with fail
        (with_reducible refine (c_project HO.out (RdSig.mk (RI.ext HA.out hEw4)) (RE.ext HR2.out (Ext.trans hE3 hE4)) (RdI.mk (RI.ext HD.out hEw4)) (RdI.mk (RI.ext HJ.out hEw4)) (prV_ok HPB.out) HPR.out HST.out).mono ?_)
        rintro e w5 ⟨A5, n5, c5, rfl, hO5, hE5⟩
        have HO5 := Lib.hid hO5
        clear hO5
        go_wp2_with fail
        refine bodyPost_ret (v := .tuple #[.slice A5 n5 c5, .bool o.isSome]) (by simp [results, Try.results35, go_sem]) rfl ?_
        exact ⟨A5, n5, c5, rfl, HO5.out.lower (sz_of hEw4), Ext.trans hEw4 hE5⟩

end Go.Proofs.Ytccahngnnfohcaa
