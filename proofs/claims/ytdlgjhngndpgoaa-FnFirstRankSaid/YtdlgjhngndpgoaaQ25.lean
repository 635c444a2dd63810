/- Several texts in one: LpsA. -/
import Derived.Test.YtdlgjhngndpgoaaQ24
import Derived.Test.YtdlgjhngndpgoaaQ20
namespace Go.Proofs.Ytdlgjhngndpgoaa
open Go.RowKit
set_option linter.unusedSimpArgs false
set_option linter.unusedVariables false
def Told (v : Int) (n : Nat) : Prop := (0 < v ↔ 0 < n) ∧ (v = 0 ↔ ¬ 0 < n)
theorem SC.H.at_t {Y : SC} {w : World} {V : Nat → Nat → Int} (h : Y.H w V) (hP : Y.P) {i j : Nat} {x y : Int} {us ss : List Tm} (hA : Y.At i j y ss x us) : w.cell? ⟨Y.tb, Y.tq + j, none⟩ = some (.int .i64 x) := by
  have hj : j < Y.m := by rw [← h.t.len]; exact hA.hj
  obtain ⟨b, o, z, e, hz, hc⟩ := RI.at_ h.t hj
  cases e
  obtain ⟨h1, rest, h2⟩ := subT_ok hP.tt hA.hj
  rw [hA.tj] at h2
  rw [at_of h2] at hz; cases hz
  exact hc
theorem SC.H.at_s {Y : SC} {w : World} {V : Nat → Nat → Int} (h : Y.H w V) (hP : Y.P) {i j : Nat} {x y : Int} {us ss : List Tm} (hA : Y.At i j y ss x us) : w.cell? ⟨Y.sb, Y.so + i, none⟩ = some (.int .i64 y) := by
  have hi : i < Y.k := by rw [← h.s.len]; exact hA.hi
  obtain ⟨b, o, z, e, hz, hc⟩ := RI.at_ h.s hi
  cases e
  obtain ⟨h1, rest, h2⟩ := subT_ok hP.ts hA.hi
  rw [hA.si] at h2
  rw [at_of h2] at hz; cases hz
  exact hc
theorem SC.H.args_t {Y : SC} {w : World} {V : Nat → Nat → Int} (h : Y.H w V) {i j : Nat} {x y : Int} {us ss : List Tm} (hA : Y.At i j y ss x us) : ∃ (A : Option Addr) (c : Nat), w.cell? ⟨Y.qa, j, none⟩ = some (.slice A us.length c) ∧ RI w A us.length (starts (j + 1) us) := by
  obtain ⟨A, c, h1, h2, _⟩ := h.ta j hA.hj
  rw [hA.tj] at h1 h2
  exact ⟨A, c, h1, h2⟩
theorem SC.H.args_s {Y : SC} {w : World} {V : Nat → Nat → Int} (h : Y.H w V) {i j : Nat} {x y : Int} {us ss : List Tm} (hA : Y.At i j y ss x us) : ∃ (A : Option Addr) (c : Nat), w.cell? ⟨Y.pa, i, none⟩ = some (.slice A ss.length c) ∧ RI w A ss.length (starts (i + 1) ss) := by
  obtain ⟨A, c, h1, h2, _⟩ := h.sa i hA.hi
  rw [hA.si] at h1 h2
  exact ⟨A, c, h1, h2⟩
theorem SC.At.pt {Y : SC} (hP : Y.P) {i j k : Nat} {x y : Int} {us ss : List Tm} (hA : Y.At i j y ss x us) {a : Tm} (ha : us[k]? = some a) : pl j us k < Y.t.length ∧ subT Y.ar Y.t (pl j us k) = a := pl_at hP.tt hA.hj hA.tj ha
theorem SC.At.ps {Y : SC} (hP : Y.P) {i j k : Nat} {x y : Int} {us ss : List Tm} (hA : Y.At i j y ss x us) {b : Tm} (hb : ss[k]? = some b) : pl i ss k < Y.s.length ∧ subT Y.ar Y.s (pl i ss k) = b := pl_at hP.ts hA.hi hA.si hb
theorem lq25 : (∀ (l : List Value) (i : Nat) (a : Value), l.toArray.setIfInBounds i a = (l.set i a).toArray) ∧ (∀ (x y : Value) (l : List Value), (x :: l).set 0 y = y :: l) ∧ (∀ (x y : Value) (l : List Value) (n : Nat), (x :: l).set (n + 1) y = x :: l.set n y) := ⟨fun l i a => by simp, fun _ _ _ => rfl, fun _ _ _ _ => rfl⟩
theorem z0q25 {p : Prop} (h : p := by (intro w hSw; (try dsimp only at hSw); go_split_ands; go_simp; try with_reducible rfl)) : p := h
set_option maxRecDepth 100000 in
set_option maxHeartbeats 4000000 in
theorem c_l13Arg {Y : SC} {i j : Nat} {x y : Int} {us ss : List Tm} {V : Nat → Nat → Int} {W : Tm → Tm → Nat} {w : World} {b0 : Bool} (hb0 : argG W us (.node y ss) = b0) (hP : Y.P) (h : Y.H w V) (hA : Y.At i j y ss x us) (hV : ∀ k a, us[k]? = some a → Told (V i (pl j us k)) (W a (.node y ss))) :
    Calls Try.prog 58 #[.pointer (some ⟨Y.g, 0, none⟩), .int .i64 (i : Int), .int .i64 (j : Int)] w fun e w' => e = .returned (.bool b0) ∧ Ext w w' := by
  have hP' := hP
  have hik : i < Y.k := by rw [← h.s.len]; exact hA.hi
  have hjm : j < Y.m := by rw [← h.t.len]; exact hA.hj
  have hkk := h.s.le
  have hmm := h.t.le
  have hi0 : (0 : Int) ≤ (i : Int) := by omega
  have hj0 : (0 : Int) ≤ (j : Int) := by omega
  have hii : (i : Int) < (Y.k : Int) := by omega
  have hjj : (j : Int) < (Y.m : Int) := by omega
  have c1 := h.c1
  have c2 := h.c2
  have c3 := h.c3
  have c4 := h.c4
  have c5 := h.c5
  have c6 := h.c6
  have wy := h.wy i hik
  have HH := Lib.hid h
  have HP := Lib.hid hP
  have HA := Lib.hid hA
  have HV := Lib.hid hV
  have HB0 := Lib.hid hb0
  obtain ⟨A, cA, hca, hra⟩ := h.args_t hA
  have HRA := Lib.hid hra
  have hul := hra.le
  have HI := Lib.hid hA.hi
  clear h hP hP' hA hV hb0 hra
  go_enter Try.func58, Try.ntmps58
  go_wp2_with fail
  go_loopw [7] (fun iv wr => ∃ q : Nat, iv = .int .i64 q ∧ q ≤ us.length ∧ Hid (∀ (p : Nat) (a : Tm), p < q → us[p]? = some a → a ≠ .node y ss ∧ ¬ 0 < W a (.node y ss)) ∧ Ext w wr) (fun iv _ => us.length - (intOf iv).toNat)
  case atStart => exact ⟨0, rfl, Nat.zero_le _, Lib.hid (fun p a hp => by omega), Ext.refl _⟩
  case round =>
    obtain ⟨q, rfl, hq, hno, hE⟩ := hrel
    have HHr := Lib.hid (HH.out.ext hE)
    have r5 := Ext.keep hE c5
    have r6 := Ext.keep hE c6
    have ra := Ext.keep hE hca
    have ry := Ext.keep hE wy
    by_cases hlt : q < us.length
    · obtain ⟨a, ha⟩ : ∃ a, us[q]? = some a := ⟨us[q], List.getElem?_eq_getElem hlt⟩
      obtain ⟨hpq, hsub⟩ := HA.out.pt HP.out ha
      obtain ⟨b, o, rfl, hcx⟩ := RI.starts_at (RI.ext HRA.out hE) hlt
      have hv := HV.out q a ha
      obtain ⟨P1, hP1⟩ : ∃ P1, P1 = pl j us q := ⟨_, rfl⟩
      rw [← hP1] at hcx hpq hsub hv
      have hpm : P1 < Y.m := by rw [← HH.out.t.len]; exact hpq
      obtain ⟨vv, hvv⟩ : ∃ vv, vv = V i P1 := ⟨_, rfl⟩
      rw [← hvv] at hv
      have rv : wr.cell? ⟨Y.row i, P1, none⟩ = some (.int .i64 vv) := by rw [hvv]; exact HHr.out.v i P1 hik hpm
      have hq1 : (q : Int) < (us.length : Int) := by omega
      have hq0 : (0 : Int) ≤ (q : Int) := by omega
      have hp1 : (P1 : Int) < (Y.m : Int) := by omega
      have hp0 : (0 : Int) ≤ (P1 : Int) := by omega
      have HPQ := Lib.hid hpq
      have HVV := Lib.hid hv
      have HAK := Lib.hid ha
      have HEQ := Lib.hid (show ((subT Y.ar Y.s i).flat == (subT Y.ar Y.t P1).flat) = true ↔ a = .node y ss by
        rw [hsub, HA.out.si, beq_iff_eq]
        have e := flat_eq (HA.out.ok HP.out).1 (OkL_iff.1 (Ok_node.1 (HA.out.ok HP.out).2).2 a (List.mem_of_getElem? ha))
        rw [e]; exact eq_comm)
      clear ha hpq hsub hv hP1 hvv
      by_cases heq : a = .node y ss
      · have HSE := Lib.hid (HEQ.out.2 heq)
        have HR := Lib.hid (HB0.out.symm.trans (argG_t HAK.out (.inl heq)))
        clear heq
        go_wp2_with fail
        refine wp_region_held_drew (S := (fun w' => Ext wr w' ∧ w'.cell? ⟨Y.g, 5, none⟩ = some (.slice (some ⟨Y.qa, 0, none⟩) Y.m Y.qc) ∧ w'.cell? ⟨Y.g, 6, none⟩ = some (.slice (some ⟨Y.wb, 0, none⟩) Y.k Y.wc) ∧ w'.cell? ⟨Y.qa, j, none⟩ = some (.slice (some ⟨b, o, none⟩) us.length cA) ∧ w'.cell? ⟨b, o + q, none⟩ = some (.int .i64 (P1 : Int)) ∧ w'.cell? ⟨Y.wb, i, none⟩ = some (.slice (some ⟨Y.row i, 0, none⟩) Y.m Y.m) ∧ w'.cell? ⟨Y.row i, P1, none⟩ = some (.int .i64 vv))) (by kernel_rfl) ?_ (fun hH => ?_)
        · exact ⟨(Ext.refl wr).drew, r5, r6, ra, hcx, ry, rv⟩
        refine wpAnyH_take_dst (i := 0) (v := .pointer (some ⟨Y.g, 0, none⟩)) (d := some 20) rfl rfl (by kernel_rfl) (by kernel_rfl) (by kernel_rfl) (fun _ _ _ h => h) (Or.inl ⟨by rfl, ?_⟩) hH ?_
        · exact z0q25
        try simp only [Act.put, lq25]
        refine wpAnyH_take_dst (i := 1) (v := .int .i64 (i : Int)) (d := some 21) rfl rfl (by kernel_rfl) (by kernel_rfl) (by kernel_rfl) (fun _ _ _ h => h) (Or.inl ⟨by rfl, ?_⟩) hH ?_
        · exact z0q25
        try simp only [Act.put, lq25]
        refine wpAnyH_take_dst (i := 2) (v := .pointer (some ⟨Y.g, 0, none⟩)) (d := some 22) rfl rfl (by kernel_rfl) (by kernel_rfl) (by kernel_rfl) (fun _ _ _ h => h) (Or.inl ⟨by rfl, ?_⟩) hH ?_
        · exact z0q25
        try simp only [Act.put, lq25]
        refine wpAnyH_take_dst (i := 3) (v := .pointer (some ⟨Y.g, 0, none⟩)) (d := some 23) rfl rfl (by kernel_rfl) (by kernel_rfl) (by kernel_rfl) (fun _ _ _ h => h) (Or.inl ⟨by rfl, ?_⟩) hH ?_
        · exact z0q25
        try simp only [Act.put, lq25]
        refine wpAnyH_take_dst (i := 4) (v := .pointer (some ⟨Y.g, 5, none⟩)) (d := some 24) rfl rfl (by kernel_rfl) (by kernel_rfl) (by kernel_rfl) (fun _ _ _ h => h) (Or.inl ⟨by rfl, ?_⟩) hH ?_
        · exact z0q25
        try simp only [Act.put, lq25]
        refine wpAnyH_take_dst (i := 5) (v := .slice (some ⟨Y.qa, 0, none⟩) Y.m Y.qc) (d := some 25) rfl rfl (by kernel_rfl) (by kernel_rfl) (by kernel_rfl) (fun _ _ _ h => h) (Or.inl ⟨by rfl, ?_⟩) hH ?_
        · exact z0q25
        try simp only [Act.put, lq25]
        refine wpAnyH_take_dst (i := 6) (v := .int .i64 (j : Int)) (d := some 26) rfl rfl (by kernel_rfl) (by kernel_rfl) (by kernel_rfl) (fun _ _ _ h => h) (Or.inl ⟨by rfl, ?_⟩) hH ?_
        · exact z0q25
        try simp only [Act.put, lq25]
        refine wpAnyH_take_dst (i := 7) (v := .pointer (some ⟨Y.qa, j, none⟩)) (d := some 27) rfl rfl (by kernel_rfl) (by kernel_rfl) (by kernel_rfl) (fun _ _ _ h => h) (Or.inl ⟨by rfl, ?_⟩) hH ?_
        · exact z0q25
        try simp only [Act.put, lq25]
        refine wpAnyH_take_dst (i := 8) (v := .slice (some ⟨b, o, none⟩) us.length cA) (d := some 28) rfl rfl (by kernel_rfl) (by kernel_rfl) (by kernel_rfl) (fun _ _ _ h => h) (Or.inl ⟨by rfl, ?_⟩) hH ?_
        · exact z0q25
        try simp only [Act.put, lq25]
        refine wpAnyH_take_dst (i := 9) (v := .int .i64 (q : Int)) (d := some 29) rfl rfl (by kernel_rfl) (by kernel_rfl) (by kernel_rfl) (fun _ _ _ h => h) (Or.inl ⟨by rfl, ?_⟩) hH ?_
        · exact z0q25
        try simp only [Act.put, lq25]
        refine wpAnyH_take_dst (i := 10) (v := .pointer (some ⟨b, o + q, none⟩)) (d := some 30) rfl rfl (by kernel_rfl) (by kernel_rfl) (by kernel_rfl) (fun _ _ _ h => h) (Or.inl ⟨by rfl, ?_⟩) hH ?_
        · exact z0q25
        try simp only [Act.put, lq25]
        refine wpAnyH_take_dst (i := 11) (v := .int .i64 (P1 : Int)) (d := some 31) rfl rfl (by kernel_rfl) (by kernel_rfl) (by kernel_rfl) (fun _ _ _ h => h) (Or.inl ⟨by rfl, ?_⟩) hH ?_
        · exact z0q25
        try simp only [Act.put, lq25]
        refine wpAnyH_ready (rs := [12]) (by kernel_rfl) (by simp) ?_
        refine AllReadyH.cons rfl (fun K hK => ?_) AllReadyH.nil
        rw [if_pos (by rfl)]
        go_wp2_with (go_at_call 80; (with_reducible refine ((c_l13Same HSE.out HP.out (HHr.out.ext hH.1) HI.out HPQ.out)).mono ?_); rintro e w5 ⟨rfl, hE9⟩)
        refine hK.out _ _ ⟨Ext.trans hH.1 hE9, Ext.keep hE9 hH.2.1, Ext.keep hE9 hH.2.2.1, Ext.keep hE9 hH.2.2.2.1, Ext.keep hE9 hH.2.2.2.2.1, Ext.keep hE9 hH.2.2.2.2.2.1, Ext.keep hE9 hH.2.2.2.2.2.2⟩ (fun hH9 => ?_)
        clear hK hH; have hH := hH9; clear hH9
        try simp only [Act.put, lq25]
        refine wpAnyH_take_dst (i := 13) (v := .bool true) (d := some 33) rfl rfl (by kernel_rfl) (by kernel_rfl) (by kernel_rfl) (fun _ _ _ h => h) (Or.inl ⟨by rfl, ?_⟩) hH ?_
        · exact z0q25
        try simp only [Act.put, lq25]
        refine wpAnyH_take_dst (i := 14) (v := undef) (d := some 34) rfl rfl (by kernel_rfl) (by kernel_rfl) (by kernel_rfl) (fun _ _ _ h => h) (Or.inr ⟨by rfl, rfl⟩) hH ?_
        try simp only [Act.put, lq25]
        refine wpAnyH_take_dst (i := 15) (v := undef) (d := some 35) rfl rfl (by kernel_rfl) (by kernel_rfl) (by kernel_rfl) (fun _ _ _ h => h) (Or.inr ⟨by rfl, rfl⟩) hH ?_
        try simp only [Act.put, lq25]
        refine wpAnyH_take_dst (i := 16) (v := undef) (d := some 36) rfl rfl (by kernel_rfl) (by kernel_rfl) (by kernel_rfl) (fun _ _ _ h => h) (Or.inr ⟨by rfl, rfl⟩) hH ?_
        try simp only [Act.put, lq25]
        refine wpAnyH_take_dst (i := 17) (v := undef) (d := some 37) rfl rfl (by kernel_rfl) (by kernel_rfl) (by kernel_rfl) (fun _ _ _ h => h) (Or.inr ⟨by rfl, rfl⟩) hH ?_
        try simp only [Act.put, lq25]
        refine wpAnyH_take_dst (i := 18) (v := undef) (d := some 38) rfl rfl (by kernel_rfl) (by kernel_rfl) (by kernel_rfl) (fun _ _ _ h => h) (Or.inr ⟨by rfl, rfl⟩) hH ?_
        try simp only [Act.put, lq25]
        refine wpAnyH_take_dst (i := 19) (v := undef) (d := some 39) rfl rfl (by kernel_rfl) (by kernel_rfl) (by kernel_rfl) (fun _ _ _ h => h) (Or.inr ⟨by rfl, rfl⟩) hH ?_
        try simp only [Act.put, lq25]
        refine wpAnyH_take_dst (i := 20) (v := undef) (d := some 40) rfl rfl (by kernel_rfl) (by kernel_rfl) (by kernel_rfl) (fun _ _ _ h => h) (Or.inr ⟨by rfl, rfl⟩) hH ?_
        try simp only [Act.put, lq25]
        refine wpAnyH_take_dst (i := 21) (v := undef) (d := some 41) rfl rfl (by kernel_rfl) (by kernel_rfl) (by kernel_rfl) (fun _ _ _ h => h) (Or.inr ⟨by rfl, rfl⟩) hH ?_
        try simp only [Act.put, lq25]
        refine wpAnyH_take_dst (i := 22) (v := undef) (d := some 42) rfl rfl (by kernel_rfl) (by kernel_rfl) (by kernel_rfl) (fun _ _ _ h => h) (Or.inr ⟨by rfl, rfl⟩) hH ?_
        try simp only [Act.put, lq25]
        refine wpAnyH_take_dst (i := 23) (v := undef) (d := some 43) rfl rfl (by kernel_rfl) (by kernel_rfl) (by kernel_rfl) (fun _ _ _ h => h) (Or.inr ⟨by rfl, rfl⟩) hH ?_
        try simp only [Act.put, lq25]
        refine wpAnyH_take_dst (i := 24) (v := undef) (d := some 44) rfl rfl (by kernel_rfl) (by kernel_rfl) (by kernel_rfl) (fun _ _ _ h => h) (Or.inr ⟨by rfl, rfl⟩) hH ?_
        try simp only [Act.put, lq25]
        refine wpAnyH_take_dst (i := 25) (v := undef) (d := some 45) rfl rfl (by kernel_rfl) (by kernel_rfl) (by kernel_rfl) (fun _ _ _ h => h) (Or.inr ⟨by rfl, rfl⟩) hH ?_
        try simp only [Act.put, lq25]
        refine wpAnyH_take_dst (i := 26) (v := undef) (d := some 46) rfl rfl (by kernel_rfl) (by kernel_rfl) (by kernel_rfl) (fun _ _ _ h => h) (Or.inr ⟨by rfl, rfl⟩) hH ?_
        try simp only [Act.put, lq25]
        refine wpAnyH_take_dst (i := 27) (v := undef) (d := some 47) rfl rfl (by kernel_rfl) (by kernel_rfl) (by kernel_rfl) (fun _ _ _ h => h) (Or.inr ⟨by rfl, rfl⟩) hH ?_
        try simp only [Act.put, lq25]
        refine wpAnyH_take_dst (i := 28) (v := undef) (d := some 48) rfl rfl (by kernel_rfl) (by kernel_rfl) (by kernel_rfl) (fun _ _ _ h => h) (Or.inr ⟨by rfl, rfl⟩) hH ?_
        try simp only [Act.put, lq25]
        refine wpAnyH_take_dst (i := 29) (v := undef) (d := some 49) rfl rfl (by kernel_rfl) (by kernel_rfl) (by kernel_rfl) (fun _ _ _ h => h) (Or.inr ⟨by rfl, rfl⟩) hH ?_
        try simp only [Act.put, lq25]
        refine wpAnyH_take_dst (i := 30) (v := undef) (d := some 50) rfl rfl (by kernel_rfl) (by kernel_rfl) (by kernel_rfl) (fun _ _ _ h => h) (Or.inr ⟨by rfl, rfl⟩) hH ?_
        try simp only [Act.put, lq25]
        refine wpAnyH_take_dst (i := 31) (v := undef) (d := some 51) rfl rfl (by kernel_rfl) (by kernel_rfl) (by kernel_rfl) (fun _ _ _ h => h) (Or.inr ⟨by rfl, rfl⟩) hH ?_
        try simp only [Act.put, lq25]
        refine wpAnyH_take_dst (i := 32) (v := undef) (d := some 52) rfl rfl (by kernel_rfl) (by kernel_rfl) (by kernel_rfl) (fun _ _ _ h => h) (Or.inr ⟨by rfl, rfl⟩) hH ?_
        try simp only [Act.put, lq25]
        refine wpAnyH_take_dst (i := 33) (v := undef) (d := some 53) rfl rfl (by kernel_rfl) (by kernel_rfl) (by kernel_rfl) (fun _ _ _ h => h) (Or.inr ⟨by rfl, rfl⟩) hH ?_
        try simp only [Act.put, lq25]
        refine wpAnyH_take_dst (i := 34) (v := .bool true) (d := some 54) rfl rfl (by kernel_rfl) (by kernel_rfl) (by kernel_rfl) (fun _ _ _ h => h) (Or.inl ⟨by rfl, ?_⟩) hH ?_
        · exact z0q25
        try simp only [Act.put, lq25]
        refine wpAnyH_done (by kernel_rfl) ?_ _
        obtain ⟨hE5, _, _, _, _, _, _⟩ := hH
        go_wp2
        go_ret
        exact ⟨ret_bool HR.out.symm, Ext.trans hE hE5⟩
      · have HSE := Lib.hid (show ((subT Y.ar Y.s i).flat == (subT Y.ar Y.t P1).flat) = false by
          cases h : ((subT Y.ar Y.s i).flat == (subT Y.ar Y.t P1).flat) with
          | true => exact absurd (HEQ.out.1 h) heq
          | false => rfl)
        have HNE := Lib.hid heq
        clear heq
        by_cases hgr : 0 < vv
        · have hdv : decide (0 < vv) = true := by simpa using hgr
          have HR := Lib.hid (HB0.out.symm.trans (argG_t HAK.out (.inr (HVV.out.1.1 hgr))))
          clear hgr
          go_wp2_with fail
          refine wp_region_held_drew (S := (fun w' => Ext wr w' ∧ w'.cell? ⟨Y.g, 5, none⟩ = some (.slice (some ⟨Y.qa, 0, none⟩) Y.m Y.qc) ∧ w'.cell? ⟨Y.g, 6, none⟩ = some (.slice (some ⟨Y.wb, 0, none⟩) Y.k Y.wc) ∧ w'.cell? ⟨Y.qa, j, none⟩ = some (.slice (some ⟨b, o, none⟩) us.length cA) ∧ w'.cell? ⟨b, o + q, none⟩ = some (.int .i64 (P1 : Int)) ∧ w'.cell? ⟨Y.wb, i, none⟩ = some (.slice (some ⟨Y.row i, 0, none⟩) Y.m Y.m) ∧ w'.cell? ⟨Y.row i, P1, none⟩ = some (.int .i64 vv))) (by kernel_rfl) ?_ (fun hH => ?_)
          · exact ⟨(Ext.refl wr).drew, r5, r6, ra, hcx, ry, rv⟩
          refine wpAnyH_take_dst (i := 0) (v := .pointer (some ⟨Y.g, 0, none⟩)) (d := some 20) rfl rfl (by kernel_rfl) (by kernel_rfl) (by kernel_rfl) (fun _ _ _ h => h) (Or.inl ⟨by rfl, ?_⟩) hH ?_
          · exact z0q25
          try simp only [Act.put, lq25]
          refine wpAnyH_take_dst (i := 1) (v := .int .i64 (i : Int)) (d := some 21) rfl rfl (by kernel_rfl) (by kernel_rfl) (by kernel_rfl) (fun _ _ _ h => h) (Or.inl ⟨by rfl, ?_⟩) hH ?_
          · exact z0q25
          try simp only [Act.put, lq25]
          refine wpAnyH_take_dst (i := 2) (v := .pointer (some ⟨Y.g, 0, none⟩)) (d := some 22) rfl rfl (by kernel_rfl) (by kernel_rfl) (by kernel_rfl) (fun _ _ _ h => h) (Or.inl ⟨by rfl, ?_⟩) hH ?_
          · exact z0q25
          try simp only [Act.put, lq25]
          refine wpAnyH_take_dst (i := 3) (v := .pointer (some ⟨Y.g, 0, none⟩)) (d := some 23) rfl rfl (by kernel_rfl) (by kernel_rfl) (by kernel_rfl) (fun _ _ _ h => h) (Or.inl ⟨by rfl, ?_⟩) hH ?_
          · exact z0q25
          try simp only [Act.put, lq25]
          refine wpAnyH_take_dst (i := 4) (v := .pointer (some ⟨Y.g, 5, none⟩)) (d := some 24) rfl rfl (by kernel_rfl) (by kernel_rfl) (by kernel_rfl) (fun _ _ _ h => h) (Or.inl ⟨by rfl, ?_⟩) hH ?_
          · exact z0q25
          try simp only [Act.put, lq25]
          refine wpAnyH_take_dst (i := 5) (v := .slice (some ⟨Y.qa, 0, none⟩) Y.m Y.qc) (d := some 25) rfl rfl (by kernel_rfl) (by kernel_rfl) (by kernel_rfl) (fun _ _ _ h => h) (Or.inl ⟨by rfl, ?_⟩) hH ?_
          · exact z0q25
          try simp only [Act.put, lq25]
          refine wpAnyH_take_dst (i := 6) (v := .int .i64 (j : Int)) (d := some 26) rfl rfl (by kernel_rfl) (by kernel_rfl) (by kernel_rfl) (fun _ _ _ h => h) (Or.inl ⟨by rfl, ?_⟩) hH ?_
          · exact z0q25
          try simp only [Act.put, lq25]
          refine wpAnyH_take_dst (i := 7) (v := .pointer (some ⟨Y.qa, j, none⟩)) (d := some 27) rfl rfl (by kernel_rfl) (by kernel_rfl) (by kernel_rfl) (fun _ _ _ h => h) (Or.inl ⟨by rfl, ?_⟩) hH ?_
          · exact z0q25
          try simp only [Act.put, lq25]
          refine wpAnyH_take_dst (i := 8) (v := .slice (some ⟨b, o, none⟩) us.length cA) (d := some 28) rfl rfl (by kernel_rfl) (by kernel_rfl) (by kernel_rfl) (fun _ _ _ h => h) (Or.inl ⟨by rfl, ?_⟩) hH ?_
          · exact z0q25
          try simp only [Act.put, lq25]
          refine wpAnyH_take_dst (i := 9) (v := .int .i64 (q : Int)) (d := some 29) rfl rfl (by kernel_rfl) (by kernel_rfl) (by kernel_rfl) (fun _ _ _ h => h) (Or.inl ⟨by rfl, ?_⟩) hH ?_
          · exact z0q25
          try simp only [Act.put, lq25]
          refine wpAnyH_take_dst (i := 10) (v := .pointer (some ⟨b, o + q, none⟩)) (d := some 30) rfl rfl (by kernel_rfl) (by kernel_rfl) (by kernel_rfl) (fun _ _ _ h => h) (Or.inl ⟨by rfl, ?_⟩) hH ?_
          · exact z0q25
          try simp only [Act.put, lq25]
          refine wpAnyH_take_dst (i := 11) (v := .int .i64 (P1 : Int)) (d := some 31) rfl rfl (by kernel_rfl) (by kernel_rfl) (by kernel_rfl) (fun _ _ _ h => h) (Or.inl ⟨by rfl, ?_⟩) hH ?_
          · exact z0q25
          try simp only [Act.put, lq25]
          refine wpAnyH_ready (rs := [12]) (by kernel_rfl) (by simp) ?_
          refine AllReadyH.cons rfl (fun K hK => ?_) AllReadyH.nil
          rw [if_pos (by rfl)]
          go_wp2_with (go_at_call 80; (with_reducible refine ((c_l13Same HSE.out HP.out (HHr.out.ext hH.1) HI.out HPQ.out)).mono ?_); rintro e w5 ⟨rfl, hE9⟩)
          refine hK.out _ _ ⟨Ext.trans hH.1 hE9, Ext.keep hE9 hH.2.1, Ext.keep hE9 hH.2.2.1, Ext.keep hE9 hH.2.2.2.1, Ext.keep hE9 hH.2.2.2.2.1, Ext.keep hE9 hH.2.2.2.2.2.1, Ext.keep hE9 hH.2.2.2.2.2.2⟩ (fun hH9 => ?_)
          clear hK hH; have hH := hH9; clear hH9
          try simp only [Act.put, lq25]
          refine wpAnyH_take_dst (i := 13) (v := .bool false) (d := some 33) rfl rfl (by kernel_rfl) (by kernel_rfl) (by kernel_rfl) (fun _ _ _ h => h) (Or.inl ⟨by rfl, ?_⟩) hH ?_
          · exact z0q25
          try simp only [Act.put, lq25]
          refine wpAnyH_take_dst (i := 14) (v := .pointer (some ⟨Y.g, 0, none⟩)) (d := some 34) rfl rfl (by kernel_rfl) (by kernel_rfl) (by kernel_rfl) (fun _ _ _ h => h) (Or.inl ⟨by rfl, ?_⟩) hH ?_
          · exact z0q25
          try simp only [Act.put, lq25]
          refine wpAnyH_take_dst (i := 15) (v := .pointer (some ⟨Y.g, 0, none⟩)) (d := some 35) rfl rfl (by kernel_rfl) (by kernel_rfl) (by kernel_rfl) (fun _ _ _ h => h) (Or.inl ⟨by rfl, ?_⟩) hH ?_
          · exact z0q25
          try simp only [Act.put, lq25]
          refine wpAnyH_take_dst (i := 16) (v := .pointer (some ⟨Y.g, 6, none⟩)) (d := some 36) rfl rfl (by kernel_rfl) (by kernel_rfl) (by kernel_rfl) (fun _ _ _ h => h) (Or.inl ⟨by rfl, ?_⟩) hH ?_
          · exact z0q25
          try simp only [Act.put, lq25]
          refine wpAnyH_take_dst (i := 17) (v := .slice (some ⟨Y.wb, 0, none⟩) Y.k Y.wc) (d := some 37) rfl rfl (by kernel_rfl) (by kernel_rfl) (by kernel_rfl) (fun _ _ _ h => h) (Or.inl ⟨by rfl, ?_⟩) hH ?_
          · exact z0q25
          try simp only [Act.put, lq25]
          refine wpAnyH_take_dst (i := 18) (v := .int .i64 (i : Int)) (d := some 38) rfl rfl (by kernel_rfl) (by kernel_rfl) (by kernel_rfl) (fun _ _ _ h => h) (Or.inl ⟨by rfl, ?_⟩) hH ?_
          · exact z0q25
          try simp only [Act.put, lq25]
          refine wpAnyH_take_dst (i := 19) (v := .pointer (some ⟨Y.wb, i, none⟩)) (d := some 39) rfl rfl (by kernel_rfl) (by kernel_rfl) (by kernel_rfl) (fun _ _ _ h => h) (Or.inl ⟨by rfl, ?_⟩) hH ?_
          · exact z0q25
          try simp only [Act.put, lq25]
          refine wpAnyH_take_dst (i := 20) (v := .slice (some ⟨Y.row i, 0, none⟩) Y.m Y.m) (d := some 40) rfl rfl (by kernel_rfl) (by kernel_rfl) (by kernel_rfl) (fun _ _ _ h => h) (Or.inl ⟨by rfl, ?_⟩) hH ?_
          · exact z0q25
          try simp only [Act.put, lq25]
          refine wpAnyH_take_dst (i := 21) (v := .pointer (some ⟨Y.g, 0, none⟩)) (d := some 41) rfl rfl (by kernel_rfl) (by kernel_rfl) (by kernel_rfl) (fun _ _ _ h => h) (Or.inl ⟨by rfl, ?_⟩) hH ?_
          · exact z0q25
          try simp only [Act.put, lq25]
          refine wpAnyH_take_dst (i := 22) (v := .pointer (some ⟨Y.g, 0, none⟩)) (d := some 42) rfl rfl (by kernel_rfl) (by kernel_rfl) (by kernel_rfl) (fun _ _ _ h => h) (Or.inl ⟨by rfl, ?_⟩) hH ?_
          · exact z0q25
          try simp only [Act.put, lq25]
          refine wpAnyH_take_dst (i := 23) (v := .pointer (some ⟨Y.g, 5, none⟩)) (d := some 43) rfl rfl (by kernel_rfl) (by kernel_rfl) (by kernel_rfl) (fun _ _ _ h => h) (Or.inl ⟨by rfl, ?_⟩) hH ?_
          · exact z0q25
          try simp only [Act.put, lq25]
          refine wpAnyH_take_dst (i := 24) (v := .slice (some ⟨Y.qa, 0, none⟩) Y.m Y.qc) (d := some 44) rfl rfl (by kernel_rfl) (by kernel_rfl) (by kernel_rfl) (fun _ _ _ h => h) (Or.inl ⟨by rfl, ?_⟩) hH ?_
          · exact z0q25
          try simp only [Act.put, lq25]
          refine wpAnyH_take_dst (i := 25) (v := .int .i64 (j : Int)) (d := some 45) rfl rfl (by kernel_rfl) (by kernel_rfl) (by kernel_rfl) (fun _ _ _ h => h) (Or.inl ⟨by rfl, ?_⟩) hH ?_
          · exact z0q25
          try simp only [Act.put, lq25]
          refine wpAnyH_take_dst (i := 26) (v := .pointer (some ⟨Y.qa, j, none⟩)) (d := some 46) rfl rfl (by kernel_rfl) (by kernel_rfl) (by kernel_rfl) (fun _ _ _ h => h) (Or.inl ⟨by rfl, ?_⟩) hH ?_
          · exact z0q25
          try simp only [Act.put, lq25]
          refine wpAnyH_take_dst (i := 27) (v := .slice (some ⟨b, o, none⟩) us.length cA) (d := some 47) rfl rfl (by kernel_rfl) (by kernel_rfl) (by kernel_rfl) (fun _ _ _ h => h) (Or.inl ⟨by rfl, ?_⟩) hH ?_
          · exact z0q25
          try simp only [Act.put, lq25]
          refine wpAnyH_take_dst (i := 28) (v := .int .i64 (q : Int)) (d := some 48) rfl rfl (by kernel_rfl) (by kernel_rfl) (by kernel_rfl) (fun _ _ _ h => h) (Or.inl ⟨by rfl, ?_⟩) hH ?_
          · exact z0q25
          try simp only [Act.put, lq25]
          refine wpAnyH_take_dst (i := 29) (v := .pointer (some ⟨b, o + q, none⟩)) (d := some 49) rfl rfl (by kernel_rfl) (by kernel_rfl) (by kernel_rfl) (fun _ _ _ h => h) (Or.inl ⟨by rfl, ?_⟩) hH ?_
          · exact z0q25
          try simp only [Act.put, lq25]
          refine wpAnyH_take_dst (i := 30) (v := .int .i64 (P1 : Int)) (d := some 50) rfl rfl (by kernel_rfl) (by kernel_rfl) (by kernel_rfl) (fun _ _ _ h => h) (Or.inl ⟨by rfl, ?_⟩) hH ?_
          · exact z0q25
          try simp only [Act.put, lq25]
          refine wpAnyH_take_dst (i := 31) (v := .pointer (some ⟨Y.row i, P1, none⟩)) (d := some 51) rfl rfl (by kernel_rfl) (by kernel_rfl) (by kernel_rfl) (fun _ _ _ h => h) (Or.inl ⟨by rfl, ?_⟩) hH ?_
          · exact z0q25
          try simp only [Act.put, lq25]
          refine wpAnyH_take_dst (i := 32) (v := .int .i64 vv) (d := some 52) rfl rfl (by kernel_rfl) (by kernel_rfl) (by kernel_rfl) (fun _ _ _ h => h) (Or.inl ⟨by rfl, ?_⟩) hH ?_
          · exact z0q25
          try simp only [Act.put, lq25]
          refine wpAnyH_take_dst (i := 33) (v := .bool true) (d := some 53) rfl rfl (by kernel_rfl) (by kernel_rfl) (by kernel_rfl) (fun _ _ _ h => h) (Or.inl ⟨by rfl, ?_⟩) hH ?_
          · exact z0q25
          try simp only [Act.put, lq25]
          refine wpAnyH_take_dst (i := 34) (v := .bool true) (d := some 54) rfl rfl (by kernel_rfl) (by kernel_rfl) (by kernel_rfl) (fun _ _ _ h => h) (Or.inl ⟨by rfl, ?_⟩) hH ?_
          · exact z0q25
          try simp only [Act.put, lq25]
          refine wpAnyH_done (by kernel_rfl) ?_ _
          obtain ⟨hE5, _, _, _, _, _, _⟩ := hH
          go_wp2
          go_ret
          exact ⟨ret_bool HR.out.symm, Ext.trans hE hE5⟩
        · have hdv : decide (0 < vv) = false := by simpa using hgr
          have HN := Lib.hid (show ∀ (p : Nat) (a : Tm), p < q + 1 → us[p]? = some a → a ≠ .node y ss ∧ ¬ 0 < W a (.node y ss) from fun p a' hp ha' => by
            rcases Nat.lt_or_ge p q with h | h
            · exact hno.out p a' h ha'
            · obtain rfl : p = q := by omega
              rw [HAK.out] at ha'; cases ha'
              exact ⟨HNE.out, fun h => hgr (HVV.out.1.2 h)⟩)
          clear hgr
          go_wp2_with fail
          refine wp_region_held_drew (S := (fun w' => Ext wr w' ∧ w'.cell? ⟨Y.g, 5, none⟩ = some (.slice (some ⟨Y.qa, 0, none⟩) Y.m Y.qc) ∧ w'.cell? ⟨Y.g, 6, none⟩ = some (.slice (some ⟨Y.wb, 0, none⟩) Y.k Y.wc) ∧ w'.cell? ⟨Y.qa, j, none⟩ = some (.slice (some ⟨b, o, none⟩) us.length cA) ∧ w'.cell? ⟨b, o + q, none⟩ = some (.int .i64 (P1 : Int)) ∧ w'.cell? ⟨Y.wb, i, none⟩ = some (.slice (some ⟨Y.row i, 0, none⟩) Y.m Y.m) ∧ w'.cell? ⟨Y.row i, P1, none⟩ = some (.int .i64 vv))) (by kernel_rfl) ?_ (fun hH => ?_)
          · exact ⟨(Ext.refl wr).drew, r5, r6, ra, hcx, ry, rv⟩
          refine wpAnyH_take_dst (i := 0) (v := .pointer (some ⟨Y.g, 0, none⟩)) (d := some 20) rfl rfl (by kernel_rfl) (by kernel_rfl) (by kernel_rfl) (fun _ _ _ h => h) (Or.inl ⟨by rfl, ?_⟩) hH ?_
          · exact z0q25
          try simp only [Act.put, lq25]
          refine wpAnyH_take_dst (i := 1) (v := .int .i64 (i : Int)) (d := some 21) rfl rfl (by kernel_rfl) (by kernel_rfl) (by kernel_rfl) (fun _ _ _ h => h) (Or.inl ⟨by rfl, ?_⟩) hH ?_
          · exact z0q25
          try simp only [Act.put, lq25]
          refine wpAnyH_take_dst (i := 2) (v := .pointer (some ⟨Y.g, 0, none⟩)) (d := some 22) rfl rfl (by kernel_rfl) (by kernel_rfl) (by kernel_rfl) (fun _ _ _ h => h) (Or.inl ⟨by rfl, ?_⟩) hH ?_
          · exact z0q25
          try simp only [Act.put, lq25]
          refine wpAnyH_take_dst (i := 3) (v := .pointer (some ⟨Y.g, 0, none⟩)) (d := some 23) rfl rfl (by kernel_rfl) (by kernel_rfl) (by kernel_rfl) (fun _ _ _ h => h) (Or.inl ⟨by rfl, ?_⟩) hH ?_
          · exact z0q25
          try simp only [Act.put, lq25]
          refine wpAnyH_take_dst (i := 4) (v := .pointer (some ⟨Y.g, 5, none⟩)) (d := some 24) rfl rfl (by kernel_rfl) (by kernel_rfl) (by kernel_rfl) (fun _ _ _ h => h) (Or.inl ⟨by rfl, ?_⟩) hH ?_
          · exact z0q25
          try simp only [Act.put, lq25]
          refine wpAnyH_take_dst (i := 5) (v := .slice (some ⟨Y.qa, 0, none⟩) Y.m Y.qc) (d := some 25) rfl rfl (by kernel_rfl) (by kernel_rfl) (by kernel_rfl) (fun _ _ _ h => h) (Or.inl ⟨by rfl, ?_⟩) hH ?_
          · exact z0q25
          try simp only [Act.put, lq25]
          refine wpAnyH_take_dst (i := 6) (v := .int .i64 (j : Int)) (d := some 26) rfl rfl (by kernel_rfl) (by kernel_rfl) (by kernel_rfl) (fun _ _ _ h => h) (Or.inl ⟨by rfl, ?_⟩) hH ?_
          · exact z0q25
          try simp only [Act.put, lq25]
          refine wpAnyH_take_dst (i := 7) (v := .pointer (some ⟨Y.qa, j, none⟩)) (d := some 27) rfl rfl (by kernel_rfl) (by kernel_rfl) (by kernel_rfl) (fun _ _ _ h => h) (Or.inl ⟨by rfl, ?_⟩) hH ?_
          · exact z0q25
          try simp only [Act.put, lq25]
          refine wpAnyH_take_dst (i := 8) (v := .slice (some ⟨b, o, none⟩) us.length cA) (d := some 28) rfl rfl (by kernel_rfl) (by kernel_rfl) (by kernel_rfl) (fun _ _ _ h => h) (Or.inl ⟨by rfl, ?_⟩) hH ?_
          · exact z0q25
          try simp only [Act.put, lq25]
          refine wpAnyH_take_dst (i := 9) (v := .int .i64 (q : Int)) (d := some 29) rfl rfl (by kernel_rfl) (by kernel_rfl) (by kernel_rfl) (fun _ _ _ h => h) (Or.inl ⟨by rfl, ?_⟩) hH ?_
          · exact z0q25
          try simp only [Act.put, lq25]
          refine wpAnyH_take_dst (i := 10) (v := .pointer (some ⟨b, o + q, none⟩)) (d := some 30) rfl rfl (by kernel_rfl) (by kernel_rfl) (by kernel_rfl) (fun _ _ _ h => h) (Or.inl ⟨by rfl, ?_⟩) hH ?_
          · exact z0q25
          try simp only [Act.put, lq25]
          refine wpAnyH_take_dst (i := 11) (v := .int .i64 (P1 : Int)) (d := some 31) rfl rfl (by kernel_rfl) (by kernel_rfl) (by kernel_rfl) (fun _ _ _ h => h) (Or.inl ⟨by rfl, ?_⟩) hH ?_
          · exact z0q25
          try simp only [Act.put, lq25]
          refine wpAnyH_ready (rs := [12]) (by kernel_rfl) (by simp) ?_
          refine AllReadyH.cons rfl (fun K hK => ?_) AllReadyH.nil
          rw [if_pos (by rfl)]
          go_wp2_with (go_at_call 80; (with_reducible refine ((c_l13Same HSE.out HP.out (HHr.out.ext hH.1) HI.out HPQ.out)).mono ?_); rintro e w5 ⟨rfl, hE9⟩)
          refine hK.out _ _ ⟨Ext.trans hH.1 hE9, Ext.keep hE9 hH.2.1, Ext.keep hE9 hH.2.2.1, Ext.keep hE9 hH.2.2.2.1, Ext.keep hE9 hH.2.2.2.2.1, Ext.keep hE9 hH.2.2.2.2.2.1, Ext.keep hE9 hH.2.2.2.2.2.2⟩ (fun hH9 => ?_)
          clear hK hH; have hH := hH9; clear hH9
          try simp only [Act.put, lq25]
          refine wpAnyH_take_dst (i := 13) (v := .bool false) (d := some 33) rfl rfl (by kernel_rfl) (by kernel_rfl) (by kernel_rfl) (fun _ _ _ h => h) (Or.inl ⟨by rfl, ?_⟩) hH ?_
          · exact z0q25
          try simp only [Act.put, lq25]
          refine wpAnyH_take_dst (i := 14) (v := .pointer (some ⟨Y.g, 0, none⟩)) (d := some 34) rfl rfl (by kernel_rfl) (by kernel_rfl) (by kernel_rfl) (fun _ _ _ h => h) (Or.inl ⟨by rfl, ?_⟩) hH ?_
          · exact z0q25
          try simp only [Act.put, lq25]
          refine wpAnyH_take_dst (i := 15) (v := .pointer (some ⟨Y.g, 0, none⟩)) (d := some 35) rfl rfl (by kernel_rfl) (by kernel_rfl) (by kernel_rfl) (fun _ _ _ h => h) (Or.inl ⟨by rfl, ?_⟩) hH ?_
          · exact z0q25
          try simp only [Act.put, lq25]
          refine wpAnyH_take_dst (i := 16) (v := .pointer (some ⟨Y.g, 6, none⟩)) (d := some 36) rfl rfl (by kernel_rfl) (by kernel_rfl) (by kernel_rfl) (fun _ _ _ h => h) (Or.inl ⟨by rfl, ?_⟩) hH ?_
          · exact z0q25
          try simp only [Act.put, lq25]
          refine wpAnyH_take_dst (i := 17) (v := .slice (some ⟨Y.wb, 0, none⟩) Y.k Y.wc) (d := some 37) rfl rfl (by kernel_rfl) (by kernel_rfl) (by kernel_rfl) (fun _ _ _ h => h) (Or.inl ⟨by rfl, ?_⟩) hH ?_
          · exact z0q25
          try simp only [Act.put, lq25]
          refine wpAnyH_take_dst (i := 18) (v := .int .i64 (i : Int)) (d := some 38) rfl rfl (by kernel_rfl) (by kernel_rfl) (by kernel_rfl) (fun _ _ _ h => h) (Or.inl ⟨by rfl, ?_⟩) hH ?_
          · exact z0q25
          try simp only [Act.put, lq25]
          refine wpAnyH_take_dst (i := 19) (v := .pointer (some ⟨Y.wb, i, none⟩)) (d := some 39) rfl rfl (by kernel_rfl) (by kernel_rfl) (by kernel_rfl) (fun _ _ _ h => h) (Or.inl ⟨by rfl, ?_⟩) hH ?_
          · exact z0q25
          try simp only [Act.put, lq25]
          refine wpAnyH_take_dst (i := 20) (v := .slice (some ⟨Y.row i, 0, none⟩) Y.m Y.m) (d := some 40) rfl rfl (by kernel_rfl) (by kernel_rfl) (by kernel_rfl) (fun _ _ _ h => h) (Or.inl ⟨by rfl, ?_⟩) hH ?_
          · exact z0q25
          try simp only [Act.put, lq25]
          refine wpAnyH_take_dst (i := 21) (v := .pointer (some ⟨Y.g, 0, none⟩)) (d := some 41) rfl rfl (by kernel_rfl) (by kernel_rfl) (by kernel_rfl) (fun _ _ _ h => h) (Or.inl ⟨by rfl, ?_⟩) hH ?_
          · exact z0q25
          try simp only [Act.put, lq25]
          refine wpAnyH_take_dst (i := 22) (v := .pointer (some ⟨Y.g, 0, none⟩)) (d := some 42) rfl rfl (by kernel_rfl) (by kernel_rfl) (by kernel_rfl) (fun _ _ _ h => h) (Or.inl ⟨by rfl, ?_⟩) hH ?_
          · exact z0q25
          try simp only [Act.put, lq25]
          refine wpAnyH_take_dst (i := 23) (v := .pointer (some ⟨Y.g, 5, none⟩)) (d := some 43) rfl rfl (by kernel_rfl) (by kernel_rfl) (by kernel_rfl) (fun _ _ _ h => h) (Or.inl ⟨by rfl, ?_⟩) hH ?_
          · exact z0q25
          try simp only [Act.put, lq25]
          refine wpAnyH_take_dst (i := 24) (v := .slice (some ⟨Y.qa, 0, none⟩) Y.m Y.qc) (d := some 44) rfl rfl (by kernel_rfl) (by kernel_rfl) (by kernel_rfl) (fun _ _ _ h => h) (Or.inl ⟨by rfl, ?_⟩) hH ?_
          · exact z0q25
          try simp only [Act.put, lq25]
          refine wpAnyH_take_dst (i := 25) (v := .int .i64 (j : Int)) (d := some 45) rfl rfl (by kernel_rfl) (by kernel_rfl) (by kernel_rfl) (fun _ _ _ h => h) (Or.inl ⟨by rfl, ?_⟩) hH ?_
          · exact z0q25
          try simp only [Act.put, lq25]
          refine wpAnyH_take_dst (i := 26) (v := .pointer (some ⟨Y.qa, j, none⟩)) (d := some 46) rfl rfl (by kernel_rfl) (by kernel_rfl) (by kernel_rfl) (fun _ _ _ h => h) (Or.inl ⟨by rfl, ?_⟩) hH ?_
          · exact z0q25
          try simp only [Act.put, lq25]
          refine wpAnyH_take_dst (i := 27) (v := .slice (some ⟨b, o, none⟩) us.length cA) (d := some 47) rfl rfl (by kernel_rfl) (by kernel_rfl) (by kernel_rfl) (fun _ _ _ h => h) (Or.inl ⟨by rfl, ?_⟩) hH ?_
          · exact z0q25
          try simp only [Act.put, lq25]
          refine wpAnyH_take_dst (i := 28) (v := .int .i64 (q : Int)) (d := some 48) rfl rfl (by kernel_rfl) (by kernel_rfl) (by kernel_rfl) (fun _ _ _ h => h) (Or.inl ⟨by rfl, ?_⟩) hH ?_
          · exact z0q25
          try simp only [Act.put, lq25]
          refine wpAnyH_take_dst (i := 29) (v := .pointer (some ⟨b, o + q, none⟩)) (d := some 49) rfl rfl (by kernel_rfl) (by kernel_rfl) (by kernel_rfl) (fun _ _ _ h => h) (Or.inl ⟨by rfl, ?_⟩) hH ?_
          · exact z0q25
          try simp only [Act.put, lq25]
          refine wpAnyH_take_dst (i := 30) (v := .int .i64 (P1 : Int)) (d := some 50) rfl rfl (by kernel_rfl) (by kernel_rfl) (by kernel_rfl) (fun _ _ _ h => h) (Or.inl ⟨by rfl, ?_⟩) hH ?_
          · exact z0q25
          try simp only [Act.put, lq25]
          refine wpAnyH_take_dst (i := 31) (v := .pointer (some ⟨Y.row i, P1, none⟩)) (d := some 51) rfl rfl (by kernel_rfl) (by kernel_rfl) (by kernel_rfl) (fun _ _ _ h => h) (Or.inl ⟨by rfl, ?_⟩) hH ?_
          · exact z0q25
          try simp only [Act.put, lq25]
          refine wpAnyH_take_dst (i := 32) (v := .int .i64 vv) (d := some 52) rfl rfl (by kernel_rfl) (by kernel_rfl) (by kernel_rfl) (fun _ _ _ h => h) (Or.inl ⟨by rfl, ?_⟩) hH ?_
          · exact z0q25
          try simp only [Act.put, lq25]
          refine wpAnyH_take_dst (i := 33) (v := .bool false) (d := some 53) rfl rfl (by kernel_rfl) (by kernel_rfl) (by kernel_rfl) (fun _ _ _ h => h) (Or.inl ⟨by rfl, ?_⟩) hH ?_
          · exact z0q25
          try simp only [Act.put, lq25]
          refine wpAnyH_take_dst (i := 34) (v := .bool false) (d := some 54) rfl rfl (by kernel_rfl) (by kernel_rfl) (by kernel_rfl) (fun _ _ _ h => h) (Or.inl ⟨by rfl, ?_⟩) hH ?_
          · exact z0q25
          try simp only [Act.put, lq25]
          refine wpAnyH_done (by kernel_rfl) ?_ _
          obtain ⟨hE5, _, _, _, _, _, _⟩ := hH
          go_wp2
          go_roundw
          case rel => exact ⟨q + 1, by go_num, by omega, HN, Ext.trans hE hE5⟩
          case measure => simp only [intOf]; omega
    · have HR := Lib.hid (HB0.out.symm.trans (argG_f (by rw [show us.length = q by omega]; exact hno.out)))
      go_wp2
      go_ret
      exact ⟨ret_bool HR.out.symm, hE⟩
set_option maxRecDepth 100000 in
set_option maxHeartbeats 4000000 in
theorem c_l13Over {Y : SC} {i j : Nat} {x y : Int} {us ss : List Tm} {V : Nat → Nat → Int} {W : Tm → Tm → Nat} {w : World} {b0 : Bool} (hb0 : overG W (.node x us) ss = b0) (hP : Y.P) (h : Y.H w V) (hA : Y.At i j y ss x us) (hV : ∀ k b, ss[k]? = some b → Told (V (pl i ss k) j) (W (.node x us) b)) :
    Calls Try.prog 60 #[.pointer (some ⟨Y.g, 0, none⟩), .int .i64 (i : Int), .int .i64 (j : Int)] w fun e w' => e = .returned (.bool b0) ∧ Ext w w' := by
  have hP' := hP
  have hik : i < Y.k := by rw [← h.s.len]; exact hA.hi
  have hjm : j < Y.m := by rw [← h.t.len]; exact hA.hj
  have hkk := h.s.le
  have hmm := h.t.le
  have hi0 : (0 : Int) ≤ (i : Int) := by omega
  have hj0 : (0 : Int) ≤ (j : Int) := by omega
  have hii : (i : Int) < (Y.k : Int) := by omega
  have hjj : (j : Int) < (Y.m : Int) := by omega
  have c1 := h.c1
  have c2 := h.c2
  have c3 := h.c3
  have c4 := h.c4
  have c5 := h.c5
  have c6 := h.c6
  have wy := h.wy i hik
  have HH := Lib.hid h
  have HP := Lib.hid hP
  have HA := Lib.hid hA
  have HV := Lib.hid hV
  have HB0 := Lib.hid hb0
  obtain ⟨A, cA, hca, hra⟩ := h.args_s hA
  have HRA := Lib.hid hra
  have hul := hra.le
  clear h hP hP' hA hV hb0 hra wy
  go_enter Try.func60, Try.ntmps60
  go_wp2_with fail
  go_loopw [7] (fun iv wr => ∃ q : Nat, iv = .int .i64 q ∧ q ≤ ss.length ∧ Hid (∀ (p : Nat) (b : Tm), p < q → ss[p]? = some b → 0 < W (.node x us) b) ∧ Ext w wr) (fun iv _ => ss.length - (intOf iv).toNat)
  case atStart => exact ⟨0, rfl, Nat.zero_le _, Lib.hid (fun p a hp => by omega), Ext.refl _⟩
  case round =>
    obtain ⟨q, rfl, hq, hall, hE⟩ := hrel
    have HHr := Lib.hid (HH.out.ext hE)
    have r4 := Ext.keep hE c4
    have r6 := Ext.keep hE c6
    have ra := Ext.keep hE hca
    by_cases hlt : q < ss.length
    · obtain ⟨b0', hb⟩ : ∃ b, ss[q]? = some b := ⟨ss[q], List.getElem?_eq_getElem hlt⟩
      obtain ⟨hpq, _⟩ := HA.out.ps HP.out hb
      obtain ⟨b, o, rfl, hcx⟩ := RI.starts_at (RI.ext HRA.out hE) hlt
      have hv := HV.out q b0' hb
      obtain ⟨P1, hP1⟩ : ∃ P1, P1 = pl i ss q := ⟨_, rfl⟩
      rw [← hP1] at hcx hpq hv
      have hpm : P1 < Y.k := by rw [← HH.out.s.len]; exact hpq
      obtain ⟨vv, hvv⟩ : ∃ vv, vv = V P1 j := ⟨_, rfl⟩
      rw [← hvv] at hv
      have rv : wr.cell? ⟨Y.row P1, j, none⟩ = some (.int .i64 vv) := by rw [hvv]; exact HHr.out.v P1 j hpm hjm
      have ry := Ext.keep hE (HH.out.wy P1 hpm)
      have hq1 : (q : Int) < (ss.length : Int) := by omega
      have hq0 : (0 : Int) ≤ (q : Int) := by omega
      have hp1 : (P1 : Int) < (Y.k : Int) := by omega
      have hp0 : (0 : Int) ≤ (P1 : Int) := by omega
      have HVV := Lib.hid hv
      have HBK := Lib.hid hb
      clear hb hpq hv hP1 hvv
      by_cases hz : vv = 0
      · have hdv : (vv == 0) = true := by simpa using hz
        have HR := Lib.hid (HB0.out.symm.trans (overG_f HBK.out (HVV.out.2.1 hz)))
        clear hz
        go_wp2_with fail
        go_quiet (fail)
        go_wp2
        go_ret
        exact ⟨ret_bool HR.out.symm, Ext.trans hE (Ext.drewN (Ext.refl wr) nq)⟩
      · have hdv : (vv == 0) = false := by simpa using hz
        have HN := Lib.hid (show ∀ (p : Nat) (b : Tm), p < q + 1 → ss[p]? = some b → 0 < W (.node x us) b from fun p b' hp hb' => by
          rcases Nat.lt_or_ge p q with h | h
          · exact hall.out p b' h hb'
          · obtain rfl : p = q := by omega
            rw [HBK.out] at hb'; cases hb'
            exact Classical.byContradiction fun h => hz (HVV.out.2.2 h))
        clear hz
        go_wp2_with fail
        go_quiet (fail)
        go_wp2
        go_roundw
        case rel => exact ⟨q + 1, by go_num, by omega, HN, Ext.trans hE (Ext.drewN (Ext.refl wr) nq)⟩
        case measure => simp only [intOf]; omega
    · have HR := Lib.hid (HB0.out.symm.trans (overG_t (by rw [show ss.length = q by omega]; exact hall.out)))
      go_wp2
      go_ret
      exact ⟨ret_bool HR.out.symm, hE⟩
set_option maxRecDepth 100000 in
set_option maxHeartbeats 4000000 in
theorem c_l13First {Y : SC} {i j : Nat} {x y : Int} {us ss : List Tm} {V : Nat → Nat → Int} {W : Tm → Tm → Nat} {w : World} {b0 : Bool} (hb0 : lexG W us ss = b0) (hP : Y.P) (h : Y.H w V) (hA : Y.At i j y ss x us) (hl : us.length = ss.length) (hV : ∀ k a b, us[k]? = some a → ss[k]? = some b → Told (V (pl i ss k) (pl j us k)) (W a b)) :
    Calls Try.prog 97 #[.pointer (some ⟨Y.g, 0, none⟩), .int .i64 (i : Int), .int .i64 (j : Int)] w fun e w' => e = .returned (.bool b0) ∧ Ext w w' := by
  have hP' := hP
  have hik : i < Y.k := by rw [← h.s.len]; exact hA.hi
  have hjm : j < Y.m := by rw [← h.t.len]; exact hA.hj
  have hkk := h.s.le
  have hmm := h.t.le
  have hi0 : (0 : Int) ≤ (i : Int) := by omega
  have hj0 : (0 : Int) ≤ (j : Int) := by omega
  have hii : (i : Int) < (Y.k : Int) := by omega
  have hjj : (j : Int) < (Y.m : Int) := by omega
  have c1 := h.c1
  have c2 := h.c2
  have c3 := h.c3
  have c4 := h.c4
  have c5 := h.c5
  have c6 := h.c6
  have wy := h.wy i hik
  have HH := Lib.hid h
  have HP := Lib.hid hP
  have HA := Lib.hid hA
  have HV := Lib.hid hV
  have HB0 := Lib.hid hb0
  have HL := Lib.hid hl
  obtain ⟨A, cA, hca, hra⟩ := h.args_s hA
  have HRA := Lib.hid hra
  have hul := hra.le
  obtain ⟨B, cB, hcb, hrb⟩ := h.args_t hA
  have HRB := Lib.hid hrb
  have hul2 := hrb.le
  clear h hP hP' hA hV hb0 hra hrb wy hl
  go_enter Try.func97, Try.ntmps97
  go_wp2_with fail
  go_loopw [7] (fun iv wr => ∃ q : Nat, iv = .int .i64 q ∧ q ≤ ss.length ∧ Hid (lexG W us ss = lexG W (us.drop q) (ss.drop q)) ∧ Ext w wr) (fun iv _ => ss.length - (intOf iv).toNat)
  case atStart => exact ⟨0, rfl, Nat.zero_le _, Lib.hid (by rw [List.drop_zero, List.drop_zero]), Ext.refl _⟩
  case round =>
    obtain ⟨q, rfl, hq, hlx, hE⟩ := hrel
    have HHr := Lib.hid (HH.out.ext hE)
    have r4 := Ext.keep hE c4
    have r5 := Ext.keep hE c5
    have r6 := Ext.keep hE c6
    have ra := Ext.keep hE hca
    have rb := Ext.keep hE hcb
    by_cases hlt : q < ss.length
    · have hlt2 : q < us.length := by have := HL.out; omega
      obtain ⟨a, ha⟩ : ∃ a, us[q]? = some a := ⟨us[q], List.getElem?_eq_getElem hlt2⟩
      obtain ⟨b, hb⟩ : ∃ b, ss[q]? = some b := ⟨ss[q], List.getElem?_eq_getElem hlt⟩
      obtain ⟨hpq1, hs1⟩ := HA.out.ps HP.out hb
      obtain ⟨hpq2, hs2⟩ := HA.out.pt HP.out ha
      obtain ⟨b1, o1, rfl, hc1⟩ := RI.starts_at (RI.ext HRA.out hE) hlt
      obtain ⟨b2, o2, rfl, hc2⟩ := RI.starts_at (RI.ext HRB.out hE) hlt2
      have hv := HV.out q a b ha hb
      obtain ⟨P1, hP1⟩ : ∃ P1, P1 = pl i ss q := ⟨_, rfl⟩
      obtain ⟨P2, hP2⟩ : ∃ P2, P2 = pl j us q := ⟨_, rfl⟩
      rw [← hP1] at hc1 hpq1 hs1 hv
      rw [← hP2] at hc2 hpq2 hs2 hv
      have hpm1 : P1 < Y.k := by rw [← HH.out.s.len]; exact hpq1
      have hpm2 : P2 < Y.m := by rw [← HH.out.t.len]; exact hpq2
      obtain ⟨vv, hvv⟩ : ∃ vv, vv = V P1 P2 := ⟨_, rfl⟩
      rw [← hvv] at hv
      have hq1 : (q : Int) < (ss.length : Int) := by omega
      have hq2 : (q : Int) < (us.length : Int) := by omega
      have hq0 : (0 : Int) ≤ (q : Int) := by omega
      have HPQ1 := Lib.hid hpq1
      have HPQ2 := Lib.hid hpq2
      have HVV := Lib.hid hv
      have HLD := Lib.hid (lexG_drop (W := W) ha hb)
      have HEQ := Lib.hid (show ((subT Y.ar Y.s P1).flat == (subT Y.ar Y.t P2).flat) = true ↔ a = b by
        rw [hs1, hs2, beq_iff_eq]
        have e := flat_eq (OkL_iff.1 (Ok_node.1 (HA.out.ok HP.out).1).2 b (List.mem_of_getElem? hb)) (OkL_iff.1 (Ok_node.1 (HA.out.ok HP.out).2).2 a (List.mem_of_getElem? ha))
        rw [e]; exact eq_comm)
      have HVE := Lib.hid hvv
      clear ha hb hpq1 hpq2 hs1 hs2 hv hP1 hP2 hvv
      by_cases heq : a = b
      · have HSE := Lib.hid (HEQ.out.2 heq)
        have HN := Lib.hid (hlx.out.trans (HLD.out.1 heq))
        clear heq
        go_wp2_with fail
        refine wp_region_held_drew (S := (fun w' => Ext wr w' ∧ w'.cell? ⟨Y.g, 4, none⟩ = some (.slice (some ⟨Y.pa, 0, none⟩) Y.k Y.pc) ∧ w'.cell? ⟨Y.g, 5, none⟩ = some (.slice (some ⟨Y.qa, 0, none⟩) Y.m Y.qc) ∧ w'.cell? ⟨Y.pa, i, none⟩ = some (.slice (some ⟨b1, o1, none⟩) ss.length cA) ∧ w'.cell? ⟨b1, o1 + q, none⟩ = some (.int .i64 (P1 : Int)) ∧ w'.cell? ⟨Y.qa, j, none⟩ = some (.slice (some ⟨b2, o2, none⟩) us.length cB) ∧ w'.cell? ⟨b2, o2 + q, none⟩ = some (.int .i64 (P2 : Int)))) (by kernel_rfl) ?_ (fun hH => ?_)
        · exact ⟨(Ext.refl wr).drew, r4, r5, ra, hc1, rb, hc2⟩
        refine wpAnyH_take_dst (i := 0) (v := .pointer (some ⟨Y.g, 0, none⟩)) (d := some 20) rfl rfl (by kernel_rfl) (by kernel_rfl) (by kernel_rfl) (fun _ _ _ h => h) (Or.inl ⟨by rfl, ?_⟩) hH ?_
        · exact z0q25
        try simp only [Act.put, lq25]
        refine wpAnyH_take_dst (i := 1) (v := .pointer (some ⟨Y.g, 0, none⟩)) (d := some 21) rfl rfl (by kernel_rfl) (by kernel_rfl) (by kernel_rfl) (fun _ _ _ h => h) (Or.inl ⟨by rfl, ?_⟩) hH ?_
        · exact z0q25
        try simp only [Act.put, lq25]
        refine wpAnyH_take_dst (i := 2) (v := .pointer (some ⟨Y.g, 0, none⟩)) (d := some 22) rfl rfl (by kernel_rfl) (by kernel_rfl) (by kernel_rfl) (fun _ _ _ h => h) (Or.inl ⟨by rfl, ?_⟩) hH ?_
        · exact z0q25
        try simp only [Act.put, lq25]
        refine wpAnyH_take_dst (i := 3) (v := .pointer (some ⟨Y.g, 4, none⟩)) (d := some 23) rfl rfl (by kernel_rfl) (by kernel_rfl) (by kernel_rfl) (fun _ _ _ h => h) (Or.inl ⟨by rfl, ?_⟩) hH ?_
        · exact z0q25
        try simp only [Act.put, lq25]
        refine wpAnyH_take_dst (i := 4) (v := .slice (some ⟨Y.pa, 0, none⟩) Y.k Y.pc) (d := some 24) rfl rfl (by kernel_rfl) (by kernel_rfl) (by kernel_rfl) (fun _ _ _ h => h) (Or.inl ⟨by rfl, ?_⟩) hH ?_
        · exact z0q25
        try simp only [Act.put, lq25]
        refine wpAnyH_take_dst (i := 5) (v := .int .i64 (i : Int)) (d := some 25) rfl rfl (by kernel_rfl) (by kernel_rfl) (by kernel_rfl) (fun _ _ _ h => h) (Or.inl ⟨by rfl, ?_⟩) hH ?_
        · exact z0q25
        try simp only [Act.put, lq25]
        refine wpAnyH_take_dst (i := 6) (v := .pointer (some ⟨Y.pa, i, none⟩)) (d := some 26) rfl rfl (by kernel_rfl) (by kernel_rfl) (by kernel_rfl) (fun _ _ _ h => h) (Or.inl ⟨by rfl, ?_⟩) hH ?_
        · exact z0q25
        try simp only [Act.put, lq25]
        refine wpAnyH_take_dst (i := 7) (v := .slice (some ⟨b1, o1, none⟩) ss.length cA) (d := some 27) rfl rfl (by kernel_rfl) (by kernel_rfl) (by kernel_rfl) (fun _ _ _ h => h) (Or.inl ⟨by rfl, ?_⟩) hH ?_
        · exact z0q25
        try simp only [Act.put, lq25]
        refine wpAnyH_take_dst (i := 8) (v := .int .i64 (q : Int)) (d := some 28) rfl rfl (by kernel_rfl) (by kernel_rfl) (by kernel_rfl) (fun _ _ _ h => h) (Or.inl ⟨by rfl, ?_⟩) hH ?_
        · exact z0q25
        try simp only [Act.put, lq25]
        refine wpAnyH_take_dst (i := 9) (v := .pointer (some ⟨b1, o1 + q, none⟩)) (d := some 29) rfl rfl (by kernel_rfl) (by kernel_rfl) (by kernel_rfl) (fun _ _ _ h => h) (Or.inl ⟨by rfl, ?_⟩) hH ?_
        · exact z0q25
        try simp only [Act.put, lq25]
        refine wpAnyH_take_dst (i := 10) (v := .int .i64 (P1 : Int)) (d := some 30) rfl rfl (by kernel_rfl) (by kernel_rfl) (by kernel_rfl) (fun _ _ _ h => h) (Or.inl ⟨by rfl, ?_⟩) hH ?_
        · exact z0q25
        try simp only [Act.put, lq25]
        refine wpAnyH_take_dst (i := 11) (v := .pointer (some ⟨Y.g, 0, none⟩)) (d := some 31) rfl rfl (by kernel_rfl) (by kernel_rfl) (by kernel_rfl) (fun _ _ _ h => h) (Or.inl ⟨by rfl, ?_⟩) hH ?_
        · exact z0q25
        try simp only [Act.put, lq25]
        refine wpAnyH_take_dst (i := 12) (v := .pointer (some ⟨Y.g, 0, none⟩)) (d := some 32) rfl rfl (by kernel_rfl) (by kernel_rfl) (by kernel_rfl) (fun _ _ _ h => h) (Or.inl ⟨by rfl, ?_⟩) hH ?_
        · exact z0q25
        try simp only [Act.put, lq25]
        refine wpAnyH_take_dst (i := 13) (v := .pointer (some ⟨Y.g, 5, none⟩)) (d := some 33) rfl rfl (by kernel_rfl) (by kernel_rfl) (by kernel_rfl) (fun _ _ _ h => h) (Or.inl ⟨by rfl, ?_⟩) hH ?_
        · exact z0q25
        try simp only [Act.put, lq25]
        refine wpAnyH_take_dst (i := 14) (v := .slice (some ⟨Y.qa, 0, none⟩) Y.m Y.qc) (d := some 34) rfl rfl (by kernel_rfl) (by kernel_rfl) (by kernel_rfl) (fun _ _ _ h => h) (Or.inl ⟨by rfl, ?_⟩) hH ?_
        · exact z0q25
        try simp only [Act.put, lq25]
        refine wpAnyH_take_dst (i := 15) (v := .int .i64 (j : Int)) (d := some 35) rfl rfl (by kernel_rfl) (by kernel_rfl) (by kernel_rfl) (fun _ _ _ h => h) (Or.inl ⟨by rfl, ?_⟩) hH ?_
        · exact z0q25
        try simp only [Act.put, lq25]
        refine wpAnyH_take_dst (i := 16) (v := .pointer (some ⟨Y.qa, j, none⟩)) (d := some 36) rfl rfl (by kernel_rfl) (by kernel_rfl) (by kernel_rfl) (fun _ _ _ h => h) (Or.inl ⟨by rfl, ?_⟩) hH ?_
        · exact z0q25
        try simp only [Act.put, lq25]
        refine wpAnyH_take_dst (i := 17) (v := .slice (some ⟨b2, o2, none⟩) us.length cB) (d := some 37) rfl rfl (by kernel_rfl) (by kernel_rfl) (by kernel_rfl) (fun _ _ _ h => h) (Or.inl ⟨by rfl, ?_⟩) hH ?_
        · exact z0q25
        try simp only [Act.put, lq25]
        refine wpAnyH_take_dst (i := 18) (v := .int .i64 (q : Int)) (d := some 38) rfl rfl (by kernel_rfl) (by kernel_rfl) (by kernel_rfl) (fun _ _ _ h => h) (Or.inl ⟨by rfl, ?_⟩) hH ?_
        · exact z0q25
        try simp only [Act.put, lq25]
        refine wpAnyH_take_dst (i := 19) (v := .pointer (some ⟨b2, o2 + q, none⟩)) (d := some 39) rfl rfl (by kernel_rfl) (by kernel_rfl) (by kernel_rfl) (fun _ _ _ h => h) (Or.inl ⟨by rfl, ?_⟩) hH ?_
        · exact z0q25
        try simp only [Act.put, lq25]
        refine wpAnyH_take_dst (i := 20) (v := .int .i64 (P2 : Int)) (d := some 40) rfl rfl (by kernel_rfl) (by kernel_rfl) (by kernel_rfl) (fun _ _ _ h => h) (Or.inl ⟨by rfl, ?_⟩) hH ?_
        · exact z0q25
        try simp only [Act.put, lq25]
        refine wpAnyH_ready (rs := [21]) (by kernel_rfl) (by simp) ?_
        refine AllReadyH.cons rfl (fun K hK => ?_) AllReadyH.nil
        rw [if_pos (by rfl)]
        go_wp2_with (go_at_call 80; (with_reducible refine ((c_l13Same HSE.out HP.out (HHr.out.ext hH.1) HPQ1.out HPQ2.out)).mono ?_); rintro e w5 ⟨rfl, hE9⟩)
        refine hK.out _ _ ⟨Ext.trans hH.1 hE9, Ext.keep hE9 hH.2.1, Ext.keep hE9 hH.2.2.1, Ext.keep hE9 hH.2.2.2.1, Ext.keep hE9 hH.2.2.2.2.1, Ext.keep hE9 hH.2.2.2.2.2.1, Ext.keep hE9 hH.2.2.2.2.2.2⟩ (fun hH9 => ?_)
        clear hK hH; have hH := hH9; clear hH9
        try simp only [Act.put, lq25]
        refine wpAnyH_take_dst (i := 22) (v := .bool false) (d := some 42) rfl rfl (by kernel_rfl) (by kernel_rfl) (by kernel_rfl) (fun _ _ _ h => h) (Or.inl ⟨by rfl, ?_⟩) hH ?_
        · exact z0q25
        try simp only [Act.put, lq25]
        refine wpAnyH_done (by kernel_rfl) ?_ _
        obtain ⟨hE5, _, _, _, _, _, _⟩ := hH
        go_wp2
        go_roundw
        case rel => exact ⟨q + 1, by go_num, by omega, HN, Ext.trans hE hE5⟩
        case measure => simp only [intOf]; omega
      · have HSE := Lib.hid (show ((subT Y.ar Y.s P1).flat == (subT Y.ar Y.t P2).flat) = false by
          cases h : ((subT Y.ar Y.s P1).flat == (subT Y.ar Y.t P2).flat) with
          | true => exact absurd (HEQ.out.1 h) heq
          | false => rfl)
        have HN := Lib.hid (HB0.out.symm.trans (hlx.out.trans (HLD.out.2 heq)))
        have HDV := Lib.hid (show decide (0 < vv) = b0 by
          rw [HN.out]
          by_cases h : 0 < vv
          · rw [decide_eq_true h, decide_eq_true (HVV.out.1.1 h)]
          · rw [decide_eq_false h, decide_eq_false (fun h2 => h (HVV.out.1.2 h2))])
        clear heq
        go_wp2_with fail
        refine wp_region_held_drew (S := (fun w' => Ext wr w' ∧ w'.cell? ⟨Y.g, 4, none⟩ = some (.slice (some ⟨Y.pa, 0, none⟩) Y.k Y.pc) ∧ w'.cell? ⟨Y.g, 5, none⟩ = some (.slice (some ⟨Y.qa, 0, none⟩) Y.m Y.qc) ∧ w'.cell? ⟨Y.pa, i, none⟩ = some (.slice (some ⟨b1, o1, none⟩) ss.length cA) ∧ w'.cell? ⟨b1, o1 + q, none⟩ = some (.int .i64 (P1 : Int)) ∧ w'.cell? ⟨Y.qa, j, none⟩ = some (.slice (some ⟨b2, o2, none⟩) us.length cB) ∧ w'.cell? ⟨b2, o2 + q, none⟩ = some (.int .i64 (P2 : Int)))) (by kernel_rfl) ?_ (fun hH => ?_)
        · exact ⟨(Ext.refl wr).drew, r4, r5, ra, hc1, rb, hc2⟩
        refine wpAnyH_take_dst (i := 0) (v := .pointer (some ⟨Y.g, 0, none⟩)) (d := some 20) rfl rfl (by kernel_rfl) (by kernel_rfl) (by kernel_rfl) (fun _ _ _ h => h) (Or.inl ⟨by rfl, ?_⟩) hH ?_
        · exact z0q25
        try simp only [Act.put, lq25]
        refine wpAnyH_take_dst (i := 1) (v := .pointer (some ⟨Y.g, 0, none⟩)) (d := some 21) rfl rfl (by kernel_rfl) (by kernel_rfl) (by kernel_rfl) (fun _ _ _ h => h) (Or.inl ⟨by rfl, ?_⟩) hH ?_
        · exact z0q25
        try simp only [Act.put, lq25]
        refine wpAnyH_take_dst (i := 2) (v := .pointer (some ⟨Y.g, 0, none⟩)) (d := some 22) rfl rfl (by kernel_rfl) (by kernel_rfl) (by kernel_rfl) (fun _ _ _ h => h) (Or.inl ⟨by rfl, ?_⟩) hH ?_
        · exact z0q25
        try simp only [Act.put, lq25]
        refine wpAnyH_take_dst (i := 3) (v := .pointer (some ⟨Y.g, 4, none⟩)) (d := some 23) rfl rfl (by kernel_rfl) (by kernel_rfl) (by kernel_rfl) (fun _ _ _ h => h) (Or.inl ⟨by rfl, ?_⟩) hH ?_
        · exact z0q25
        try simp only [Act.put, lq25]
        refine wpAnyH_take_dst (i := 4) (v := .slice (some ⟨Y.pa, 0, none⟩) Y.k Y.pc) (d := some 24) rfl rfl (by kernel_rfl) (by kernel_rfl) (by kernel_rfl) (fun _ _ _ h => h) (Or.inl ⟨by rfl, ?_⟩) hH ?_
        · exact z0q25
        try simp only [Act.put, lq25]
        refine wpAnyH_take_dst (i := 5) (v := .int .i64 (i : Int)) (d := some 25) rfl rfl (by kernel_rfl) (by kernel_rfl) (by kernel_rfl) (fun _ _ _ h => h) (Or.inl ⟨by rfl, ?_⟩) hH ?_
        · exact z0q25
        try simp only [Act.put, lq25]
        refine wpAnyH_take_dst (i := 6) (v := .pointer (some ⟨Y.pa, i, none⟩)) (d := some 26) rfl rfl (by kernel_rfl) (by kernel_rfl) (by kernel_rfl) (fun _ _ _ h => h) (Or.inl ⟨by rfl, ?_⟩) hH ?_
        · exact z0q25
        try simp only [Act.put, lq25]
        refine wpAnyH_take_dst (i := 7) (v := .slice (some ⟨b1, o1, none⟩) ss.length cA) (d := some 27) rfl rfl (by kernel_rfl) (by kernel_rfl) (by kernel_rfl) (fun _ _ _ h => h) (Or.inl ⟨by rfl, ?_⟩) hH ?_
        · exact z0q25
        try simp only [Act.put, lq25]
        refine wpAnyH_take_dst (i := 8) (v := .int .i64 (q : Int)) (d := some 28) rfl rfl (by kernel_rfl) (by kernel_rfl) (by kernel_rfl) (fun _ _ _ h => h) (Or.inl ⟨by rfl, ?_⟩) hH ?_
        · exact z0q25
        try simp only [Act.put, lq25]
        refine wpAnyH_take_dst (i := 9) (v := .pointer (some ⟨b1, o1 + q, none⟩)) (d := some 29) rfl rfl (by kernel_rfl) (by kernel_rfl) (by kernel_rfl) (fun _ _ _ h => h) (Or.inl ⟨by rfl, ?_⟩) hH ?_
        · exact z0q25
        try simp only [Act.put, lq25]
        refine wpAnyH_take_dst (i := 10) (v := .int .i64 (P1 : Int)) (d := some 30) rfl rfl (by kernel_rfl) (by kernel_rfl) (by kernel_rfl) (fun _ _ _ h => h) (Or.inl ⟨by rfl, ?_⟩) hH ?_
        · exact z0q25
        try simp only [Act.put, lq25]
        refine wpAnyH_take_dst (i := 11) (v := .pointer (some ⟨Y.g, 0, none⟩)) (d := some 31) rfl rfl (by kernel_rfl) (by kernel_rfl) (by kernel_rfl) (fun _ _ _ h => h) (Or.inl ⟨by rfl, ?_⟩) hH ?_
        · exact z0q25
        try simp only [Act.put, lq25]
        refine wpAnyH_take_dst (i := 12) (v := .pointer (some ⟨Y.g, 0, none⟩)) (d := some 32) rfl rfl (by kernel_rfl) (by kernel_rfl) (by kernel_rfl) (fun _ _ _ h => h) (Or.inl ⟨by rfl, ?_⟩) hH ?_
        · exact z0q25
        try simp only [Act.put, lq25]
        refine wpAnyH_take_dst (i := 13) (v := .pointer (some ⟨Y.g, 5, none⟩)) (d := some 33) rfl rfl (by kernel_rfl) (by kernel_rfl) (by kernel_rfl) (fun _ _ _ h => h) (Or.inl ⟨by rfl, ?_⟩) hH ?_
        · exact z0q25
        try simp only [Act.put, lq25]
        refine wpAnyH_take_dst (i := 14) (v := .slice (some ⟨Y.qa, 0, none⟩) Y.m Y.qc) (d := some 34) rfl rfl (by kernel_rfl) (by kernel_rfl) (by kernel_rfl) (fun _ _ _ h => h) (Or.inl ⟨by rfl, ?_⟩) hH ?_
        · exact z0q25
        try simp only [Act.put, lq25]
        refine wpAnyH_take_dst (i := 15) (v := .int .i64 (j : Int)) (d := some 35) rfl rfl (by kernel_rfl) (by kernel_rfl) (by kernel_rfl) (fun _ _ _ h => h) (Or.inl ⟨by rfl, ?_⟩) hH ?_
        · exact z0q25
        try simp only [Act.put, lq25]
        refine wpAnyH_take_dst (i := 16) (v := .pointer (some ⟨Y.qa, j, none⟩)) (d := some 36) rfl rfl (by kernel_rfl) (by kernel_rfl) (by kernel_rfl) (fun _ _ _ h => h) (Or.inl ⟨by rfl, ?_⟩) hH ?_
        · exact z0q25
        try simp only [Act.put, lq25]
        refine wpAnyH_take_dst (i := 17) (v := .slice (some ⟨b2, o2, none⟩) us.length cB) (d := some 37) rfl rfl (by kernel_rfl) (by kernel_rfl) (by kernel_rfl) (fun _ _ _ h => h) (Or.inl ⟨by rfl, ?_⟩) hH ?_
        · exact z0q25
        try simp only [Act.put, lq25]
        refine wpAnyH_take_dst (i := 18) (v := .int .i64 (q : Int)) (d := some 38) rfl rfl (by kernel_rfl) (by kernel_rfl) (by kernel_rfl) (fun _ _ _ h => h) (Or.inl ⟨by rfl, ?_⟩) hH ?_
        · exact z0q25
        try simp only [Act.put, lq25]
        refine wpAnyH_take_dst (i := 19) (v := .pointer (some ⟨b2, o2 + q, none⟩)) (d := some 39) rfl rfl (by kernel_rfl) (by kernel_rfl) (by kernel_rfl) (fun _ _ _ h => h) (Or.inl ⟨by rfl, ?_⟩) hH ?_
        · exact z0q25
        try simp only [Act.put, lq25]
        refine wpAnyH_take_dst (i := 20) (v := .int .i64 (P2 : Int)) (d := some 40) rfl rfl (by kernel_rfl) (by kernel_rfl) (by kernel_rfl) (fun _ _ _ h => h) (Or.inl ⟨by rfl, ?_⟩) hH ?_
        · exact z0q25
        try simp only [Act.put, lq25]
        refine wpAnyH_ready (rs := [21]) (by kernel_rfl) (by simp) ?_
        refine AllReadyH.cons rfl (fun K hK => ?_) AllReadyH.nil
        rw [if_pos (by rfl)]
        go_wp2_with (go_at_call 80; (with_reducible refine ((c_l13Same HSE.out HP.out (HHr.out.ext hH.1) HPQ1.out HPQ2.out)).mono ?_); rintro e w5 ⟨rfl, hE9⟩)
        refine hK.out _ _ ⟨Ext.trans hH.1 hE9, Ext.keep hE9 hH.2.1, Ext.keep hE9 hH.2.2.1, Ext.keep hE9 hH.2.2.2.1, Ext.keep hE9 hH.2.2.2.2.1, Ext.keep hE9 hH.2.2.2.2.2.1, Ext.keep hE9 hH.2.2.2.2.2.2⟩ (fun hH9 => ?_)
        clear hK hH; have hH := hH9; clear hH9
        try simp only [Act.put, lq25]
        refine wpAnyH_take_dst (i := 22) (v := .bool true) (d := some 42) rfl rfl (by kernel_rfl) (by kernel_rfl) (by kernel_rfl) (fun _ _ _ h => h) (Or.inl ⟨by rfl, ?_⟩) hH ?_
        · exact z0q25
        try simp only [Act.put, lq25]
        refine wpAnyH_done (by kernel_rfl) ?_ _
        obtain ⟨hE5, r4b, r5b, rab, hc1b, rbb, hc2b⟩ := hH
        have hE5w := Ext.trans hE hE5
        have HH5 := Lib.hid (HH.out.ext hE5w)
        have r6b := Ext.keep hE5w c6
        have rv : w5.cell? ⟨Y.row P1, P2, none⟩ = some (.int .i64 vv) := by rw [HVE.out]; exact HH5.out.v P1 P2 hpm1 hpm2
        have ry := Ext.keep hE5w (HH.out.wy P1 hpm1)
        have hp1 : (P1 : Int) < (Y.k : Int) := by omega
        have hp0 : (0 : Int) ≤ (P1 : Int) := by omega
        have hp2 : (P2 : Int) < (Y.m : Int) := by omega
        have hp20 : (0 : Int) ≤ (P2 : Int) := by omega
        clear r4 r5 r6 ra rb hc1 hc2
        go_wp2_with fail
        go_quiet (fail)
        go_wp2
        go_ret
        exact ⟨ret_bool HDV.out, Ext.trans hE5w (Ext.drewN (Ext.refl w5) nq)⟩
    · have HR := Lib.hid (HB0.out.symm.trans (hlx.out.trans (by rw [List.drop_of_length_le (show us.length ≤ q by have := HL.out; omega)]; try simp [lexG])))
      go_wp2
      go_ret
      exact ⟨ret_bool HR.out.symm, hE⟩
end Go.Proofs.Ytdlgjhngndpgoaa
