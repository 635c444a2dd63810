/- The order of the program by weights. -/
import Derived.Test.YtjmdfjinicbkeaaWraps
import Derived.Test.YtjmdfjinicbkeaaOften
import Derived.Test.YtjmdfjinicbkeaaRegion
import Derived.Test.YtjmdfjinicbkeaaHeld
-- rd: RdWt
namespace Go.Proofs.Ytjmdfjinicbkeaa
open Go.RowKit
set_option linter.unusedSimpArgs false
set_option linter.unusedVariables false

/-- A box that came behind a world. -/
def Bx (wo w : World) (g : Nat) : Prop := wo.heap.size ≤ g ∧ g < w.heap.size ∧ (∃ v, w.cell? ⟨g, 0, none⟩ = some v) ∧ ∀ o, w.frozen? ⟨g, o, none⟩ = false
theorem Bx.lt {wo w : World} {g : Nat} (h : Bx wo w g) : g < w.heap.size := h.2.1
theorem Bx.ext {wo w w' : World} {g : Nat} (h : Bx wo w g) (k : Ext w w') : Bx wo w' g := by
  obtain ⟨h1, h2, ⟨v, h3⟩, h4⟩ := h
  exact ⟨h1, Nat.lt_of_lt_of_le h2 k.size, ⟨v, Ext.keep k h3⟩, fun o => (Below.frozen (p := ⟨g, o, none⟩) k h2).trans (h4 o)⟩
theorem Bx.new {wo w : World} (h : Ext wo w) (v : Value) (t : TypeId) : Bx wo (w.alloc (.cells #[v] t)) w.heap.size :=
  ⟨h.size, by simp [go_sem], ⟨v, by simp [go_sem]⟩, fun o => by simp [go_sem]⟩
theorem Bx.set {wo w : World} {g : Nat} (h : Bx wo w g) (p : Addr) (u : Value) : Bx wo (w.setCell p u) g := by
  obtain ⟨h1, h2, ⟨v, h3⟩, h4⟩ := h
  refine ⟨h1, by simpa [go_sem] using h2, ?_, fun o => by rw [World.frozen?_setCell]; exact h4 o⟩
  by_cases e : (⟨g, 0, none⟩ : Addr) = p
  · subst e; exact ⟨u, World.cell?_setCell_same _ _ _ h3⟩
  · exact ⟨v, by rw [World.cell?_setCell_other _ _ _ _ (by first | exact e | exact Ne.symm e)]; exact h3⟩

abbrev WhyI (ar : List Int) (W : Wt) (u v : Tm) : Prop := ∀ (vW vS vs vt : Value) (w : World), RdWt w vW W → RdSig w vS ar → RdIc w vs u.flat → RdIc w vt v.flat →
  Calls Try.prog 101 #[vW, vS, vs, vt] w fun e w' => e = .returned (.int .i64 (kbo ar W u v)) ∧ Ext w w'
theorem c_argsAt0 {v0 v1 : Value} {ar : List Int} {x : Int} {us : List Tm} {w : World} (h0 : RdSig w v0 ar) (h1 : RdI w v1 (Tm.node x us).flat) (hs : SigP ar) (hu : (Tm.node x us).Ok ar) :
    Calls Try.prog 156 #[v0, v1, .int .i64 0] w fun e w' => ∃ A n c, e = .returned (.slice A n c) ∧ n = us.length ∧ RI w' A n (starts 1 us) ∧ Ext w w' :=
  c_argsAt (p := 0) (rest := []) h0 h1 hs hu (by simp)
set_option maxRecDepth 100000 in
set_option maxHeartbeats 4000000 in
theorem c_firstGreater {v0 v1 v2 v3 : Value} {ar : List Int} {W : Wt} {x y : Int} {us ts : List Tm} {w : World} (h0 : RdWt w v0 W) (h1 : RdSig w v1 ar) (h2 : RdIc w v2 (Tm.node x us).flat) (h3 : RdIc w v3 (Tm.node y ts).flat)
    (hs : SigP ar) (hu : (Tm.node x us).Ok ar) (hv : (Tm.node y ts).Ok ar) (hl : us.length = ts.length) (ih : ∀ a ∈ us, ∀ b ∈ ts, WhyI ar W a b) :
    Calls Try.prog 127 #[v0, v1, v2, v3] w fun e w' => e = .returned (.bool (kboL ar W us ts)) ∧ Ext w w' := by
  obtain ⟨S, n, c, R, q, d, rfl, ha, hr⟩ := h0
  obtain ⟨A, k, l, rfl, hb⟩ := h1
  obtain ⟨D, m, f, rfl, hmf, hd⟩ := h2
  obtain ⟨D', m', f', rfl, hmf', hd'⟩ := h3
  have HA := Lib.hid ha
  have HR := Lib.hid hr
  have HB := Lib.hid hb
  have HD := Lib.hid hd
  have HD' := Lib.hid hd'
  have HMF := Lib.hid hmf
  have HMF' := Lib.hid hmf'
  have HS := Lib.hid hs
  have HU := Lib.hid hu
  have HV := Lib.hid hv
  have HL := Lib.hid hl
  have HI := Lib.hid ih
  clear ha hr hb hd hd' hmf hmf' hs hu hv hl ih
  go_enter Try.func127, Try.ntmps127
  go_wp2_with fail
  obtain ⟨wo, hwo⟩ : ∃ wo, wo = (w.alloc (.cells #[.int .i64 W.var, .slice S n c, .slice R q d] 48)).alloc (.cells #[.slice A k l] 31) := ⟨_, rfl⟩
  have hw0 : wo.cell? ⟨w.heap.size, 0, none⟩ = some (.int .i64 W.var) := by rw [hwo]; simp [go_sem]
  have hw1 : wo.cell? ⟨w.heap.size, 1, none⟩ = some (.slice S n c) := by rw [hwo]; simp [go_sem]
  have hw2 : wo.cell? ⟨w.heap.size, 2, none⟩ = some (.slice R q d) := by rw [hwo]; simp [go_sem]
  have hw3 : wo.cell? ⟨w.heap.size + 1, 0, none⟩ = some (.slice A k l) := by rw [hwo]; simp [go_sem]
  have hEo : Ext w wo := by rw [hwo]; exact extX
  rw [← hwo]
  clear hwo
  refine wp_region_held_drew (S := (fun w' => w'.cell? ⟨w.heap.size + 1, 0, none⟩ = some (.slice A k l) ∧ Ext wo w')) (by kernel_rfl) ?_ (fun hH => ?_)
  · exact ⟨hw3, (Ext.refl wo).drew⟩
  refine wpAnyH_take_dst (i := 0) (v := .agg #[.slice A k l]) (d := some 14) rfl rfl (by kernel_rfl) (by kernel_rfl) (by kernel_rfl) (fun _ _ _ h => h) (Or.inl ⟨by rfl, ?_⟩) hH ?_
  · (intro w hSw; (try dsimp only at hSw); go_split_ands; go_simp; try with_reducible rfl)
  try simp only [Act.put, List.setIfInBounds_toArray, List.set_cons_zero, List.set_cons_succ]
  refine wpAnyH_take_dst (i := 1) (v := .slice D m f) (d := some 15) rfl rfl (by kernel_rfl) (by kernel_rfl) (by kernel_rfl) (fun _ _ _ h => h) (Or.inl ⟨by rfl, ?_⟩) hH ?_
  · (intro w hSw; (try dsimp only at hSw); go_split_ands; go_simp; try with_reducible rfl)
  try simp only [Act.put, List.setIfInBounds_toArray, List.set_cons_zero, List.set_cons_succ]
  refine wpAnyH_take_dst (i := 3) (v := .agg #[.slice A k l]) (d := some 17) rfl rfl (by kernel_rfl) (by kernel_rfl) (by kernel_rfl) (fun _ _ _ h => h) (Or.inl ⟨by rfl, ?_⟩) hH ?_
  · (intro w hSw; (try dsimp only at hSw); go_split_ands; go_simp; try with_reducible rfl)
  try simp only [Act.put, List.setIfInBounds_toArray, List.set_cons_zero, List.set_cons_succ]
  refine wpAnyH_take_dst (i := 4) (v := .slice D' m' f') (d := some 18) rfl rfl (by kernel_rfl) (by kernel_rfl) (by kernel_rfl) (fun _ _ _ h => h) (Or.inl ⟨by rfl, ?_⟩) hH ?_
  · (intro w hSw; (try dsimp only at hSw); go_split_ands; go_simp; try with_reducible rfl)
  try simp only [Act.put, List.setIfInBounds_toArray, List.set_cons_zero, List.set_cons_succ]
  refine wpAnyH_ready (rs := [2]) (by kernel_rfl) (by simp) ?_
  refine AllReadyH.cons rfl (fun K hK => ?_) AllReadyH.nil
  rw [if_pos (by rfl)]
  go_wp2_with (go_at_call 156; (with_reducible refine ((c_argsAt0 (RdSig.mk (RI.ext HB.out (Ext.trans hEo hH.2))) (RdI.mk (RI.ext HD.out (Ext.trans hEo hH.2))) HS.out HU.out)).mono ?_); rintro e w1 ⟨A1, n1, c1, rfl, hn1, hr1, hE9⟩)
  refine hK.out _ _ ⟨Ext.keep hE9 hH.1, Ext.trans hH.2 hE9⟩ (fun hH9 => ?_)
  clear hK hH; have hH := hH9; clear hH9
  try simp only [Act.put, List.setIfInBounds_toArray, List.set_cons_zero, List.set_cons_succ]
  refine wpAnyH_ready (rs := [5]) (by kernel_rfl) (by simp) ?_
  refine AllReadyH.cons rfl (fun K hK => ?_) AllReadyH.nil
  rw [if_pos (by rfl)]
  go_wp2_with (go_at_call 156; (with_reducible refine ((c_argsAt0 (RdSig.mk (RI.ext HB.out (Ext.trans hEo hH.2))) (RdI.mk (RI.ext HD'.out (Ext.trans hEo hH.2))) HS.out HV.out)).mono ?_); rintro e w2 ⟨A2, n2, c2, rfl, hn2, hr2, hE9⟩)
  refine hK.out _ _ ⟨Ext.keep hE9 hH.1, Ext.trans hH.2 hE9⟩ (fun hH9 => ?_)
  clear hK hH; have hH := hH9; clear hH9
  try simp only [Act.put, List.setIfInBounds_toArray, List.set_cons_zero, List.set_cons_succ]
  refine wpAnyH_take_dst (i := 6) (v := .slice A1 n1 c1) (d := some 9) rfl rfl (by kernel_rfl) (by kernel_rfl) (by kernel_rfl) (fun _ _ _ h => h) (Or.inl ⟨by rfl, ?_⟩) hH ?_
  · (intro w hSw; (try dsimp only at hSw); go_split_ands; go_simp; try with_reducible rfl)
  try simp only [Act.put, List.setIfInBounds_toArray, List.set_cons_zero, List.set_cons_succ]
  refine wpAnyH_take_dst (i := 7) (v := .slice A2 n2 c2) (d := some 10) rfl rfl (by kernel_rfl) (by kernel_rfl) (by kernel_rfl) (fun _ _ _ h => h) (Or.inl ⟨by rfl, ?_⟩) hH ?_
  · (intro w hSw; (try dsimp only at hSw); go_split_ands; go_simp; try with_reducible rfl)
  try simp only [Act.put, List.setIfInBounds_toArray, List.set_cons_zero, List.set_cons_succ]
  refine wpAnyH_done (by kernel_rfl) ?_ _
  obtain ⟨hs3, hE2⟩ := hH
  have hs0 : w2.cell? ⟨w.heap.size, 0, none⟩ = some (.int .i64 W.var) := Ext.keep hE2 hw0
  have hs1 : w2.cell? ⟨w.heap.size, 1, none⟩ = some (.slice S n c) := Ext.keep hE2 hw1
  have hs2 : w2.cell? ⟨w.heap.size, 2, none⟩ = some (.slice R q d) := Ext.keep hE2 hw2
  have HP := Lib.hid (RI.ext hr1 hE9)
  have HQ := Lib.hid hr2
  have hEw2 : Ext w w2 := Ext.trans hEo hE2
  subst hn1 hn2
  clear hr1 hr2 hw0 hw1 hw2 hw3
  go_wp2_with fail
  have hus : us.length ≤ 4194304 := HP.out.le
  go_loopw [22] (fun i wr => ∃ j : Nat, i = .int .i64 j ∧ j ≤ us.length ∧ Hid (SameTo us ts j) ∧ Ext w2 wr) (fun i _ => us.length - (intOf i).toNat)
  case atStart => exact ⟨0, rfl, Nat.zero_le _, Lib.hid (fun j hj => by omega), Ext.refl _⟩
  case round =>
    obtain ⟨j, rfl, hj, hp, hE3⟩ := hrel
    have hr0 : wr.cell? ⟨w.heap.size, 0, none⟩ = some (.int .i64 W.var) := Ext.keep hE3 hs0
    have hr1 : wr.cell? ⟨w.heap.size, 1, none⟩ = some (.slice S n c) := Ext.keep hE3 hs1
    have hr2 : wr.cell? ⟨w.heap.size, 2, none⟩ = some (.slice R q d) := Ext.keep hE3 hs2
    have hr3 : wr.cell? ⟨w.heap.size + 1, 0, none⟩ = some (.slice A k l) := Ext.keep hE3 hs3
    have hEwr : Ext w wr := Ext.trans hEw2 hE3
    by_cases hlt : j < us.length
    · obtain ⟨a, hak⟩ : ∃ a, us[j]? = some a := ⟨us[j], List.getElem?_eq_getElem hlt⟩
      have hlt2 : j < ts.length := by rw [← HL.out]; exact hlt
      obtain ⟨b, hbk⟩ : ∃ b, ts[j]? = some b := ⟨ts[j], List.getElem?_eq_getElem hlt2⟩
      obtain ⟨b1, o1, z1, rfl, hz1, hc1⟩ := RI.at_ (RI.ext HP.out hE3) hlt
      obtain ⟨b2, o2, z2, rfl, hz2, hc2⟩ := RI.at_ (RI.ext HQ.out hE3) hlt2
      rw [starts_get hlt] at hz1
      rw [starts_get hlt2] at hz2
      injection hz1 with hz1; subst hz1
      injection hz2 with hz2; subst hz2
      have hda := drop_arg (x := x) (t := (Tm.node x us).flat) (p := 0) (rest := []) (by simp) hak
      have hdb := drop_arg (x := y) (t := (Tm.node y ts).flat) (p := 0) (rest := []) (by simp) hbk
      rw [Nat.zero_add] at hda hdb
      have HDA := Lib.hid hda
      have HDB := Lib.hid hdb
      have HAO := Lib.hid (OkL_iff.1 (Ok_node.1 HU.out).2 a (List.mem_of_getElem? hak))
      have HBO := Lib.hid (OkL_iff.1 (Ok_node.1 HV.out).2 b (List.mem_of_getElem? hbk))
      have HW := Lib.hid (HI.out a (List.mem_of_getElem? hak) b (List.mem_of_getElem? hbk))
      have HAK := Lib.hid hak
      have HBK := Lib.hid hbk
      clear hda hdb hak hbk
      have hj1 : (j : Int) < (us.length : Int) := by omega
      have hj2 : (j : Int) < (ts.length : Int) := by omega
      have hj0 : (0 : Int) ≤ (j : Int) := by omega
      go_wp2_with fail
      refine wp_region_held_drew (S := (fun w' => w'.cell? ⟨w.heap.size + 1, 0, none⟩ = some (.slice A k l) ∧ Ext wr w' ∧ w'.cell? ⟨b1, o1 + j, none⟩ = some (.int .i64 ((1 + (flatL (us.take j)).length : Nat) : Int)) ∧ w'.cell? ⟨b2, o2 + j, none⟩ = some (.int .i64 ((1 + (flatL (ts.take j)).length : Nat) : Int)))) (by kernel_rfl) ?_ (fun hH => ?_)
      · exact ⟨hr3, (Ext.refl wr).drew, hc1, hc2⟩
      refine wpAnyH_take_dst (i := 0) (v := .agg #[.slice A k l]) (d := some 25) rfl rfl (by kernel_rfl) (by kernel_rfl) (by kernel_rfl) (fun _ _ _ h => h) (Or.inl ⟨by rfl, ?_⟩) hH ?_
      · (intro w hSw; (try dsimp only at hSw); go_split_ands; go_simp; try with_reducible rfl)
      try simp only [Act.put, List.setIfInBounds_toArray, List.set_cons_zero, List.set_cons_succ]
      refine wpAnyH_take_dst (i := 1) (v := .slice D m f) (d := some 26) rfl rfl (by kernel_rfl) (by kernel_rfl) (by kernel_rfl) (fun _ _ _ h => h) (Or.inl ⟨by rfl, ?_⟩) hH ?_
      · (intro w hSw; (try dsimp only at hSw); go_split_ands; go_simp; try with_reducible rfl)
      try simp only [Act.put, List.setIfInBounds_toArray, List.set_cons_zero, List.set_cons_succ]
      refine wpAnyH_take_dst (i := 2) (v := .slice (some ⟨b1, o1, none⟩) us.length c1) (d := some 27) rfl rfl (by kernel_rfl) (by kernel_rfl) (by kernel_rfl) (fun _ _ _ h => h) (Or.inl ⟨by rfl, ?_⟩) hH ?_
      · (intro w hSw; (try dsimp only at hSw); go_split_ands; go_simp; try with_reducible rfl)
      try simp only [Act.put, List.setIfInBounds_toArray, List.set_cons_zero, List.set_cons_succ]
      refine wpAnyH_take_dst (i := 3) (v := .int .i64 (j : Int)) (d := some 28) rfl rfl (by kernel_rfl) (by kernel_rfl) (by kernel_rfl) (fun _ _ _ h => h) (Or.inl ⟨by rfl, ?_⟩) hH ?_
      · (intro w hSw; (try dsimp only at hSw); go_split_ands; go_simp; try with_reducible rfl)
      try simp only [Act.put, List.setIfInBounds_toArray, List.set_cons_zero, List.set_cons_succ]
      refine wpAnyH_take_dst (i := 4) (v := .pointer (some ⟨b1, o1 + j, none⟩)) (d := some 29) rfl rfl (by kernel_rfl) (by kernel_rfl) (by kernel_rfl) (fun _ _ _ h => h) (Or.inl ⟨by rfl, ?_⟩) hH ?_
      · (intro w hSw; (try dsimp only at hSw); go_split_ands; go_simp; try with_reducible rfl)
      try simp only [Act.put, List.setIfInBounds_toArray, List.set_cons_zero, List.set_cons_succ]
      refine wpAnyH_take_dst (i := 5) (v := .int .i64 ((1 + (flatL (us.take j)).length : Nat) : Int)) (d := some 30) rfl rfl (by kernel_rfl) (by kernel_rfl) (by kernel_rfl) (fun _ _ _ h => h) (Or.inl ⟨by rfl, ?_⟩) hH ?_
      · (intro w hSw; (try dsimp only at hSw); go_split_ands; go_simp; try with_reducible rfl)
      try simp only [Act.put, List.setIfInBounds_toArray, List.set_cons_zero, List.set_cons_succ]
      refine wpAnyH_take_dst (i := 7) (v := .agg #[.slice A k l]) (d := some 32) rfl rfl (by kernel_rfl) (by kernel_rfl) (by kernel_rfl) (fun _ _ _ h => h) (Or.inl ⟨by rfl, ?_⟩) hH ?_
      · (intro w hSw; (try dsimp only at hSw); go_split_ands; go_simp; try with_reducible rfl)
      try simp only [Act.put, List.setIfInBounds_toArray, List.set_cons_zero, List.set_cons_succ]
      refine wpAnyH_take_dst (i := 8) (v := .slice D' m' f') (d := some 33) rfl rfl (by kernel_rfl) (by kernel_rfl) (by kernel_rfl) (fun _ _ _ h => h) (Or.inl ⟨by rfl, ?_⟩) hH ?_
      · (intro w hSw; (try dsimp only at hSw); go_split_ands; go_simp; try with_reducible rfl)
      try simp only [Act.put, List.setIfInBounds_toArray, List.set_cons_zero, List.set_cons_succ]
      refine wpAnyH_take_dst (i := 9) (v := .slice (some ⟨b2, o2, none⟩) ts.length c2) (d := some 34) rfl rfl (by kernel_rfl) (by kernel_rfl) (by kernel_rfl) (fun _ _ _ h => h) (Or.inl ⟨by rfl, ?_⟩) hH ?_
      · (intro w hSw; (try dsimp only at hSw); go_split_ands; go_simp; try with_reducible rfl)
      try simp only [Act.put, List.setIfInBounds_toArray, List.set_cons_zero, List.set_cons_succ]
      refine wpAnyH_take_dst (i := 10) (v := .int .i64 (j : Int)) (d := some 35) rfl rfl (by kernel_rfl) (by kernel_rfl) (by kernel_rfl) (fun _ _ _ h => h) (Or.inl ⟨by rfl, ?_⟩) hH ?_
      · (intro w hSw; (try dsimp only at hSw); go_split_ands; go_simp; try with_reducible rfl)
      try simp only [Act.put, List.setIfInBounds_toArray, List.set_cons_zero, List.set_cons_succ]
      refine wpAnyH_take_dst (i := 11) (v := .pointer (some ⟨b2, o2 + j, none⟩)) (d := some 36) rfl rfl (by kernel_rfl) (by kernel_rfl) (by kernel_rfl) (fun _ _ _ h => h) (Or.inl ⟨by rfl, ?_⟩) hH ?_
      · (intro w hSw; (try dsimp only at hSw); go_split_ands; go_simp; try with_reducible rfl)
      try simp only [Act.put, List.setIfInBounds_toArray, List.set_cons_zero, List.set_cons_succ]
      refine wpAnyH_take_dst (i := 12) (v := .int .i64 ((1 + (flatL (ts.take j)).length : Nat) : Int)) (d := some 37) rfl rfl (by kernel_rfl) (by kernel_rfl) (by kernel_rfl) (fun _ _ _ h => h) (Or.inl ⟨by rfl, ?_⟩) hH ?_
      · (intro w hSw; (try dsimp only at hSw); go_split_ands; go_simp; try with_reducible rfl)
      try simp only [Act.put, List.setIfInBounds_toArray, List.set_cons_zero, List.set_cons_succ]
      refine wpAnyH_ready (rs := [6]) (by kernel_rfl) (by simp) ?_
      refine AllReadyH.cons rfl (fun K hK => ?_) AllReadyH.nil
      rw [if_pos (by rfl)]
      go_wp2_with (go_at_call 157; (with_reducible refine ((c_subAt' (u := a) (RdSig.mk (RI.ext HB.out (Ext.trans hEwr hH.2.1))) (RdIc.mk HMF.out (RI.ext HD.out (Ext.trans hEwr hH.2.1))) HS.out HAO.out HDA.out (by omega))).mono ?_); rintro e w4 ⟨A3, n3, c3, rfl, hcap3, hr4, hE9⟩)
      refine hK.out _ _ ⟨Ext.keep hE9 hH.1, Ext.trans hH.2.1 hE9, Ext.keep hE9 hH.2.2.1, Ext.keep hE9 hH.2.2.2⟩ (fun hH9 => ?_)
      clear hK hH; have hH := hH9; clear hH9
      try simp only [Act.put, List.setIfInBounds_toArray, List.set_cons_zero, List.set_cons_succ]
      refine wpAnyH_ready (rs := [13]) (by kernel_rfl) (by simp) ?_
      refine AllReadyH.cons rfl (fun K hK => ?_) AllReadyH.nil
      rw [if_pos (by rfl)]
      go_wp2_with (go_at_call 157; (with_reducible refine ((c_subAt' (u := b) (RdSig.mk (RI.ext HB.out (Ext.trans hEwr hH.2.1))) (RdIc.mk HMF'.out (RI.ext HD'.out (Ext.trans hEwr hH.2.1))) HS.out HBO.out HDB.out (by omega))).mono ?_); rintro e w5 ⟨A4, n4, c4, rfl, hcap4, hr5, hE9⟩)
      refine hK.out _ _ ⟨Ext.keep hE9 hH.1, Ext.trans hH.2.1 hE9, Ext.keep hE9 hH.2.2.1, Ext.keep hE9 hH.2.2.2⟩ (fun hH9 => ?_)
      clear hK hH; have hH := hH9; clear hH9
      try simp only [Act.put, List.setIfInBounds_toArray, List.set_cons_zero, List.set_cons_succ]
      refine wpAnyH_take_dst (i := 14) (v := .slice A3 n3 c3) (d := some 12) rfl rfl (by kernel_rfl) (by kernel_rfl) (by kernel_rfl) (fun _ _ _ h => h) (Or.inl ⟨by rfl, ?_⟩) hH ?_
      · (intro w hSw; (try dsimp only at hSw); go_split_ands; go_simp; try with_reducible rfl)
      try simp only [Act.put, List.setIfInBounds_toArray, List.set_cons_zero, List.set_cons_succ]
      refine wpAnyH_take_dst (i := 15) (v := .slice A4 n4 c4) (d := some 13) rfl rfl (by kernel_rfl) (by kernel_rfl) (by kernel_rfl) (fun _ _ _ h => h) (Or.inl ⟨by rfl, ?_⟩) hH ?_
      · (intro w hSw; (try dsimp only at hSw); go_split_ands; go_simp; try with_reducible rfl)
      try simp only [Act.put, List.setIfInBounds_toArray, List.set_cons_zero, List.set_cons_succ]
      refine wpAnyH_done (by kernel_rfl) ?_ _
      obtain ⟨hx3, hE5, _, _⟩ := hH
      have HX := Lib.hid (RI.ext hr4 hE9)
      have HY := Lib.hid hr5
      have hx0 : w5.cell? ⟨w.heap.size, 0, none⟩ = some (.int .i64 W.var) := Ext.keep hE5 hr0
      have hx1 : w5.cell? ⟨w.heap.size, 1, none⟩ = some (.slice S n c) := Ext.keep hE5 hr1
      have hx2 : w5.cell? ⟨w.heap.size, 2, none⟩ = some (.slice R q d) := Ext.keep hE5 hr2
      have HC3 := Lib.hid hcap3
      have HC4 := Lib.hid hcap4
      have hEw5 : Ext w w5 := Ext.trans hEwr hE5
      clear hr4 hr5 hcap3 hcap4 hc1 hc2
      by_cases heq : a.flat = b.flat
      · have hbe : (a.flat == b.flat) = true := by simpa using heq
        have HN := Lib.hid (hp.out.step HAK.out HBK.out heq)
        go_wp2_with (go_at_call 76; (with_reducible refine (c_slicesEqual (xs := a.flat) (ys := b.flat) (RdI.mk (RI.ext HX.out (by exact extX))) (RdI.mk (RI.ext HY.out (by exact extX)))).mono ?_); rintro e w6 ⟨rfl, hE6⟩)
        go_roundw
        case rel => exact ⟨j + 1, by go_num, by omega, HN, Ext.trans hE3 (Ext.trans hE5 hE6)⟩
        case measure => simp only [intOf]; omega
      · have hbe : (a.flat == b.flat) = false := by simpa using heq
        have HN := Lib.hid (kboL_at (ar := ar) (W := W) HL.out hp.out HAK.out HBK.out heq)
        go_wp2_with fail
        (with_reducible refine (c_slicesEqual (xs := a.flat) (ys := b.flat) (RdI.mk (RI.ext HX.out (by exact extX))) (RdI.mk (RI.ext HY.out (by exact extX)))).mono ?_)
        rintro e w6 ⟨rfl, hE6⟩
        have hy0 : w6.cell? ⟨w.heap.size, 0, none⟩ = some (.int .i64 W.var) := Ext.keep hE6 hx0
        have hy1 : w6.cell? ⟨w.heap.size, 1, none⟩ = some (.slice S n c) := Ext.keep hE6 hx1
        have hy2 : w6.cell? ⟨w.heap.size, 2, none⟩ = some (.slice R q d) := Ext.keep hE6 hx2
        have hy3 : w6.cell? ⟨w.heap.size + 1, 0, none⟩ = some (.slice A k l) := Ext.keep hE6 hx3
        have hE65 : Ext w w6 := Ext.trans hEw5 hE6
        go_wp2_with fail
        (with_reducible refine (HW.out _ _ _ _ _ (RdWt.mk (RI.ext HA.out hE65) (RI.ext HR.out hE65)) (RdSig.mk (RI.ext HB.out hE65)) (RdIc.mk HC3.out (RI.ext HX.out hE6)) (RdIc.mk HC4.out (RI.ext HY.out hE6))).mono ?_)
        rintro e w7 ⟨rfl, hE7⟩
        go_wp2
        go_ret
        exact ⟨ret_bool (by rw [HN.out]), by exact extX⟩
    · have hjn : j = us.length := by omega
      have HN := Lib.hid (kboL_end (ar := ar) (W := W) HL.out (by rw [← hjn]; exact hp.out))
      go_wp2
      go_ret
      exact ⟨ret_bool HN.out.symm, by exact extX⟩
theorem c_firstGreater' {v0 v1 v2 v3 : Value} {ar : List Int} {W : Wt} {x y : Int} {us ts : List Tm} {w : World} {b : Bool} (hb : kboL ar W us ts = b) (h0 : RdWt w v0 W) (h1 : RdSig w v1 ar) (h2 : RdIc w v2 (Tm.node x us).flat) (h3 : RdIc w v3 (Tm.node y ts).flat)
    (hs : SigP ar) (hu : (Tm.node x us).Ok ar) (hv : (Tm.node y ts).Ok ar) (hl : us.length = ts.length) (ih : ∀ a ∈ us, ∀ b ∈ ts, WhyI ar W a b) :
    Calls Try.prog 127 #[v0, v1, v2, v3] w fun e w' => e = .returned (.bool b) ∧ Ext w w' := by
  subst hb; exact c_firstGreater h0 h1 h2 h3 hs hu hv hl ih
theorem ok_len {ar : List Int} {x : Int} {us ts : List Tm} (hu : (Tm.node x us).Ok ar) (hv : (Tm.node x ts).Ok ar) : us.length = ts.length := by
  have h1 := (Ok_node.1 hu).1
  have h2 := (Ok_node.1 hv).1
  rw [h1] at h2; injection h2
set_option maxRecDepth 100000 in
set_option maxHeartbeats 4000000 in
theorem c_why {ar : List Int} {W : Wt} (hs : SigP ar) (hW : WtP ar W) {x y : Int} {us ts : List Tm} (hu : (Tm.node x us).Ok ar) (hv : (Tm.node y ts).Ok ar) (ih : ∀ a ∈ us, ∀ b ∈ ts, WhyI ar W a b) : WhyI ar W (Tm.node x us) (Tm.node y ts) := by
  intro v0 v1 v2 v3 w h0 h1 h2 h3
  obtain ⟨SA, n, c, R, q, d, rfl, ha, hr⟩ := h0
  obtain ⟨A, k, l, rfl, hb⟩ := h1
  obtain ⟨D, m, f, rfl, hmf, hd⟩ := h2
  obtain ⟨D', m', f', rfl, hmf', hd'⟩ := h3
  have hnk : n = k := by rw [← ha.len, ← hb.len]; exact hW.2.1
  have hqk : q = k := by rw [← hr.len, ← hb.len]; exact hW.1.2.1
  have hkl := hb.len
  have hm1 : 0 < m := by have := hd.len; have := flat_pos (Tm.node x us); omega
  have hm1' : 0 < m' := by have := hd'.len; have := flat_pos (Tm.node y ts); omega
  have hxk := arI_lt (Ok_node.1 hu).1
  have hyk := arI_lt (Ok_node.1 hv).1
  rw [hkl] at hxk hyk
  have hlt : ∀ z ∈ (Tm.node y ts).flat, z < ar.length := flat_lt _ hv
  have HSL := Lib.hid (hW.lt (flat_lt _ hu))
  have HTL := Lib.hid (hW.lt (flat_lt _ hv))
  have HLT := Lib.hid hlt
  have HLS := Lib.hid hW.2.1
  have HWB := Lib.hid hW.wb
  obtain ⟨bx, ox, zx, rfl, hzx, hcx⟩ := RI.at_ hd hm1
  obtain ⟨by', oy, zy, rfl, hzy, hcy⟩ := RI.at_ hd' hm1'
  rw [flat_node] at hzx hzy
  injection hzx with hzx; subst hzx
  injection hzy with hzy; subst hzy
  rw [Nat.add_zero] at hcx hcy
  obtain ⟨s, hsdef⟩ : ∃ s, s = (Tm.node x us).flat := ⟨_, rfl⟩
  obtain ⟨t, htdef⟩ : ∃ t, t = (Tm.node y ts).flat := ⟨_, rfl⟩
  have hsl : s.length = m := by rw [hsdef]; exact hd.len
  have htl : t.length = m' := by rw [htdef]; exact hd'.len
  have HK := Lib.hid (kbo_node ar W x y us ts)
  rw [← hsdef, ← htdef] at HK
  rw [← hsdef] at hd HSL
  rw [← htdef] at hd' HTL HLT
  have HW := Lib.hid (RdWt.mk (c := c) (d := d) ha hr)
  have HSV := Lib.hid (RdI.mk (c := f) hd)
  have HTV := Lib.hid (RdI.mk (c := f') hd')
  have HA := Lib.hid ha
  have HR := Lib.hid hr
  have HB := Lib.hid hb
  have HD := Lib.hid hd
  have HD' := Lib.hid hd'
  have HMF := Lib.hid hmf
  have HMF' := Lib.hid hmf'
  have HS := Lib.hid hs
  have HU := Lib.hid hu
  have HV := Lib.hid hv
  have HI := Lib.hid ih
  have HTT := Lib.hid htdef
  have HST := Lib.hid hsdef
  have HTLEN := Lib.hid htl
  have hm2 : (0 : Int) < (m : Int) := by omega
  have hm2' : (0 : Int) < (m' : Int) := by omega
  subst hnk
  have hqk' := hqk.symm
  subst hqk'
  clear hqk
  clear ha hr hb hd hd' hmf hmf' hs hu hv ih hkl hlt hW htdef hsdef hsl htl
  cases hof : oft s t with
  | false =>
    have HN := Lib.hid (show kbo ar W (Tm.node x us) (Tm.node y ts) = 0 by rw [HK.out, if_pos hof])
    go_enter Try.func101, Try.ntmps101
    go_wp2_with (go_at_call 124; (with_reducible refine (c_often (s := s) (t := t) (RdI.mk (RI.ext HD.out (by exact extX))) (RdI.mk (RI.ext HD'.out (by exact extX)))).mono ?_); rintro e w1 ⟨rfl, rfl⟩)
    go_ret
    exact ⟨ret_int HN.out.symm, by exact extX⟩
  | true =>
  have HK2 := Lib.hid (HK.out.trans (if_neg (by rw [hof]; decide)))
  clear HK
  go_enter Try.func101, Try.ntmps101
  go_wp2_with (go_at_call 124; (with_reducible refine (c_often (s := s) (t := t) (RdI.mk (RI.ext HD.out (by exact extX))) (RdI.mk (RI.ext HD'.out (by exact extX)))).mono ?_); rintro e w1 ⟨rfl, rfl⟩)
  obtain ⟨wo, hwo⟩ : ∃ wo, wo = (w.alloc (.cells #[.int .i64 W.var, .slice SA n c, .slice R n d] 48)).alloc (.cells #[.slice A n l] 31) := ⟨_, rfl⟩
  have hw0 : wo.cell? ⟨w.heap.size, 0, none⟩ = some (.int .i64 W.var) := by rw [hwo]; simp [go_sem]
  have hw1 : wo.cell? ⟨w.heap.size, 1, none⟩ = some (.slice SA n c) := by rw [hwo]; simp [go_sem]
  have hw2 : wo.cell? ⟨w.heap.size, 2, none⟩ = some (.slice R n d) := by rw [hwo]; simp [go_sem]
  have hw3 : wo.cell? ⟨w.heap.size + 1, 0, none⟩ = some (.slice A n l) := by rw [hwo]; simp [go_sem]
  have hEo : Ext w wo := by rw [hwo]; exact extX
  rw [← hwo]
  clear hwo
  refine wp_region_inv (by kernel_rfl) (by kernel_rfl) (fun a0 S a w' => ∃ (u0 u1 u2 u3 u4 u5 u6 u7 u8 u9 : Value) (g8 g9 : Nat), a = ((((((((((a0.put (some 15) u0).put (some 16) u1).put (some 17) u2).put (some 18) u3).put (some 19) u4).put (some 20) u5).put (some 21) u6).put (some 22) u7).put (some 9) u8).put (some 10) u9) ∧ Ext wo w' ∧ (S 0 = true → u0 = .agg #[.int .i64 W.var, .slice SA n c, .slice R n d]) ∧ (S 1 = true → u1 = .slice (some ⟨bx, ox, none⟩) m f) ∧ (S 2 = true → u2 = .int .i64 (wtOf W s)) ∧ (S 3 = true → u3 = .agg #[.int .i64 (wtOf W s)]) ∧ (S 4 = true → u4 = .agg #[.int .i64 W.var, .slice SA n c, .slice R n d]) ∧ (S 5 = true → u5 = .slice (some ⟨by', oy, none⟩) m' f') ∧ (S 6 = true → u6 = .int .i64 (wtOf W t)) ∧ (S 7 = true → u7 = .agg #[.int .i64 (wtOf W t)]) ∧ (S 8 = true → u8 = .pointer (some ⟨g8, 0, none⟩) ∧ Bx wo w' g8) ∧ (S 9 = true → u9 = .pointer (some ⟨g9, 0, none⟩) ∧ Bx wo w' g9) ∧ (S 8 = true → S 9 = true → g8 ≠ g9) ∧ (S 10 = true → S 8 = true ∧ w'.cell? ⟨g8, 0, none⟩ = some (.int .i64 (wtOf W s))) ∧ (S 11 = true → S 9 = true ∧ w'.cell? ⟨g9, 0, none⟩ = some (.int .i64 (wtOf W t)))) ?_ ?_ ?_
  · intro S hS
    exact ⟨undef, undef, undef, undef, undef, undef, undef, undef, undef, undef, 0, 0, by simp only [Act.put, List.setIfInBounds_toArray, List.set_cons_zero, List.set_cons_succ], Ext.drew (Ext.refl _), fun h => absurd ((hS 0 (by decide)).symm.trans h) (by decide), fun h => absurd ((hS 1 (by decide)).symm.trans h) (by decide), fun h => absurd ((hS 2 (by decide)).symm.trans h) (by decide), fun h => absurd ((hS 3 (by decide)).symm.trans h) (by decide), fun h => absurd ((hS 4 (by decide)).symm.trans h) (by decide), fun h => absurd ((hS 5 (by decide)).symm.trans h) (by decide), fun h => absurd ((hS 6 (by decide)).symm.trans h) (by decide), fun h => absurd ((hS 7 (by decide)).symm.trans h) (by decide), fun h => absurd ((hS 8 (by decide)).symm.trans h) (by decide), fun h => absurd ((hS 9 (by decide)).symm.trans h) (by decide), fun h _ => absurd ((hS 8 (by decide)).symm.trans h) (by decide), fun h => absurd ((hS 10 (by decide)).symm.trans h) (by decide), fun h => absurd ((hS 11 (by decide)).symm.trans h) (by decide)⟩
  · refine ⟨?_, ?_, ?_, ?_, ?_, ?_, ?_, ?_, ?_, ?_, ?_, ?_, trivial⟩
    · refine StepInv.fresh rfl fun S a w' K hdep hI hK0 hSi => ?_
      obtain ⟨u0, u1, u2, u3, u4, u5, u6, u7, u8, u9, g8, g9, ha, hE', p0, p1, p2, p3, p4, p5, p6, p7, p8, p9, p89, p10, p11⟩ := hI
      simp only [Act.put, List.setIfInBounds_toArray, List.set_cons_zero, List.set_cons_succ] at ha
      subst ha
      have hK := Lib.hid hK0; clear hK0
      clear hdep
      have q0 := Ext.keep hE' hw0; have q1 := Ext.keep hE' hw1; have q2 := Ext.keep hE' hw2
      go_wp2_with fail
      exact hK.out _ _ ⟨.agg #[.int .i64 W.var, .slice SA n c, .slice R n d], u1, u2, u3, u4, u5, u6, u7, u8, u9, g8, g9, by simp only [Act.put, List.setIfInBounds_toArray, List.set_cons_zero, List.set_cons_succ], by first | exact hE' | exact hE'.drew, fun _ => rfl, fun h => (p1 (by simpa using h)), fun h => (p2 (by simpa using h)), fun h => (p3 (by simpa using h)), fun h => (p4 (by simpa using h)), fun h => (p5 (by simpa using h)), fun h => (p6 (by simpa using h)), fun h => (p7 (by simpa using h)), fun h => (p8 (by simpa using h)), fun h => (p9 (by simpa using h)), fun h h2 => p89 (by simpa using h) (by simpa using h2), fun h => ⟨by simpa using (p10 (by simpa using h)).1, (p10 (by simpa using h)).2⟩, fun h => ⟨by simpa using (p11 (by simpa using h)).1, (p11 (by simpa using h)).2⟩⟩
    · refine StepInv.fresh rfl fun S a w' K hdep hI hK0 hSi => ?_
      obtain ⟨u0, u1, u2, u3, u4, u5, u6, u7, u8, u9, g8, g9, ha, hE', p0, p1, p2, p3, p4, p5, p6, p7, p8, p9, p89, p10, p11⟩ := hI
      simp only [Act.put, List.setIfInBounds_toArray, List.set_cons_zero, List.set_cons_succ] at ha
      subst ha
      have hK := Lib.hid hK0; clear hK0
      clear hdep
      go_wp2_with fail
      exact hK.out _ _ ⟨u0, .slice (some ⟨bx, ox, none⟩) m f, u2, u3, u4, u5, u6, u7, u8, u9, g8, g9, by simp only [Act.put, List.setIfInBounds_toArray, List.set_cons_zero, List.set_cons_succ], by first | exact hE' | exact hE'.drew, fun h => (p0 (by simpa using h)), fun _ => rfl, fun h => (p2 (by simpa using h)), fun h => (p3 (by simpa using h)), fun h => (p4 (by simpa using h)), fun h => (p5 (by simpa using h)), fun h => (p6 (by simpa using h)), fun h => (p7 (by simpa using h)), fun h => (p8 (by simpa using h)), fun h => (p9 (by simpa using h)), fun h h2 => p89 (by simpa using h) (by simpa using h2), fun h => ⟨by simpa using (p10 (by simpa using h)).1, (p10 (by simpa using h)).2⟩, fun h => ⟨by simpa using (p11 (by simpa using h)).1, (p11 (by simpa using h)).2⟩⟩
    · refine StepInv.fresh rfl fun S a w' K hdep hI hK0 hSi => ?_
      obtain ⟨u0, u1, u2, u3, u4, u5, u6, u7, u8, u9, g8, g9, ha, hE', p0, p1, p2, p3, p4, p5, p6, p7, p8, p9, p89, p10, p11⟩ := hI
      simp only [Act.put, List.setIfInBounds_toArray, List.set_cons_zero, List.set_cons_succ] at ha
      subst ha
      have hK := Lib.hid hK0; clear hK0
      obtain rfl := p0 (hdep ⟨0, Ground.data⟩ (by simp) rfl)
      obtain rfl := p1 (hdep ⟨1, Ground.data⟩ (by simp) rfl)
      clear hdep
      go_wp2_with fail
      (with_reducible refine (c_weigh (W := W) (t := s) (RdWt.ext HW.out (Ext.trans hEo hE')) (RdI.ext HSV.out (Ext.trans hEo hE')) HWB.out HSL.out).mono ?_)
      rintro e w4 ⟨rfl, hE4⟩
      exact hK.out _ _ ⟨.agg #[.int .i64 W.var, .slice SA n c, .slice R n d], .slice (some ⟨bx, ox, none⟩) m f, .int .i64 (wtOf W s), u3, u4, u5, u6, u7, u8, u9, g8, g9, by simp only [Act.put, List.setIfInBounds_toArray, List.set_cons_zero, List.set_cons_succ], Ext.trans hE' hE4, fun _ => rfl, fun _ => rfl, fun _ => rfl, fun h => (p3 (by simpa using h)), fun h => (p4 (by simpa using h)), fun h => (p5 (by simpa using h)), fun h => (p6 (by simpa using h)), fun h => (p7 (by simpa using h)), fun h => ⟨(p8 (by simpa using h)).1, (p8 (by simpa using h)).2.ext hE4⟩, fun h => ⟨(p9 (by simpa using h)).1, (p9 (by simpa using h)).2.ext hE4⟩, fun h h2 => p89 (by simpa using h) (by simpa using h2), fun h => ⟨by simpa using (p10 (by simpa using h)).1, Ext.keep hE4 (p10 (by simpa using h)).2⟩, fun h => ⟨by simpa using (p11 (by simpa using h)).1, Ext.keep hE4 (p11 (by simpa using h)).2⟩⟩
    · refine StepInv.fresh rfl fun S a w' K hdep hI hK0 hSi => ?_
      obtain ⟨u0, u1, u2, u3, u4, u5, u6, u7, u8, u9, g8, g9, ha, hE', p0, p1, p2, p3, p4, p5, p6, p7, p8, p9, p89, p10, p11⟩ := hI
      simp only [Act.put, List.setIfInBounds_toArray, List.set_cons_zero, List.set_cons_succ] at ha
      subst ha
      have hK := Lib.hid hK0; clear hK0
      obtain rfl := p2 (hdep ⟨2, Ground.data⟩ (by simp) rfl)
      clear hdep
      go_wp2_with fail
      exact hK.out _ _ ⟨u0, u1, .int .i64 (wtOf W s), .agg #[.int .i64 (wtOf W s)], u4, u5, u6, u7, u8, u9, g8, g9, by simp only [Act.put, List.setIfInBounds_toArray, List.set_cons_zero, List.set_cons_succ], by first | exact hE' | exact hE'.drew, fun h => (p0 (by simpa using h)), fun h => (p1 (by simpa using h)), fun _ => rfl, fun _ => rfl, fun h => (p4 (by simpa using h)), fun h => (p5 (by simpa using h)), fun h => (p6 (by simpa using h)), fun h => (p7 (by simpa using h)), fun h => (p8 (by simpa using h)), fun h => (p9 (by simpa using h)), fun h h2 => p89 (by simpa using h) (by simpa using h2), fun h => ⟨by simpa using (p10 (by simpa using h)).1, (p10 (by simpa using h)).2⟩, fun h => ⟨by simpa using (p11 (by simpa using h)).1, (p11 (by simpa using h)).2⟩⟩
    · refine StepInv.fresh rfl fun S a w' K hdep hI hK0 hSi => ?_
      obtain ⟨u0, u1, u2, u3, u4, u5, u6, u7, u8, u9, g8, g9, ha, hE', p0, p1, p2, p3, p4, p5, p6, p7, p8, p9, p89, p10, p11⟩ := hI
      simp only [Act.put, List.setIfInBounds_toArray, List.set_cons_zero, List.set_cons_succ] at ha
      subst ha
      have hK := Lib.hid hK0; clear hK0
      clear hdep
      have q0 := Ext.keep hE' hw0; have q1 := Ext.keep hE' hw1; have q2 := Ext.keep hE' hw2
      go_wp2_with fail
      exact hK.out _ _ ⟨u0, u1, u2, u3, .agg #[.int .i64 W.var, .slice SA n c, .slice R n d], u5, u6, u7, u8, u9, g8, g9, by simp only [Act.put, List.setIfInBounds_toArray, List.set_cons_zero, List.set_cons_succ], by first | exact hE' | exact hE'.drew, fun h => (p0 (by simpa using h)), fun h => (p1 (by simpa using h)), fun h => (p2 (by simpa using h)), fun h => (p3 (by simpa using h)), fun _ => rfl, fun h => (p5 (by simpa using h)), fun h => (p6 (by simpa using h)), fun h => (p7 (by simpa using h)), fun h => (p8 (by simpa using h)), fun h => (p9 (by simpa using h)), fun h h2 => p89 (by simpa using h) (by simpa using h2), fun h => ⟨by simpa using (p10 (by simpa using h)).1, (p10 (by simpa using h)).2⟩, fun h => ⟨by simpa using (p11 (by simpa using h)).1, (p11 (by simpa using h)).2⟩⟩
    · refine StepInv.fresh rfl fun S a w' K hdep hI hK0 hSi => ?_
      obtain ⟨u0, u1, u2, u3, u4, u5, u6, u7, u8, u9, g8, g9, ha, hE', p0, p1, p2, p3, p4, p5, p6, p7, p8, p9, p89, p10, p11⟩ := hI
      simp only [Act.put, List.setIfInBounds_toArray, List.set_cons_zero, List.set_cons_succ] at ha
      subst ha
      have hK := Lib.hid hK0; clear hK0
      clear hdep
      go_wp2_with fail
      exact hK.out _ _ ⟨u0, u1, u2, u3, u4, .slice (some ⟨by', oy, none⟩) m' f', u6, u7, u8, u9, g8, g9, by simp only [Act.put, List.setIfInBounds_toArray, List.set_cons_zero, List.set_cons_succ], by first | exact hE' | exact hE'.drew, fun h => (p0 (by simpa using h)), fun h => (p1 (by simpa using h)), fun h => (p2 (by simpa using h)), fun h => (p3 (by simpa using h)), fun h => (p4 (by simpa using h)), fun _ => rfl, fun h => (p6 (by simpa using h)), fun h => (p7 (by simpa using h)), fun h => (p8 (by simpa using h)), fun h => (p9 (by simpa using h)), fun h h2 => p89 (by simpa using h) (by simpa using h2), fun h => ⟨by simpa using (p10 (by simpa using h)).1, (p10 (by simpa using h)).2⟩, fun h => ⟨by simpa using (p11 (by simpa using h)).1, (p11 (by simpa using h)).2⟩⟩
    · refine StepInv.fresh rfl fun S a w' K hdep hI hK0 hSi => ?_
      obtain ⟨u0, u1, u2, u3, u4, u5, u6, u7, u8, u9, g8, g9, ha, hE', p0, p1, p2, p3, p4, p5, p6, p7, p8, p9, p89, p10, p11⟩ := hI
      simp only [Act.put, List.setIfInBounds_toArray, List.set_cons_zero, List.set_cons_succ] at ha
      subst ha
      have hK := Lib.hid hK0; clear hK0
      obtain rfl := p4 (hdep ⟨4, Ground.data⟩ (by simp) rfl)
      obtain rfl := p5 (hdep ⟨5, Ground.data⟩ (by simp) rfl)
      clear hdep
      go_wp2_with fail
      (with_reducible refine (c_weigh (W := W) (t := t) (RdWt.ext HW.out (Ext.trans hEo hE')) (RdI.ext HTV.out (Ext.trans hEo hE')) HWB.out HTL.out).mono ?_)
      rintro e w4 ⟨rfl, hE4⟩
      exact hK.out _ _ ⟨u0, u1, u2, u3, .agg #[.int .i64 W.var, .slice SA n c, .slice R n d], .slice (some ⟨by', oy, none⟩) m' f', .int .i64 (wtOf W t), u7, u8, u9, g8, g9, by simp only [Act.put, List.setIfInBounds_toArray, List.set_cons_zero, List.set_cons_succ], Ext.trans hE' hE4, fun h => (p0 (by simpa using h)), fun h => (p1 (by simpa using h)), fun h => (p2 (by simpa using h)), fun h => (p3 (by simpa using h)), fun _ => rfl, fun _ => rfl, fun _ => rfl, fun h => (p7 (by simpa using h)), fun h => ⟨(p8 (by simpa using h)).1, (p8 (by simpa using h)).2.ext hE4⟩, fun h => ⟨(p9 (by simpa using h)).1, (p9 (by simpa using h)).2.ext hE4⟩, fun h h2 => p89 (by simpa using h) (by simpa using h2), fun h => ⟨by simpa using (p10 (by simpa using h)).1, Ext.keep hE4 (p10 (by simpa using h)).2⟩, fun h => ⟨by simpa using (p11 (by simpa using h)).1, Ext.keep hE4 (p11 (by simpa using h)).2⟩⟩
    · refine StepInv.fresh rfl fun S a w' K hdep hI hK0 hSi => ?_
      obtain ⟨u0, u1, u2, u3, u4, u5, u6, u7, u8, u9, g8, g9, ha, hE', p0, p1, p2, p3, p4, p5, p6, p7, p8, p9, p89, p10, p11⟩ := hI
      simp only [Act.put, List.setIfInBounds_toArray, List.set_cons_zero, List.set_cons_succ] at ha
      subst ha
      have hK := Lib.hid hK0; clear hK0
      obtain rfl := p6 (hdep ⟨6, Ground.data⟩ (by simp) rfl)
      clear hdep
      go_wp2_with fail
      exact hK.out _ _ ⟨u0, u1, u2, u3, u4, u5, .int .i64 (wtOf W t), .agg #[.int .i64 (wtOf W t)], u8, u9, g8, g9, by simp only [Act.put, List.setIfInBounds_toArray, List.set_cons_zero, List.set_cons_succ], by first | exact hE' | exact hE'.drew, fun h => (p0 (by simpa using h)), fun h => (p1 (by simpa using h)), fun h => (p2 (by simpa using h)), fun h => (p3 (by simpa using h)), fun h => (p4 (by simpa using h)), fun h => (p5 (by simpa using h)), fun _ => rfl, fun _ => rfl, fun h => (p8 (by simpa using h)), fun h => (p9 (by simpa using h)), fun h h2 => p89 (by simpa using h) (by simpa using h2), fun h => ⟨by simpa using (p10 (by simpa using h)).1, (p10 (by simpa using h)).2⟩, fun h => ⟨by simpa using (p11 (by simpa using h)).1, (p11 (by simpa using h)).2⟩⟩
    · refine StepInv.fresh rfl fun S a w' K hdep hI hK0 hSi => ?_
      obtain ⟨u0, u1, u2, u3, u4, u5, u6, u7, u8, u9, g8, g9, ha, hE', p0, p1, p2, p3, p4, p5, p6, p7, p8, p9, p89, p10, p11⟩ := hI
      simp only [Act.put, List.setIfInBounds_toArray, List.set_cons_zero, List.set_cons_succ] at ha
      subst ha
      have hK := Lib.hid hK0; clear hK0
      clear hdep
      go_wp2_with fail
      exact hK.out _ _ ⟨u0, u1, u2, u3, u4, u5, u6, u7, .pointer (some ⟨w'.heap.size, 0, none⟩), u9, w'.heap.size, g9, by simp only [Act.put, List.setIfInBounds_toArray, List.set_cons_zero, List.set_cons_succ], hE'.alloc _, fun h => (p0 (by simpa using h)), fun h => (p1 (by simpa using h)), fun h => (p2 (by simpa using h)), fun h => (p3 (by simpa using h)), fun h => (p4 (by simpa using h)), fun h => (p5 (by simpa using h)), fun h => (p6 (by simpa using h)), fun h => (p7 (by simpa using h)), fun _ => ⟨rfl, Bx.new hE' _ _⟩, fun h => ⟨(p9 (by simpa using h)).1, (p9 (by simpa using h)).2.ext (Ext.alloc (Ext.refl _) _)⟩, fun _ h => Ne.symm (Nat.ne_of_lt (p9 (by simpa using h)).2.lt), fun h => absurd ((p10 (by simpa using h)).1.symm.trans hSi) (by decide), fun h => ⟨by simpa using (p11 (by simpa using h)).1, Ext.keep (Ext.alloc (Ext.refl _) _) (p11 (by simpa using h)).2⟩⟩
    · refine StepInv.fresh rfl fun S a w' K hdep hI hK0 hSi => ?_
      obtain ⟨u0, u1, u2, u3, u4, u5, u6, u7, u8, u9, g8, g9, ha, hE', p0, p1, p2, p3, p4, p5, p6, p7, p8, p9, p89, p10, p11⟩ := hI
      simp only [Act.put, List.setIfInBounds_toArray, List.set_cons_zero, List.set_cons_succ] at ha
      subst ha
      have hK := Lib.hid hK0; clear hK0
      clear hdep
      go_wp2_with fail
      exact hK.out _ _ ⟨u0, u1, u2, u3, u4, u5, u6, u7, u8, .pointer (some ⟨w'.heap.size, 0, none⟩), g8, w'.heap.size, by simp only [Act.put, List.setIfInBounds_toArray, List.set_cons_zero, List.set_cons_succ], hE'.alloc _, fun h => (p0 (by simpa using h)), fun h => (p1 (by simpa using h)), fun h => (p2 (by simpa using h)), fun h => (p3 (by simpa using h)), fun h => (p4 (by simpa using h)), fun h => (p5 (by simpa using h)), fun h => (p6 (by simpa using h)), fun h => (p7 (by simpa using h)), fun h => ⟨(p8 (by simpa using h)).1, (p8 (by simpa using h)).2.ext (Ext.alloc (Ext.refl _) _)⟩, fun _ => ⟨rfl, Bx.new hE' _ _⟩, fun h _ => Nat.ne_of_lt (p8 (by simpa using h)).2.lt, fun h => ⟨by simpa using (p10 (by simpa using h)).1, Ext.keep (Ext.alloc (Ext.refl _) _) (p10 (by simpa using h)).2⟩, fun h => absurd ((p11 (by simpa using h)).1.symm.trans hSi) (by decide)⟩
    · refine StepInv.fresh rfl fun S a w' K hdep hI hK0 hSi => ?_
      obtain ⟨u0, u1, u2, u3, u4, u5, u6, u7, u8, u9, g8, g9, ha, hE', p0, p1, p2, p3, p4, p5, p6, p7, p8, p9, p89, p10, p11⟩ := hI
      simp only [Act.put, List.setIfInBounds_toArray, List.set_cons_zero, List.set_cons_succ] at ha
      subst ha
      have hK := Lib.hid hK0; clear hK0
      obtain rfl := p3 (hdep ⟨3, Ground.data⟩ (by simp) rfl)
      obtain ⟨rfl, hbx8⟩ := p8 (hdep ⟨8, Ground.data⟩ (by simp) rfl)
      have hd8 := hdep ⟨8, Ground.data⟩ (by simp) rfl
      have hd9 := hdep ⟨9, Ground.phase⟩ (by simp) rfl
      have hne := p89 hd8 hd9
      obtain ⟨rfl, hbx9⟩ := p9 hd9
      have hbxx := hbx8
      obtain ⟨hlo, hhi, ⟨vz, hcz⟩, hfz⟩ := hbx8
      clear hdep
      go_wp2_with fail
      exact hK.out _ _ ⟨u0, u1, u2, .agg #[.int .i64 (wtOf W s)], u4, u5, u6, u7, .pointer (some ⟨g8, 0, none⟩), .pointer (some ⟨g9, 0, none⟩), g8, g9, by simp only [Act.put, List.setIfInBounds_toArray, List.set_cons_zero, List.set_cons_succ], hE'.set hlo _, fun h => (p0 (by simpa using h)), fun h => (p1 (by simpa using h)), fun h => (p2 (by simpa using h)), fun _ => rfl, fun h => (p4 (by simpa using h)), fun h => (p5 (by simpa using h)), fun h => (p6 (by simpa using h)), fun h => (p7 (by simpa using h)), fun _ => ⟨rfl, hbxx.set _ _⟩, fun _ => ⟨rfl, hbx9.set _ _⟩, fun _ _ => hne, fun _ => ⟨by simpa using hd8, World.cell?_setCell_same _ _ _ hcz⟩, fun h => ⟨by simpa using hd9, (World.cell?_setCell_other _ _ _ _ (by first | (simp; done) | (simp; omega))).trans (p11 (by simpa using h)).2⟩⟩
    · refine StepInv.fresh rfl fun S a w' K hdep hI hK0 hSi => ?_
      obtain ⟨u0, u1, u2, u3, u4, u5, u6, u7, u8, u9, g8, g9, ha, hE', p0, p1, p2, p3, p4, p5, p6, p7, p8, p9, p89, p10, p11⟩ := hI
      simp only [Act.put, List.setIfInBounds_toArray, List.set_cons_zero, List.set_cons_succ] at ha
      subst ha
      have hK := Lib.hid hK0; clear hK0
      obtain rfl := p7 (hdep ⟨7, Ground.data⟩ (by simp) rfl)
      obtain ⟨rfl, hbx9⟩ := p9 (hdep ⟨9, Ground.data⟩ (by simp) rfl)
      have hd9 := hdep ⟨9, Ground.data⟩ (by simp) rfl
      have hd8 := hdep ⟨8, Ground.phase⟩ (by simp) rfl
      have hne := p89 hd8 hd9
      obtain ⟨rfl, hbx8⟩ := p8 hd8
      have hbxx := hbx9
      obtain ⟨hlo, hhi, ⟨vz, hcz⟩, hfz⟩ := hbx9
      clear hdep
      go_wp2_with fail
      exact hK.out _ _ ⟨u0, u1, u2, u3, u4, u5, u6, .agg #[.int .i64 (wtOf W t)], .pointer (some ⟨g8, 0, none⟩), .pointer (some ⟨g9, 0, none⟩), g8, g9, by simp only [Act.put, List.setIfInBounds_toArray, List.set_cons_zero, List.set_cons_succ], hE'.set hlo _, fun h => (p0 (by simpa using h)), fun h => (p1 (by simpa using h)), fun h => (p2 (by simpa using h)), fun h => (p3 (by simpa using h)), fun h => (p4 (by simpa using h)), fun h => (p5 (by simpa using h)), fun h => (p6 (by simpa using h)), fun _ => rfl, fun _ => ⟨rfl, hbx8.set _ _⟩, fun _ => ⟨rfl, hbxx.set _ _⟩, fun _ _ => hne, fun h => ⟨by simpa using hd8, (World.cell?_setCell_other _ _ _ _ (by first | (simp; done) | (simp; omega))).trans (p10 (by simpa using h)).2⟩, fun _ => ⟨by simpa using hd9, World.cell?_setCell_same _ _ _ hcz⟩⟩
  intro S a w3 hS hI
  obtain ⟨u0, u1, u2, u3, u4, u5, u6, u7, u8, u9, g8, g9, ha, hE3, p0, p1, p2, p3, p4, p5, p6, p7, p8, p9, p89, p10, p11⟩ := hI
  simp only [Act.put, List.setIfInBounds_toArray, List.set_cons_zero, List.set_cons_succ] at ha
  subst ha
  obtain rfl := p0 (hS 0 (by decide))
  obtain rfl := p1 (hS 1 (by decide))
  obtain rfl := p2 (hS 2 (by decide))
  obtain rfl := p3 (hS 3 (by decide))
  obtain rfl := p4 (hS 4 (by decide))
  obtain rfl := p5 (hS 5 (by decide))
  obtain rfl := p6 (hS 6 (by decide))
  obtain rfl := p7 (hS 7 (by decide))
  obtain ⟨rfl, hb8⟩ := p8 (hS 8 (by decide))
  obtain ⟨rfl, hb9⟩ := p9 (hS 9 (by decide))
  have hc8 := (p10 (hS 10 (by decide))).2
  have hc9 := (p11 (hS 11 (by decide))).2
  have hlt8 := hb8.lt; have hlt9 := hb9.lt
  clear hS p89 p10 p11 hb8 hb9
  have hy0 : w3.cell? ⟨w.heap.size, 0, none⟩ = some (.int .i64 W.var) := Ext.keep hE3 hw0
  have hy1 : w3.cell? ⟨w.heap.size, 1, none⟩ = some (.slice SA n c) := Ext.keep hE3 hw1
  have hy2 : w3.cell? ⟨w.heap.size, 2, none⟩ = some (.slice R n d) := Ext.keep hE3 hw2
  have hy3 : w3.cell? ⟨w.heap.size + 1, 0, none⟩ = some (.slice A n l) := Ext.keep hE3 hw3
  have hEw3 : Ext w w3 := Ext.trans hEo hE3
  have hcx3 : w3.cell? ⟨bx, ox, none⟩ = some (.int .i64 x) := Ext.keep hEw3 hcx
  have hcy3 : w3.cell? ⟨by', oy, none⟩ = some (.int .i64 y) := Ext.keep hEw3 hcy
  clear hw0 hw1 hw2 hw3 hcx hcy hE3
  by_cases hab : wtOf W s < wtOf W t
  · have HN := Lib.hid (HK2.out.trans (if_pos hab))
    go_wp2
    go_ret
    exact ⟨ret_int HN.out.symm, by exact extX⟩
  have HK3 := Lib.hid (HK2.out.trans (if_neg hab))
  by_cases hba : wtOf W t < wtOf W s
  · have HN := Lib.hid (HK3.out.trans (if_pos (.inl hba)))
    have hne : (wtOf W s != wtOf W t) = true := by simp; omega
    go_wp2
    go_ret
    exact ⟨ret_int HN.out.symm, by exact extX⟩
  have hwe : wtOf W s = wtOf W t := by omega
  have hne : (wtOf W s != wtOf W t) = false := by simp [hwe]
  by_cases hy : y < 0
  · have HN := Lib.hid (HK3.out.trans (if_pos (.inr hy)))
    go_wp2
    go_ret
    exact ⟨ret_int HN.out.symm, by exact extX⟩
  have HK4 := Lib.hid (HK3.out.trans (if_neg (fun h => h.elim hba hy)))
  by_cases hx : x < 0
  · have HK5 := Lib.hid (HK4.out.trans (if_pos hx))
    clear HK2 HK3 HK4
    go_wp2_with fail
    go_still_tail 6, (by kernel_rfl)
    change wpList _ _ _ _ _ w3.drew
    have hE4 : Ext w w3.drew := hEw3.drew
    cases hwr : wraps ar W x t with
    | true =>
      have HN := Lib.hid (HK5.out.trans (if_pos hwr))
      go_wp2_with (go_at_call 126; (with_reducible refine (c_wraps (ar := ar) (W := W) (v := x) (t := t) (RdWt.ext HW.out hE4) (RdSig.mk (RI.ext HB.out hE4)) (RdIc.mk HMF'.out (RI.ext HD'.out hE4)) (by rw [HTLEN.out]; omega) HLT.out HLS.out).mono ?_); rintro e w5 ⟨rfl, hE5⟩)
      go_ret
      exact ⟨ret_int HN.out.symm, by exact extX⟩
    | false =>
      have HN := Lib.hid (HK5.out.trans (if_neg (by rw [hwr]; decide)))
      go_wp2_with (go_at_call 126; (with_reducible refine (c_wraps (ar := ar) (W := W) (v := x) (t := t) (RdWt.ext HW.out hE4) (RdSig.mk (RI.ext HB.out hE4)) (RdIc.mk HMF'.out (RI.ext HD'.out hE4)) (by rw [HTLEN.out]; omega) HLT.out HLS.out).mono ?_); rintro e w5 ⟨rfl, hE5⟩)
      go_ret
      exact ⟨ret_int HN.out.symm, by exact extX⟩
  have HK5 := Lib.hid (HK4.out.trans (if_neg hx))
  obtain ⟨x0, rfl⟩ := Int.eq_ofNat_of_zero_le (show 0 ≤ x by omega)
  obtain ⟨y0, rfl⟩ := Int.eq_ofNat_of_zero_le (show 0 ≤ y by omega)
  obtain ⟨b3, o3, rx, e3, hrx, hcrx⟩ := RI.at_ (RI.ext HR.out hEw3) (show x0 < n by omega)
  obtain ⟨b4, o4, ry, e4, hry, hcry⟩ := RI.at_ (RI.ext HR.out hEw3) (show y0 < n by omega)
  subst e3
  cases e4
  have e5 : rk1 W (x0 : Int) = rx := rk1_at (by rw [Int.toNat_natCast]; exact hrx)
  have e6 : rk1 W (y0 : Int) = ry := rk1_at (by rw [Int.toNat_natCast]; exact hry)
  have HK6 := HK5.out
  rw [e5, e6] at HK6
  have HK6 := Lib.hid HK6
  clear HK2 HK3 HK4 HK5 e5 e6 hrx hry
  by_cases hrk : rx < ry
  · have HN := Lib.hid (HK6.out.trans (if_pos hrk))
    have hrd : decide (rx < ry) = true := by simpa using hrk
    go_wp2_with fail
    go_quiet (fail)
    go_wp2
    go_ret
    exact ⟨ret_int HN.out.symm, by exact extX⟩
  have HK7 := Lib.hid (HK6.out.trans (if_neg hrk))
  have hrd : decide (rx < ry) = false := by simpa using hrk
  clear HK6
  go_wp2_with fail
  go_quiet (fail)
  have hEq : Ext w3 (w3.drewN nq) := (Ext.refl w3).drewN _
  obtain ⟨wq, hwq⟩ : ∃ wq, wq = w3.drewN nq := ⟨_, rfl⟩
  rw [← hwq] at hEq ⊢
  clear hwq
  have hz0 := Ext.keep hEq hy0
  have hz1 := Ext.keep hEq hy1
  have hz2 := Ext.keep hEq hy2
  have hz3 := Ext.keep hEq hy3
  have hz4 := Ext.keep hEq hcx3
  have hz5 := Ext.keep hEq hcy3
  have hEwq : Ext w wq := Ext.trans hEw3 hEq
  go_wp2_with fail
  by_cases hxy : x0 = y0
  · subst hxy
    cases hkl : kboL ar W us ts with
    | true =>
      have HN := Lib.hid (HK7.out.trans (if_pos ⟨rfl, hkl⟩))
      refine wp_region_held_drew (S := (fun w' => w'.cell? ⟨w.heap.size, 0, none⟩ = some (.int .i64 W.var) ∧ w'.cell? ⟨w.heap.size, 1, none⟩ = some (.slice SA n c) ∧ w'.cell? ⟨w.heap.size, 2, none⟩ = some (.slice (some ⟨b3, o3, none⟩) n d) ∧ w'.cell? ⟨w.heap.size + 1, 0, none⟩ = some (.slice A n l) ∧ w'.cell? ⟨bx, ox, none⟩ = some (.int .i64 (x0 : Int)) ∧ w'.cell? ⟨by', oy, none⟩ = some (.int .i64 (x0 : Int)) ∧ Ext w w')) (by kernel_rfl) ?_ (fun hH => ?_)
      · exact ⟨hz0, hz1, hz2, hz3, hz4, hz5, hEwq.drew⟩
      refine wpAnyH_take_dst (i := 0) (v := .slice (some ⟨by', oy, none⟩) m' f') (d := some 68) rfl rfl (by kernel_rfl) (by kernel_rfl) (by kernel_rfl) (fun _ _ _ h => h) (Or.inl ⟨by rfl, ?_⟩) hH ?_
      · (intro w hSw; (try dsimp only at hSw); go_split_ands; go_simp; try with_reducible rfl)
      try simp only [Act.put, List.setIfInBounds_toArray, List.set_cons_zero, List.set_cons_succ]
      refine wpAnyH_take_dst (i := 1) (v := .pointer (some ⟨by', oy, none⟩)) (d := some 69) rfl rfl (by kernel_rfl) (by kernel_rfl) (by kernel_rfl) (fun _ _ _ h => h) (Or.inl ⟨by rfl, ?_⟩) hH ?_
      · (intro w hSw; (try dsimp only at hSw); go_split_ands; go_simp; try with_reducible rfl)
      try simp only [Act.put, List.setIfInBounds_toArray, List.set_cons_zero, List.set_cons_succ]
      refine wpAnyH_take_dst (i := 2) (v := .int .i64 (x0 : Int)) (d := some 70) rfl rfl (by kernel_rfl) (by kernel_rfl) (by kernel_rfl) (fun _ _ _ h => h) (Or.inl ⟨by rfl, ?_⟩) hH ?_
      · (intro w hSw; (try dsimp only at hSw); go_split_ands; go_simp; try with_reducible rfl)
      try simp only [Act.put, List.setIfInBounds_toArray, List.set_cons_zero, List.set_cons_succ]
      refine wpAnyH_take_dst (i := 3) (v := .slice (some ⟨bx, ox, none⟩) m f) (d := some 71) rfl rfl (by kernel_rfl) (by kernel_rfl) (by kernel_rfl) (fun _ _ _ h => h) (Or.inl ⟨by rfl, ?_⟩) hH ?_
      · (intro w hSw; (try dsimp only at hSw); go_split_ands; go_simp; try with_reducible rfl)
      try simp only [Act.put, List.setIfInBounds_toArray, List.set_cons_zero, List.set_cons_succ]
      refine wpAnyH_take_dst (i := 4) (v := .pointer (some ⟨bx, ox, none⟩)) (d := some 72) rfl rfl (by kernel_rfl) (by kernel_rfl) (by kernel_rfl) (fun _ _ _ h => h) (Or.inl ⟨by rfl, ?_⟩) hH ?_
      · (intro w hSw; (try dsimp only at hSw); go_split_ands; go_simp; try with_reducible rfl)
      try simp only [Act.put, List.setIfInBounds_toArray, List.set_cons_zero, List.set_cons_succ]
      refine wpAnyH_take_dst (i := 5) (v := .int .i64 (x0 : Int)) (d := some 73) rfl rfl (by kernel_rfl) (by kernel_rfl) (by kernel_rfl) (fun _ _ _ h => h) (Or.inl ⟨by rfl, ?_⟩) hH ?_
      · (intro w hSw; (try dsimp only at hSw); go_split_ands; go_simp; try with_reducible rfl)
      try simp only [Act.put, List.setIfInBounds_toArray, List.set_cons_zero, List.set_cons_succ]
      refine wpAnyH_take_dst (i := 6) (v := .bool true) (d := some 74) rfl rfl (by kernel_rfl) (by kernel_rfl) (by kernel_rfl) (fun _ _ _ h => h) (Or.inl ⟨by rfl, ?_⟩) hH ?_
      · (intro w hSw; (try dsimp only at hSw); go_split_ands; go_simp; try with_reducible rfl)
      try simp only [Act.put, List.setIfInBounds_toArray, List.set_cons_zero, List.set_cons_succ]
      refine wpAnyH_take_dst (i := 7) (v := .bool true) (d := some 75) rfl rfl (by kernel_rfl) (by kernel_rfl) (by kernel_rfl) (fun _ _ _ h => h) (Or.inl ⟨by rfl, ?_⟩) hH ?_
      · (intro w hSw; (try dsimp only at hSw); go_split_ands; go_simp; try with_reducible rfl)
      try simp only [Act.put, List.setIfInBounds_toArray, List.set_cons_zero, List.set_cons_succ]
      refine wpAnyH_take_dst (i := 8) (v := .agg #[.int .i64 W.var, .slice SA n c, .slice (some ⟨b3, o3, none⟩) n d]) (d := some 76) rfl rfl (by kernel_rfl) (by kernel_rfl) (by kernel_rfl) (fun _ _ _ h => h) (Or.inl ⟨by rfl, ?_⟩) hH ?_
      · (intro w hSw; (try dsimp only at hSw); go_split_ands; go_simp; try with_reducible rfl)
      try simp only [Act.put, List.setIfInBounds_toArray, List.set_cons_zero, List.set_cons_succ]
      refine wpAnyH_take_dst (i := 9) (v := .agg #[.slice A n l]) (d := some 77) rfl rfl (by kernel_rfl) (by kernel_rfl) (by kernel_rfl) (fun _ _ _ h => h) (Or.inl ⟨by rfl, ?_⟩) hH ?_
      · (intro w hSw; (try dsimp only at hSw); go_split_ands; go_simp; try with_reducible rfl)
      try simp only [Act.put, List.setIfInBounds_toArray, List.set_cons_zero, List.set_cons_succ]
      refine wpAnyH_take_dst (i := 10) (v := .slice (some ⟨bx, ox, none⟩) m f) (d := some 78) rfl rfl (by kernel_rfl) (by kernel_rfl) (by kernel_rfl) (fun _ _ _ h => h) (Or.inl ⟨by rfl, ?_⟩) hH ?_
      · (intro w hSw; (try dsimp only at hSw); go_split_ands; go_simp; try with_reducible rfl)
      try simp only [Act.put, List.setIfInBounds_toArray, List.set_cons_zero, List.set_cons_succ]
      refine wpAnyH_take_dst (i := 11) (v := .slice (some ⟨by', oy, none⟩) m' f') (d := some 79) rfl rfl (by kernel_rfl) (by kernel_rfl) (by kernel_rfl) (fun _ _ _ h => h) (Or.inl ⟨by rfl, ?_⟩) hH ?_
      · (intro w hSw; (try dsimp only at hSw); go_split_ands; go_simp; try with_reducible rfl)
      try simp only [Act.put, List.setIfInBounds_toArray, List.set_cons_zero, List.set_cons_succ]
      refine wpAnyH_ready (rs := [12]) (by kernel_rfl) (by simp) ?_
      refine AllReadyH.cons rfl (fun K hK => ?_) AllReadyH.nil
      rw [if_pos (by rfl)]
      go_wp2_with (go_at_call 127; (with_reducible refine ((c_firstGreater' hkl (RdWt.ext HW.out hH.2.2.2.2.2.2) (RdSig.mk (RI.ext HB.out hH.2.2.2.2.2.2)) (RdIc.mk HMF.out (by rw [← HST.out]; exact RI.ext HD.out hH.2.2.2.2.2.2)) (RdIc.mk HMF'.out (by rw [← HTT.out]; exact RI.ext HD'.out hH.2.2.2.2.2.2)) HS.out HU.out HV.out (ok_len HU.out HV.out) HI.out)).mono ?_); rintro e w5 ⟨rfl, hE9⟩)
      refine hK.out _ _ ⟨Ext.keep hE9 hH.1, Ext.keep hE9 hH.2.1, Ext.keep hE9 hH.2.2.1, Ext.keep hE9 hH.2.2.2.1, Ext.keep hE9 hH.2.2.2.2.1, Ext.keep hE9 hH.2.2.2.2.2.1, Ext.trans hH.2.2.2.2.2.2 hE9⟩ (fun hH9 => ?_)
      clear hK hH; have hH := hH9; clear hH9
      try simp only [Act.put, List.setIfInBounds_toArray, List.set_cons_zero, List.set_cons_succ]
      refine wpAnyH_take_dst (i := 13) (v := .bool true) (d := some 81) rfl rfl (by kernel_rfl) (by kernel_rfl) (by kernel_rfl) (fun _ _ _ h => h) (Or.inl ⟨by rfl, ?_⟩) hH ?_
      · (intro w hSw; (try dsimp only at hSw); go_split_ands; go_simp; try with_reducible rfl)
      try simp only [Act.put, List.setIfInBounds_toArray, List.set_cons_zero, List.set_cons_succ]
      refine wpAnyH_take_dst (i := 14) (v := .bool true) (d := some 67) rfl rfl (by kernel_rfl) (by kernel_rfl) (by kernel_rfl) (fun _ _ _ h => h) (Or.inl ⟨by rfl, ?_⟩) hH ?_
      · (intro w hSw; (try dsimp only at hSw); go_split_ands; go_simp; try with_reducible rfl)
      try simp only [Act.put, List.setIfInBounds_toArray, List.set_cons_zero, List.set_cons_succ]
      refine wpAnyH_done (by kernel_rfl) ?_ _
      obtain ⟨_, _, _, _, _, _, hE8⟩ := hH
      go_wp2
      go_ret
      exact ⟨ret_int HN.out.symm, hE8⟩
    | false =>
      have HN := Lib.hid (HK7.out.trans (if_neg (by rw [hkl]; rintro ⟨_, h⟩; cases h)))
      refine wp_region_held_drew (S := (fun w' => w'.cell? ⟨w.heap.size, 0, none⟩ = some (.int .i64 W.var) ∧ w'.cell? ⟨w.heap.size, 1, none⟩ = some (.slice SA n c) ∧ w'.cell? ⟨w.heap.size, 2, none⟩ = some (.slice (some ⟨b3, o3, none⟩) n d) ∧ w'.cell? ⟨w.heap.size + 1, 0, none⟩ = some (.slice A n l) ∧ w'.cell? ⟨bx, ox, none⟩ = some (.int .i64 (x0 : Int)) ∧ w'.cell? ⟨by', oy, none⟩ = some (.int .i64 (x0 : Int)) ∧ Ext w w')) (by kernel_rfl) ?_ (fun hH => ?_)
      · exact ⟨hz0, hz1, hz2, hz3, hz4, hz5, hEwq.drew⟩
      refine wpAnyH_take_dst (i := 0) (v := .slice (some ⟨by', oy, none⟩) m' f') (d := some 68) rfl rfl (by kernel_rfl) (by kernel_rfl) (by kernel_rfl) (fun _ _ _ h => h) (Or.inl ⟨by rfl, ?_⟩) hH ?_
      · (intro w hSw; (try dsimp only at hSw); go_split_ands; go_simp; try with_reducible rfl)
      try simp only [Act.put, List.setIfInBounds_toArray, List.set_cons_zero, List.set_cons_succ]
      refine wpAnyH_take_dst (i := 1) (v := .pointer (some ⟨by', oy, none⟩)) (d := some 69) rfl rfl (by kernel_rfl) (by kernel_rfl) (by kernel_rfl) (fun _ _ _ h => h) (Or.inl ⟨by rfl, ?_⟩) hH ?_
      · (intro w hSw; (try dsimp only at hSw); go_split_ands; go_simp; try with_reducible rfl)
      try simp only [Act.put, List.setIfInBounds_toArray, List.set_cons_zero, List.set_cons_succ]
      refine wpAnyH_take_dst (i := 2) (v := .int .i64 (x0 : Int)) (d := some 70) rfl rfl (by kernel_rfl) (by kernel_rfl) (by kernel_rfl) (fun _ _ _ h => h) (Or.inl ⟨by rfl, ?_⟩) hH ?_
      · (intro w hSw; (try dsimp only at hSw); go_split_ands; go_simp; try with_reducible rfl)
      try simp only [Act.put, List.setIfInBounds_toArray, List.set_cons_zero, List.set_cons_succ]
      refine wpAnyH_take_dst (i := 3) (v := .slice (some ⟨bx, ox, none⟩) m f) (d := some 71) rfl rfl (by kernel_rfl) (by kernel_rfl) (by kernel_rfl) (fun _ _ _ h => h) (Or.inl ⟨by rfl, ?_⟩) hH ?_
      · (intro w hSw; (try dsimp only at hSw); go_split_ands; go_simp; try with_reducible rfl)
      try simp only [Act.put, List.setIfInBounds_toArray, List.set_cons_zero, List.set_cons_succ]
      refine wpAnyH_take_dst (i := 4) (v := .pointer (some ⟨bx, ox, none⟩)) (d := some 72) rfl rfl (by kernel_rfl) (by kernel_rfl) (by kernel_rfl) (fun _ _ _ h => h) (Or.inl ⟨by rfl, ?_⟩) hH ?_
      · (intro w hSw; (try dsimp only at hSw); go_split_ands; go_simp; try with_reducible rfl)
      try simp only [Act.put, List.setIfInBounds_toArray, List.set_cons_zero, List.set_cons_succ]
      refine wpAnyH_take_dst (i := 5) (v := .int .i64 (x0 : Int)) (d := some 73) rfl rfl (by kernel_rfl) (by kernel_rfl) (by kernel_rfl) (fun _ _ _ h => h) (Or.inl ⟨by rfl, ?_⟩) hH ?_
      · (intro w hSw; (try dsimp only at hSw); go_split_ands; go_simp; try with_reducible rfl)
      try simp only [Act.put, List.setIfInBounds_toArray, List.set_cons_zero, List.set_cons_succ]
      refine wpAnyH_take_dst (i := 6) (v := .bool true) (d := some 74) rfl rfl (by kernel_rfl) (by kernel_rfl) (by kernel_rfl) (fun _ _ _ h => h) (Or.inl ⟨by rfl, ?_⟩) hH ?_
      · (intro w hSw; (try dsimp only at hSw); go_split_ands; go_simp; try with_reducible rfl)
      try simp only [Act.put, List.setIfInBounds_toArray, List.set_cons_zero, List.set_cons_succ]
      refine wpAnyH_take_dst (i := 7) (v := .bool true) (d := some 75) rfl rfl (by kernel_rfl) (by kernel_rfl) (by kernel_rfl) (fun _ _ _ h => h) (Or.inl ⟨by rfl, ?_⟩) hH ?_
      · (intro w hSw; (try dsimp only at hSw); go_split_ands; go_simp; try with_reducible rfl)
      try simp only [Act.put, List.setIfInBounds_toArray, List.set_cons_zero, List.set_cons_succ]
      refine wpAnyH_take_dst (i := 8) (v := .agg #[.int .i64 W.var, .slice SA n c, .slice (some ⟨b3, o3, none⟩) n d]) (d := some 76) rfl rfl (by kernel_rfl) (by kernel_rfl) (by kernel_rfl) (fun _ _ _ h => h) (Or.inl ⟨by rfl, ?_⟩) hH ?_
      · (intro w hSw; (try dsimp only at hSw); go_split_ands; go_simp; try with_reducible rfl)
      try simp only [Act.put, List.setIfInBounds_toArray, List.set_cons_zero, List.set_cons_succ]
      refine wpAnyH_take_dst (i := 9) (v := .agg #[.slice A n l]) (d := some 77) rfl rfl (by kernel_rfl) (by kernel_rfl) (by kernel_rfl) (fun _ _ _ h => h) (Or.inl ⟨by rfl, ?_⟩) hH ?_
      · (intro w hSw; (try dsimp only at hSw); go_split_ands; go_simp; try with_reducible rfl)
      try simp only [Act.put, List.setIfInBounds_toArray, List.set_cons_zero, List.set_cons_succ]
      refine wpAnyH_take_dst (i := 10) (v := .slice (some ⟨bx, ox, none⟩) m f) (d := some 78) rfl rfl (by kernel_rfl) (by kernel_rfl) (by kernel_rfl) (fun _ _ _ h => h) (Or.inl ⟨by rfl, ?_⟩) hH ?_
      · (intro w hSw; (try dsimp only at hSw); go_split_ands; go_simp; try with_reducible rfl)
      try simp only [Act.put, List.setIfInBounds_toArray, List.set_cons_zero, List.set_cons_succ]
      refine wpAnyH_take_dst (i := 11) (v := .slice (some ⟨by', oy, none⟩) m' f') (d := some 79) rfl rfl (by kernel_rfl) (by kernel_rfl) (by kernel_rfl) (fun _ _ _ h => h) (Or.inl ⟨by rfl, ?_⟩) hH ?_
      · (intro w hSw; (try dsimp only at hSw); go_split_ands; go_simp; try with_reducible rfl)
      try simp only [Act.put, List.setIfInBounds_toArray, List.set_cons_zero, List.set_cons_succ]
      refine wpAnyH_ready (rs := [12]) (by kernel_rfl) (by simp) ?_
      refine AllReadyH.cons rfl (fun K hK => ?_) AllReadyH.nil
      rw [if_pos (by rfl)]
      go_wp2_with (go_at_call 127; (with_reducible refine ((c_firstGreater' hkl (RdWt.ext HW.out hH.2.2.2.2.2.2) (RdSig.mk (RI.ext HB.out hH.2.2.2.2.2.2)) (RdIc.mk HMF.out (by rw [← HST.out]; exact RI.ext HD.out hH.2.2.2.2.2.2)) (RdIc.mk HMF'.out (by rw [← HTT.out]; exact RI.ext HD'.out hH.2.2.2.2.2.2)) HS.out HU.out HV.out (ok_len HU.out HV.out) HI.out)).mono ?_); rintro e w5 ⟨rfl, hE9⟩)
      refine hK.out _ _ ⟨Ext.keep hE9 hH.1, Ext.keep hE9 hH.2.1, Ext.keep hE9 hH.2.2.1, Ext.keep hE9 hH.2.2.2.1, Ext.keep hE9 hH.2.2.2.2.1, Ext.keep hE9 hH.2.2.2.2.2.1, Ext.trans hH.2.2.2.2.2.2 hE9⟩ (fun hH9 => ?_)
      clear hK hH; have hH := hH9; clear hH9
      try simp only [Act.put, List.setIfInBounds_toArray, List.set_cons_zero, List.set_cons_succ]
      refine wpAnyH_take_dst (i := 13) (v := .bool false) (d := some 81) rfl rfl (by kernel_rfl) (by kernel_rfl) (by kernel_rfl) (fun _ _ _ h => h) (Or.inl ⟨by rfl, ?_⟩) hH ?_
      · (intro w hSw; (try dsimp only at hSw); go_split_ands; go_simp; try with_reducible rfl)
      try simp only [Act.put, List.setIfInBounds_toArray, List.set_cons_zero, List.set_cons_succ]
      refine wpAnyH_take_dst (i := 14) (v := .bool false) (d := some 67) rfl rfl (by kernel_rfl) (by kernel_rfl) (by kernel_rfl) (fun _ _ _ h => h) (Or.inl ⟨by rfl, ?_⟩) hH ?_
      · (intro w hSw; (try dsimp only at hSw); go_split_ands; go_simp; try with_reducible rfl)
      try simp only [Act.put, List.setIfInBounds_toArray, List.set_cons_zero, List.set_cons_succ]
      refine wpAnyH_done (by kernel_rfl) ?_ _
      obtain ⟨_, _, _, _, _, _, hE8⟩ := hH
      go_wp2
      go_ret
      exact ⟨ret_int HN.out.symm, hE8⟩
  · have hbe : ((y0 : Int) == (x0 : Int)) = false := by simp; omega
    have HN := Lib.hid (HK7.out.trans (if_neg (by rintro ⟨h, _⟩; omega)))
    go_quiet (fail)
    go_wp2
    go_ret
    exact ⟨ret_int HN.out.symm, by exact extX⟩

end Go.Proofs.Ytjmdfjinicbkeaa
