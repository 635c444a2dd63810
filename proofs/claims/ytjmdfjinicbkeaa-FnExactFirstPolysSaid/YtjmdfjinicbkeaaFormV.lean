/- Forms, by the reference: the form of a term. -/
import Derived.Test.YtjmdfjinicbkeaaFormU
-- rd: RdPl RdPs
namespace Go.Proofs.Ytjmdfjinicbkeaa
open Go.RowKit
set_option linter.unusedSimpArgs false
set_option linter.unusedVariables false

theorem flatL_mem_le {a : Tm} : ∀ {us : List Tm}, a ∈ us → a.flat.length ≤ (flatL us).length
  | b :: us, h => by
    rw [flatL_cons, List.length_append]
    rcases List.mem_cons.1 h with rfl | h
    · omega
    · have := flatL_mem_le h; omega
theorem flat_mem_lt {a : Tm} {x : Int} {us : List Tm} (h : a ∈ us) : a.flat.length < (Tm.node x us).flat.length := by
  have := flatL_mem_le h
  rw [flat_node, List.length_cons]; omega
theorem c_l15Sum' {v0 v1 v2 : Value} {ar : List Int} {ps : List Pl} {q : Pl} {us : List Tm} {A : Option Addr} {n c : Nat} {w : World} {oo : Option Pl} (ho : oo = (formL ps us).bind fun fs => appP q fs) (h0 : RdSig w v0 ar) (h1 : RdPs w v1 ps) (h2 : RdPl w v2 q) (h3 : RS w A n (us.map Tm.flat)) (hn : n = us.length)
    (hq : (0 ≤ q.c ∧ q.c ≤ 9) ∧ ∀ y ∈ q.cf, 0 ≤ y ∧ y ≤ 9) (hql : q.cf.length = us.length) (hu3 : us.length ≤ 3) (hfm : ∀ a ∈ us, ∀ f, form ps a = some f → Fm f) (ih : ∀ a ∈ us, FormV ar ps a (form ps a)) :
    Calls Try.prog 169 #[v0, v1, v2, .slice A n c] w (NewF w oo) := by
  rw [ho]; exact c_l15Sum h0 h1 h2 h3 hn hq hql hu3 hfm ih
set_option maxRecDepth 100000 in
set_option maxHeartbeats 4000000 in
theorem c_l15FormN {ar : List Int} {ps : List Pl} (hs : SigP ar) (h0s : PsAt ar ps 0) (hall : ∀ p ∈ ps, (0 ≤ p.c ∧ p.c ≤ 9) ∧ ∀ x ∈ p.cf, 0 ≤ x ∧ x ≤ 9) :
    ∀ (N : Nat) (u : Tm), u.flat.length ≤ N → u.Ok ar → (∀ y ∈ u.flat, -24 ≤ y) → FormV ar ps u (form ps u)
  | 0, u, hN, _, _ => absurd (flat_pos u) (by omega)
  | N + 1, .node x us, hN, hu, hv => by
    intro v0 v1 v2 w h0 h1 h2
    have HIH := Lib.hid (c_l15FormN hs h0s hall N)
    obtain ⟨A, n, c, rfl, ha⟩ := h0
    obtain ⟨B, m, d, rfl, hb⟩ := h1
    obtain ⟨D, l, e, rfl, hcap, hdd⟩ := h2
    have hll := hdd.len
    have hpos := flat_pos (Tm.node x us)
    have hxp : (Tm.node x us).flat[0]? = some x := by rw [flat_node]; rfl
    obtain ⟨bt, ot, y, rfl, hy, hcy⟩ := RI.at_ hdd (show 0 < l by omega)
    rw [hxp] at hy; cases hy
    rw [Nat.add_zero] at hcy
    have hbt : bt < w.heap.size := World.block_lt_of_cell? w _ hcy
    have hpl : (0 : Int) < (l : Int) := by omega
    have hl0 : l ≠ 0 := by omega
    have hl1 : 0 < l := by omega
    have HA := Lib.hid ha
    have HB := Lib.hid hb
    have HD := Lib.hid hdd
    have HCAP := Lib.hid hcap
    have HS := Lib.hid hs
    have HU := Lib.hid hu
    have HPS := Lib.hid h0s
    have HALL := Lib.hid hall
    by_cases hx : x < 0
    · have hx24 : -24 ≤ x := hv x (by rw [flat_node]; exact List.mem_cons_self)
      have HR := Lib.hid (show form ps (.node x us) = some (varPl x) by rw [form_node, if_pos hx])
      clear ha hb hdd hs hu hall h0s hv hxp hN HIH hcap
      obtain ⟨k, rfl⟩ : ∃ k : Nat, x = -((k : Int) + 1) := ⟨(-x - 1).toNat, by omega⟩
      obtain ⟨i0, hi0, hz0, hz1, hz2⟩ := info_parts int64_info
      have hneg : IntKind.i64.wrap (-(-((k : Int) + 1))) = (k : Int) + 1 := by rw [Int.neg_neg]; exact IntWalk.i64_in _ (by omega)
      go_enter Try.func146, Try.ntmps146
      go_wp2_with (at_make; refine wpList_make_full _ rfl _ _ 22 rfl (w.heap.size + 1 + 1) 2 i0 _ 1 Try.underlying22 hi0 hz0 hz1 _ _ _ _ (k + 1) rfl rfl rfl rfl (by rw [hz2]; omega) (by simp only [maxLen]; omega) (by go_size) ?_)
      intro w1 hown0 hg
      rw [madeInts] at hown0
      have hown := OwI.made hown0 (by omega)
      have hE : Ext ((w.alloc (.cells #[.slice A n c] 31)).alloc (.cells #[.int .i64 0, .slice none 0 0] 90)) w1 := Ext.grown (Ext.refl _) hg (fun k hk => by cases hk)
      have hEw : Ext w w1 := Ext.trans (by exact extX) hE
      have hb := (hown.bd _ _ _ rfl).2
      obtain ⟨k0, k1, kf⟩ := box_ext hE (q := w.heap.size + 1) (u := .int .i64 0) (v := .slice none 0 0) (by simp [go_sem]) (by simp [go_sem]) (by intro j; simp [go_sem])
      have hcy1 := Ext.keep hEw hcy
      have HO := Lib.hid hown
      have HX := Lib.hid (show (List.replicate (k + 1) (0 : Int)).set k 1 = (varPl (-((k : Int) + 1))).cf from by
        rw [List.replicate_succ', List.set_append_right _ _ (by simp)]
        simp only [List.length_replicate, Nat.sub_self, List.set_cons_zero, varPl]
        rw [show (-(-((k : Int) + 1))).toNat - 1 = k by omega])
      clear hown hown0 hg
      go_wp2_with fail
      obtain ⟨w2, hw2⟩ : ∃ w2, w2 = w1.alloc (.cells #[.int .i64 0, .slice (some ⟨w.heap.size + 1 + 1, 0, none⟩) (k + 1) (k + 1)] 90) := ⟨_, rfl⟩
      have hE2 : Ext w1 w2 := by rw [hw2]; exact (Ext.refl _).alloc _
      have hg0 : w2.cell? ⟨w1.heap.size, 0, none⟩ = some (.int .i64 0) := by rw [hw2]; simp [go_sem]
      have hg1 : w2.cell? ⟨w1.heap.size, 1, none⟩ = some (.slice (some ⟨w.heap.size + 1 + 1, 0, none⟩) (k + 1) (k + 1)) := by rw [hw2]; simp [go_sem]
      rw [← hw2]
      clear hw2
      have hO2 := HO.out.ext hE2
      obtain ⟨z, hz, hcz, hfz⟩ := OwI.at_ hO2 (k := k) (by omega)
      obtain ⟨m0, m1, mf⟩ := box_ext hE2 k0 k1 kf
      have hcy2 := Ext.keep hE2 hcy1
      have HO2 := Lib.hid hO2
      have hEw2 := Ext.trans hEw hE2
      have hsz2 : w1.heap.size < w2.heap.size := World.block_lt_of_cell? w2 _ hg0
      obtain ⟨k2, hk2⟩ : ∃ k2, k2 = k + 1 := ⟨_, rfl⟩
      rw [← hk2] at hg1
      have hkk : (k : Int) < (k2 : Int) := by omega
      have hk00 : (0 : Int) ≤ (k : Int) := by omega
      have hidx : IntKind.i64.wrap (-1 - -((k : Int) + 1)) = (k : Int) := by rw [show -1 - -((k : Int) + 1) = (k : Int) by omega]; exact IntWalk.i64_in _ (by omega)
      have hidx2 : -1 + ((k : Int) + 1) = (k : Int) := by omega
      have hne2 : ¬ (w.heap.size + 1 + 1 = w1.heap.size) := by omega
      have hne3 : ¬ (w1.heap.size = w.heap.size + 1 + 1) := by omega
      have HK2 := Lib.hid hk2
      clear hk2 hcy hcy1 k0 k1 kf hO2 hz hneg
      go_still_tail 6, (by kernel_rfl)
      change wpList _ _ _ _ _ w2.drew
      go_wp2_with fail
      refine bodyPost_ret (v := .tuple #[.agg #[.int .i64 (varPl (-((k : Int) + 1))).c, .slice (some ⟨w.heap.size + 1 + 1, 0, none⟩) k2 k2], .bool true]) (by simp [results, Try.results146, go_sem, m0, m1, mf, varPl]) rfl ?_
      rw [HR.out]
      refine ⟨some ⟨w.heap.size + 1 + 1, 0, none⟩, k2, k2, rfl, ?_, ?_⟩
      · have h1 := HO2.out.set k 1
        rw [HX.out] at h1
        rw [HK2.out]
        have h2 : OwI _ w.heap.size _ _ _ _ := h1.lower (B' := w.heap.size) (by omega)
        refine OwI.ext (OwI.setFar (OwI.setFar h2 _ (fun g o s e => ?_)) _ (fun g o s e => ?_)) (Ext.drew (Ext.refl _)) <;> (cases e; show w.heap.size + 1 + 1 ≠ w.heap.size + 1; omega)
      · exact extX
    · obtain ⟨x0, rfl⟩ := Int.eq_ofNat_of_zero_le (show 0 ≤ x by omega)
      obtain ⟨hok, hol⟩ := Ok_node.1 hu
      obtain ⟨q, hq, hql, hqc, hqcf⟩ := h0s x0 us.length hok
      rw [Nat.add_zero] at hq
      have hal : us.length ≤ 3 := arI_le hs hok
      have hOL := OkL_iff.1 hol
      have HFM := Lib.hid (show ∀ a ∈ us, ∀ f, form ps a = some f → Fm f from fun a hm f hf =>
        form_fm (ar := ar) hall (fun y b hb => arI_le hs hb) a (hOL a hm) (fun y hy => hv y (by rw [flat_node]; exact List.mem_cons_of_mem _ (mem_flatL hy hm))) f hf)
      have HIA := Lib.hid (show ∀ a ∈ us, FormV ar ps a (form ps a) from fun a hm => HIH.out a (by
        have := flat_mem_lt (x := (x0 : Int)) hm; omega) (hOL a hm) (fun y hy => hv y (by rw [flat_node]; exact List.mem_cons_of_mem _ (mem_flatL hy hm))))
      have HR := Lib.hid (show form ps (.node (x0 : Int) us) = (formL ps us).bind fun fs => appP q fs by
        rw [form_node, if_neg hx, Int.toNat_natCast, List.getD_eq_getElem?_getD, hq]; rfl)
      have HQB := Lib.hid (And.intro hqc hqcf)
      have HQL := Lib.hid hql
      have hml : x0 < m := by have := (List.getElem?_eq_some_iff.1 hq).1; rw [hb.len] at this; exact this
      obtain ⟨b4, o4, q', A4, m4, c4, rfl, hq', hd1, hd2, hri4⟩ := RP.at_ hb hml
      rw [hq] at hq'; cases hq'
      have HR4 := Lib.hid hri4
      obtain ⟨oo, hoo⟩ : ∃ oo, oo = (formL ps us).bind fun fs => appP q fs := ⟨_, rfl⟩
      have HOO := Lib.hid hoo
      have hmi : (x0 : Int) < (m : Int) := by omega
      have hx0i : (0 : Int) ≤ (x0 : Int) := by omega
      clear ha hb hdd hs hu hall h0s hv hxp hN HIH hcap hok hol hq hql hqc hqcf hOL hri4 hoo
      go_enter Try.func146, Try.ntmps146
      go_wp2_with fail
      obtain ⟨w1, hw1⟩ : ∃ w1, w1 = (w.alloc (.cells #[.slice A n c] 31)).alloc (.cells #[.int .i64 0, .slice none 0 0] 90) := ⟨_, rfl⟩
      have hs0 : w1.cell? ⟨w.heap.size, 0, none⟩ = some (.slice A n c) := by rw [hw1]; simp [go_sem]
      have hs2 : w1.cell? ⟨w.heap.size + 1, 0, none⟩ = some (.int .i64 0) := by rw [hw1]; simp [go_sem]
      have hs3 : w1.cell? ⟨w.heap.size + 1, 1, none⟩ = some (.slice none 0 0) := by rw [hw1]; simp [go_sem]
      have hs4 : ∀ o, w1.frozen? ⟨w.heap.size + 1, o, none⟩ = false := by intro o; rw [hw1]; simp [go_sem]
      have hE1 : Ext w w1 := by rw [hw1]; exact extX
      have hsz : w.heap.size + 1 < w1.heap.size := by rw [hw1]; simp [go_sem]
      rw [← hw1]
      clear hw1
      refine wp_only (R := fun (a0 : Act) (a8 : Act) (w9 : World) => ∃ (A5 : Option Addr) (c5 : Nat) (A6 : Option Addr) (n6 : Nat) (c6 : Nat), a8 = (((((((((((((((a0.put (some 27) (.agg #[.slice A n c])).put (some 28) (.slice (some ⟨b4, o4, none⟩) m d)).put (some 29) (.slice (some ⟨b4, o4, none⟩) m d)).put (some 30) (.slice (some ⟨bt, ot, none⟩) l e)).put (some 31) (.pointer (some ⟨bt, ot, none⟩))).put (some 32) (.int .i64 (x0 : Int))).put (some 33) (.pointer (some ⟨b4, o4 + x0 * 2, none⟩))).put (some 34) (.agg #[.int .i64 q.c, .slice A4 m4 c4])).put (some 35) (.agg #[.slice A n c])).put (some 36) (.slice (some ⟨bt, ot, none⟩) l e)).put (some 37) (.slice A5 us.length c5)).put (some 38) (.tuple #[.agg #[.int .i64 (rp oo).c, .slice A6 n6 c6], .bool oo.isSome])).put (some 39) (.agg #[.int .i64 (rp oo).c, .slice A6 n6 c6])).put (some 40) (.bool oo.isSome)).put (some 7) (.bool oo.isSome)) ∧ n6 = (rp oo).cf.length ∧ PG w w9 (w.heap.size + 1) (rp oo).c A6 c6 (rp oo).cf) ?_ (fun a8 w5 hR => ?_)
      · refine wp_region_held_drew (S := (fun w' => w'.cell? ⟨w.heap.size, 0, none⟩ = some (.slice A n c) ∧ Ext w w')) (by kernel_rfl) (⟨hs0, hE1.drew⟩) (fun hH => ?_)
        refine wpAnyH_take_dst (i := 0) (v := .agg #[.slice A n c]) (d := some 27) rfl rfl (by kernel_rfl) (by kernel_rfl) (by kernel_rfl) (fun _ _ _ h => h) (Or.inl ⟨by rfl, ?_⟩) hH ?_
        · (intro w' hE'; (try dsimp only at hE'); have y0 := hE'.1; have y1 := Ext.keep hE'.2 hcy; have y2 := Ext.keep hE'.2 hd1; have y3 := Ext.keep hE'.2 hd2; go_simp; try with_reducible rfl)
        try simp only [Act.put, List.setIfInBounds_toArray, List.set_cons_zero, List.set_cons_succ]
        refine wpAnyH_take_dst (i := 1) (v := .slice (some ⟨b4, o4, none⟩) m d) (d := some 28) rfl rfl (by kernel_rfl) (by kernel_rfl) (by kernel_rfl) (fun _ _ _ h => h) (Or.inl ⟨by rfl, ?_⟩) hH ?_
        · (intro w' hE'; (try dsimp only at hE'); have y0 := hE'.1; have y1 := Ext.keep hE'.2 hcy; have y2 := Ext.keep hE'.2 hd1; have y3 := Ext.keep hE'.2 hd2; go_simp; try with_reducible rfl)
        try simp only [Act.put, List.setIfInBounds_toArray, List.set_cons_zero, List.set_cons_succ]
        refine wpAnyH_take_dst (i := 2) (v := .slice (some ⟨b4, o4, none⟩) m d) (d := some 29) rfl rfl (by kernel_rfl) (by kernel_rfl) (by kernel_rfl) (fun _ _ _ h => h) (Or.inl ⟨by rfl, ?_⟩) hH ?_
        · (intro w' hE'; (try dsimp only at hE'); have y0 := hE'.1; have y1 := Ext.keep hE'.2 hcy; have y2 := Ext.keep hE'.2 hd1; have y3 := Ext.keep hE'.2 hd2; go_simp; try with_reducible rfl)
        try simp only [Act.put, List.setIfInBounds_toArray, List.set_cons_zero, List.set_cons_succ]
        refine wpAnyH_take_dst (i := 3) (v := .slice (some ⟨bt, ot, none⟩) l e) (d := some 30) rfl rfl (by kernel_rfl) (by kernel_rfl) (by kernel_rfl) (fun _ _ _ h => h) (Or.inl ⟨by rfl, ?_⟩) hH ?_
        · (intro w' hE'; (try dsimp only at hE'); have y0 := hE'.1; have y1 := Ext.keep hE'.2 hcy; have y2 := Ext.keep hE'.2 hd1; have y3 := Ext.keep hE'.2 hd2; go_simp; try with_reducible rfl)
        try simp only [Act.put, List.setIfInBounds_toArray, List.set_cons_zero, List.set_cons_succ]
        refine wpAnyH_take_dst (i := 4) (v := .pointer (some ⟨bt, ot, none⟩)) (d := some 31) rfl rfl (by kernel_rfl) (by kernel_rfl) (by kernel_rfl) (fun _ _ _ h => h) (Or.inl ⟨by rfl, ?_⟩) hH ?_
        · (intro w' hE'; (try dsimp only at hE'); have y0 := hE'.1; have y1 := Ext.keep hE'.2 hcy; have y2 := Ext.keep hE'.2 hd1; have y3 := Ext.keep hE'.2 hd2; go_simp; try with_reducible rfl)
        try simp only [Act.put, List.setIfInBounds_toArray, List.set_cons_zero, List.set_cons_succ]
        refine wpAnyH_take_dst (i := 5) (v := .int .i64 (x0 : Int)) (d := some 32) rfl rfl (by kernel_rfl) (by kernel_rfl) (by kernel_rfl) (fun _ _ _ h => h) (Or.inl ⟨by rfl, ?_⟩) hH ?_
        · (intro w' hE'; (try dsimp only at hE'); have y0 := hE'.1; have y1 := Ext.keep hE'.2 hcy; have y2 := Ext.keep hE'.2 hd1; have y3 := Ext.keep hE'.2 hd2; go_simp; try with_reducible rfl)
        try simp only [Act.put, List.setIfInBounds_toArray, List.set_cons_zero, List.set_cons_succ]
        refine wpAnyH_take_dst (i := 6) (v := .pointer (some ⟨b4, o4 + x0 * 2, none⟩)) (d := some 33) rfl rfl (by kernel_rfl) (by kernel_rfl) (by kernel_rfl) (fun _ _ _ h => h) (Or.inl ⟨by rfl, ?_⟩) hH ?_
        · (intro w' hE'; (try dsimp only at hE'); have y0 := hE'.1; have y1 := Ext.keep hE'.2 hcy; have y2 := Ext.keep hE'.2 hd1; have y3 := Ext.keep hE'.2 hd2; go_simp; try with_reducible rfl)
        try simp only [Act.put, List.setIfInBounds_toArray, List.set_cons_zero, List.set_cons_succ]
        refine wpAnyH_take_dst (i := 7) (v := .agg #[.int .i64 q.c, .slice A4 m4 c4]) (d := some 34) rfl rfl (by kernel_rfl) (by kernel_rfl) (by kernel_rfl) (fun _ _ _ h => h) (Or.inl ⟨by rfl, ?_⟩) hH ?_
        · (intro w' hE'; (try dsimp only at hE'); have y0 := hE'.1; have y1 := Ext.keep hE'.2 hcy; have y2 := Ext.keep hE'.2 hd1; have y3 := Ext.keep hE'.2 hd2; go_simp; try with_reducible rfl)
        try simp only [Act.put, List.setIfInBounds_toArray, List.set_cons_zero, List.set_cons_succ]
        refine wpAnyH_take_dst (i := 8) (v := .agg #[.slice A n c]) (d := some 35) rfl rfl (by kernel_rfl) (by kernel_rfl) (by kernel_rfl) (fun _ _ _ h => h) (Or.inl ⟨by rfl, ?_⟩) hH ?_
        · (intro w' hE'; (try dsimp only at hE'); have y0 := hE'.1; have y1 := Ext.keep hE'.2 hcy; have y2 := Ext.keep hE'.2 hd1; have y3 := Ext.keep hE'.2 hd2; go_simp; try with_reducible rfl)
        try simp only [Act.put, List.setIfInBounds_toArray, List.set_cons_zero, List.set_cons_succ]
        refine wpAnyH_take_dst (i := 9) (v := .slice (some ⟨bt, ot, none⟩) l e) (d := some 36) rfl rfl (by kernel_rfl) (by kernel_rfl) (by kernel_rfl) (fun _ _ _ h => h) (Or.inl ⟨by rfl, ?_⟩) hH ?_
        · (intro w' hE'; (try dsimp only at hE'); have y0 := hE'.1; have y1 := Ext.keep hE'.2 hcy; have y2 := Ext.keep hE'.2 hd1; have y3 := Ext.keep hE'.2 hd2; go_simp; try with_reducible rfl)
        try simp only [Act.put, List.setIfInBounds_toArray, List.set_cons_zero, List.set_cons_succ]
        refine wpAnyH_ready (rs := [10]) (by kernel_rfl) (by simp) ?_
        refine AllReadyH.cons rfl (fun K hK => ?_) AllReadyH.nil
        rw [if_pos (by rfl)]
        go_wp2_with fail
        (with_reducible refine (c_l13Parts (x := (x0 : Int)) (us := us) (RdSig.mk (RI.ext HA.out hH.2)) (RdIc.mk HCAP.out (RI.ext HD.out hH.2)) HS.out HU.out).mono ?_)
        rintro e w9 ⟨A5, n5, c5, rfl, rfl, hS5, hE9⟩
        refine hK.out _ _ (⟨Ext.keep hE9 hH.1, Ext.trans hH.2 hE9⟩) (fun hH9 => ?_)
        clear hK; have hH0 := hH; clear hH; have hH := hH9; clear hH9
        try simp only [Act.put, List.setIfInBounds_toArray, List.set_cons_zero, List.set_cons_succ]
        refine wpAnyH_ready (rs := [11]) (by kernel_rfl) (by simp) ?_
        refine AllReadyH.cons rfl (fun K hK => ?_) AllReadyH.nil
        rw [if_pos (by rfl)]
        go_wp2_with fail
        (with_reducible refine (c_l15Sum' (q := q) HOO.out (RdSig.mk (RI.ext HA.out hH.2)) (RdPs.mk (RP.ext HB.out hH.2)) (RdPl.mk (RI.ext HR4.out hH.2)) hS5 rfl HQB.out HQL.out hal HFM.out HIA.out).mono ?_)
        rintro e w9 ⟨A6, n6, c6, rfl, hO6, hE8⟩
        refine hK.out _ _ (⟨Ext.keep hE8 hH.1, Ext.trans hH.2 hE8⟩) (fun hH9 => ?_)
        clear hK; have hH0 := hH; clear hH; have hH := hH9; clear hH9
        try simp only [Act.put, List.setIfInBounds_toArray, List.set_cons_zero, List.set_cons_succ]
        refine wpAnyH_take_dst (i := 12) (v := .agg #[.int .i64 (rp oo).c, .slice A6 n6 c6]) (d := some 39) rfl rfl (by kernel_rfl) (by kernel_rfl) (by kernel_rfl) (fun _ _ _ h => h) (Or.inl ⟨by rfl, ?_⟩) hH ?_
        · (intro w' hE'; (try dsimp only at hE'); have y0 := hE'.1; have y1 := Ext.keep hE'.2 hcy; have y2 := Ext.keep hE'.2 hd1; have y3 := Ext.keep hE'.2 hd2; go_simp; try with_reducible rfl)
        try simp only [Act.put, List.setIfInBounds_toArray, List.set_cons_zero, List.set_cons_succ]
        refine wpAnyH_take_dst (i := 13) (v := .bool oo.isSome) (d := some 40) rfl rfl (by kernel_rfl) (by kernel_rfl) (by kernel_rfl) (fun _ _ _ h => h) (Or.inl ⟨by rfl, ?_⟩) hH ?_
        · (intro w' hE'; (try dsimp only at hE'); have y0 := hE'.1; have y1 := Ext.keep hE'.2 hcy; have y2 := Ext.keep hE'.2 hd1; have y3 := Ext.keep hE'.2 hd2; go_simp; try with_reducible rfl)
        try simp only [Act.put, List.setIfInBounds_toArray, List.set_cons_zero, List.set_cons_succ]
        refine wpAnyH_ready (rs := [14]) (by kernel_rfl) (by simp) ?_
        refine AllReadyH.cons rfl (fun K hK => ?_) AllReadyH.nil
        rw [if_pos (by rfl)]
        obtain ⟨k0, k1, kf⟩ := box_ext (Ext.trans hE9 hE8) (q := w.heap.size + 1) (u := .int .i64 0) (v := .slice none 0 0) hs2 hs3 hs4; go_wp2_with fail
        refine hK.out _ _ (⟨by rw [World.cell?_setCell_other _ _ _ _ (by simp), World.cell?_setCell_other _ _ _ _ (by simp)]; exact hH.1, (hH.2.set (Nat.le_succ _) _).set (Nat.le_succ _) _⟩) (fun hH9 => ?_)
        clear hK; have hH0 := hH; clear hH; have hH := hH9; clear hH9
        try simp only [Act.put, List.setIfInBounds_toArray, List.set_cons_zero, List.set_cons_succ]
        refine wpAnyH_take_dst (i := 15) (v := .bool oo.isSome) (d := some 7) rfl rfl (by kernel_rfl) (by kernel_rfl) (by kernel_rfl) (fun _ _ _ h => h) (Or.inl ⟨by rfl, ?_⟩) hH ?_
        · (intro w' hE'; (try dsimp only at hE'); have y0 := hE'.1; have y1 := Ext.keep hE'.2 hcy; have y2 := Ext.keep hE'.2 hd1; have y3 := Ext.keep hE'.2 hd2; go_simp; try with_reducible rfl)
        try simp only [Act.put, List.setIfInBounds_toArray, List.set_cons_zero, List.set_cons_succ]
        refine wpAnyH_done (by kernel_rfl) ?_ _
        refine ⟨A5, c5, A6, n6, c6, by rfl, hO6.len.symm, PG.put hO6.len.symm k0 k1 kf (hO6.lower (Nat.le_trans hE1.size hE9.size)) (fun b o s e => ?_) (Nat.le_succ _) hH0.2⟩
        have h1 := (hO6.bd b o s e).1; have h2 := hE9.size; have h3 : w1.heap.size ≤ w1.drew.heap.size := Nat.le_refl _; omega
      obtain ⟨A5, c5, A6, n6, c6, ha, hn6, P6⟩ := hR
      simp only [Act.put, List.setIfInBounds_toArray, List.set_cons_zero, List.set_cons_succ] at ha
      subst ha
      have k0 := P6.c0
      have k1 := P6.c1
      have kf := P6.fr
      have hE5 := P6.ex
      have HO := Lib.hid P6.oA
      clear P6 hn6
      go_wp2_with fail
      refine bodyPost_ret (v := .tuple #[.agg #[.int .i64 (rp oo).c, .slice A6 (rp oo).cf.length c6], .bool oo.isSome]) (by simp [results, Try.results146, go_sem, k0, k1, kf]) rfl ?_
      rw [HR.out, ← HOO.out]
      exact ⟨A6, _, c6, rfl, HO.out, hE5⟩

end Go.Proofs.Ytjmdfjinicbkeaa
