/- The form of a term, by the program. -/
import Derived.Test.YtljbjabgdalabaaFormC
import Derived.Test.YtljbjabgdalabaaFormD
-- rd: RdPl RdPs
namespace Go.Proofs.Ytljbjabgdalabaa
open Go.RowKit
set_option linter.unusedSimpArgs false
set_option linter.unusedVariables false

theorem mem_flatL {a : Tm} {y : Int} (hy : y ∈ a.flat) : ∀ {us : List Tm}, a ∈ us → y ∈ flatL us
  | b :: us, h => by
    rw [flatL_cons]
    rcases List.mem_cons.1 h with rfl | h
    · exact List.mem_append_left _ hy
    · exact List.mem_append_right _ (mem_flatL hy h)
/-- Each symbol has a right polynomial, so far behind. -/
def PsAt (ar : List Int) (ps : List Pl) (h : Nat) : Prop := ∀ (x : Nat) (a : Nat), arI ar (x : Int) = some a → ∃ q, ps[x + h]? = some q ∧ q.cf.length = a ∧ (0 ≤ q.c ∧ q.c ≤ 9) ∧ ∀ y ∈ q.cf, 0 ≤ y ∧ y ≤ 9
/-- The form of a term whose head symbol has its polynomial further behind. -/
noncomputable def formM (ps : List Pl) (h : Nat) : Tm → Option Pl
  | .node x us => if x < 0 then some (varPl x) else (formL ps us).bind fun fs => appP (ps.getD (x.toNat + h) ⟨0, []⟩) fs
theorem formM_node (ps : List Pl) (h : Nat) (x : Int) (us : List Tm) : formM ps h (.node x us) = if x < 0 then some (varPl x) else (formL ps us).bind fun fs => appP (ps.getD (x.toNat + h) ⟨0, []⟩) fs := rfl
theorem formM_zero (ps : List Pl) (u : Tm) : formM ps 0 u = form ps u := by
  cases u; rw [form_node]; rfl
theorem formM_var {ps : List Pl} {h : Nat} {x : Int} {us : List Tm} (hx : x < 0) : formM ps h (.node x us) = some (varPl x) := by
  rw [formM_node, if_pos hx]
theorem formM_none {ps : List Pl} {h : Nat} {x : Int} {us : List Tm} (hx : ¬ x < 0) (hn : formL ps us = none) : formM ps h (.node x us) = none := by
  rw [formM_node, if_neg hx, hn]; rfl
theorem formM_some {ps : List Pl} {h : Nat} {x : Int} {us : List Tm} {fs : List Pl} {q : Pl} (hx : ¬ x < 0) (hn : formL ps us = some fs) (hq : ps[x.toNat + h]? = some q) : formM ps h (.node x us) = appP q fs := by
  rw [formM_node, if_neg hx, hn]; show appP _ _ = _; rw [List.getD_eq_getElem?_getD, hq]; rfl
abbrev FormAtI (ar : List Int) (ps : List Pl) (u : Tm) : Prop := ∀ (v0 v1 v2 : Value) (t rest : List Int) (P : Int) (p : Nat) (w : World), P = (p : Int) → RdSig w v0 ar → RdPs w v1 ps → RdI w v2 t → t.drop p = u.flat ++ rest →
  Calls Try.prog 34 #[v0, v1, v2, .int .i64 P] w (NewF w (form ps u))
theorem polys_info : (Try.prog.info? 38).map (fun i => (i.zero, i.size, i.bytes)) = some (some (.agg #[.int .i64 0, .slice none 0 0]), 2, 32) := by kernel_rfl
set_option maxRecDepth 100000 in
set_option maxHeartbeats 2000000 in
theorem c_markedForm {v0 v1 v2 : Value} {ar t rest : List Int} {ps : List Pl} {h p : Nat} {x : Int} {us : List Tm} {w : World} (h0 : RdSig w v0 ar) (h1 : RdPs w v1 ps) (h2 : RdI w v2 t) (hd : t.drop p = (Tm.node x us).flat ++ rest)
    (hs : SigP ar) (hu : (Tm.node x us).Ok ar) (hv : ∀ y ∈ (Tm.node x us).flat, -24 ≤ y) (hps : PsAt ar ps h) (h0s : PsAt ar ps 0) (hh : h ≤ 8) (hall : ∀ p ∈ ps, (0 ≤ p.c ∧ p.c ≤ 9) ∧ ∀ x ∈ p.cf, 0 ≤ x ∧ x ≤ 9) (ih : ∀ a ∈ us, FormAtI ar ps a) :
    Calls Try.prog 66 #[v0, v1, .int .i64 (h : Int), v2, .int .i64 (p : Int)] w (NewF w (formM ps h (.node x us))) := by
  obtain ⟨A, n, c, rfl, ha⟩ := h0
  obtain ⟨B, m, d, rfl, hb⟩ := h1
  obtain ⟨D, l, e, rfl, hdd⟩ := h2
  have hl := hdd.le
  have hll := hdd.len
  have hlt := drop_lt hd (flat_pos _)
  rw [hll] at hlt
  have hxp : t[p]? = some x := drop_head (by rw [← flat_node]; exact hd)
  have hpos := flat_pos (Tm.node x us)
  obtain ⟨bt, ot, y, rfl, hy, hcy⟩ := RI.at_ hdd (show p < l by omega)
  rw [hxp] at hy; cases hy
  have hpl : (p : Int) < (l : Int) := by omega
  have hbt : bt < w.heap.size := World.block_lt_of_cell? w _ hcy
  have HA := Lib.hid ha
  have HB := Lib.hid hb
  have HD := Lib.hid hdd
  have HDR := Lib.hid hd
  have HS := Lib.hid hs
  have HU := Lib.hid hu
  have HI := Lib.hid ih
  have HPS := Lib.hid hps
  have HALL := Lib.hid hall
  clear hall
  by_cases hx : x < 0
  · have HR := Lib.hid (formM_var (ps := ps) (h := h) (us := us) hx)
    have hx24 : -24 ≤ x := hv x (by rw [flat_node]; exact List.mem_cons_self)
    clear ha hb hdd hd hs hu ih hps hxp hv h0s
    go_enter Try.func66, Try.ntmps66
    go_wp2_with fail
    (with_reducible refine (c_varForm hx hx24).mono ?_)
    rintro e2 w2 ⟨A2, n2, c2, rfl, hO2, hE2⟩
    have HO2 := Lib.hid hO2
    have hbd2 := Lib.hid hO2.bd
    clear hO2
    have hq0 : w2.cell? ⟨w.heap.size + 1, 0, none⟩ = some (.int .i64 0) := Ext.keep hE2 (by simp [go_sem])
    have hq1 : w2.cell? ⟨w.heap.size + 1, 1, none⟩ = some (.slice none 0 0) := Ext.keep hE2 (by simp [go_sem])
    have hq1l : w.heap.size + 1 < w2.heap.size := World.block_lt_of_cell? w2 _ hq0
    have hqf : ∀ o, w2.frozen? ⟨w.heap.size + 1, o, none⟩ = false := fun o => (Below.frozen (p := ⟨w.heap.size + 1, o, none⟩) hE2 (by simp [go_sem])).trans (by simp [go_sem])
    have hEw : Ext w w2 := Ext.trans (by exact extX) hE2
    clear hE2
    go_wp2
    refine bodyPost_ret (v := .tuple #[.agg #[.int .i64 (varPl x).c, .slice A2 n2 c2], .bool true]) (by simp [results, Try.results66, go_sem, hq0, hq1, hqf]) rfl ?_
    rw [HR.out]
    refine ⟨A2, n2, c2, rfl, ?_, by exact extX⟩
    have h3 : OwI w2 w.heap.size A2 n2 c2 (varPl x).cf := HO2.out.lower (by simp [go_sem]; try omega)
    show OwI _ w.heap.size A2 n2 c2 (varPl x).cf
    (repeat' (first | (with_reducible exact h3) | (with_reducible refine OwI.setFar ?_ _ (fun g o s e => ?_))))
    all_goals (have h4 := hbd2.out g o s e; simp [go_sem] at h4; show g ≠ w.heap.size + 1; omega)
  · obtain ⟨x0, rfl⟩ := Int.eq_ofNat_of_zero_le (show 0 ≤ x by omega)
    obtain ⟨hok, hol⟩ := Ok_node.1 hu
    obtain ⟨q, hq, hql, hqc, hqcf⟩ := hps x0 us.length hok
    have hal : us.length ≤ 3 := arI_le hs hok
    have hx8 : x0 < 8 := by have := arI_lt hok; have := hs.2.1; omega
    have HOL := Lib.hid (OkL_iff.1 hol)
    have HVL := Lib.hid (fun a (hm : a ∈ us) => (fun y hy => hv y (by rw [flat_node]; exact List.mem_cons_of_mem _ (mem_flatL hy hm)) : ∀ y ∈ a.flat, -24 ≤ y))
    have HQ := Lib.hid hq
    have HQL := Lib.hid hql
    have HQB := Lib.hid (And.intro hqc hqcf)
    obtain ⟨i0, hii, hiz, his, hib⟩ := info_parts polys_info
    clear ha hb hdd hd hs hu ih hps hxp hv h0s hok hol hq hql hqc hqcf
    go_enter Try.func66, Try.ntmps66
    go_wp2_with fail
    (with_reducible refine (c_argsAt (p := p) (RdSig.mk (RI.ext HA.out (by exact extX))) (RdI.mk (RI.ext HD.out (by exact extX))) HS.out HU.out HDR.out).mono ?_)
    rintro e2 w2 ⟨A2, n2, c2, rfl, hn2, hr2, hE2⟩
    subst hn2
    have HR2 := Lib.hid hr2
    clear hr2
    have hs0 : w2.cell? ⟨w.heap.size, 0, none⟩ = some (.slice A n c) := Ext.keep hE2 (by simp [go_sem])
    have hq0 : w2.cell? ⟨w.heap.size + 1, 0, none⟩ = some (.int .i64 0) := Ext.keep hE2 (by simp [go_sem])
    have hq1 : w2.cell? ⟨w.heap.size + 1, 1, none⟩ = some (.slice none 0 0) := Ext.keep hE2 (by simp [go_sem])
    have hq1l : w.heap.size + 1 < w2.heap.size := World.block_lt_of_cell? w2 _ hq0
    have hqf : ∀ o, w2.frozen? ⟨w.heap.size + 1, o, none⟩ = false := fun o => (Below.frozen (p := ⟨w.heap.size + 1, o, none⟩) hE2 (by simp [go_sem])).trans (by simp [go_sem])
    have hEw : Ext w w2 := Ext.trans (by exact extX) hE2
    clear hE2
    go_wp2_with fail
    go_loopw [12, 32] (fun ov iv wr => ∃ k : Nat, iv = .int .i64 k ∧ k ≤ us.length ∧ (∃ A c, ov = .slice A k c ∧ Hid (∃ fs, OwQ wr w2.heap.size A k c fs ∧ ∀ (j : Nat) (a : Tm) (f : Pl), us[j]? = some a → fs[j]? = some f → form ps a = some f)) ∧ Ext w2 wr) (fun _ iv _ => us.length - (intOf iv).toNat)
    case atStart => exact ⟨0, rfl, Nat.zero_le _, ⟨none, 0, rfl, Lib.hid ⟨[], OwQ.nil _ _, fun j a f h1 h2 => by simp at h2⟩⟩, Ext.refl _⟩
    case round =>
      obtain ⟨k, rfl, hk, ⟨A3, c3, rfl, hQ⟩, hE3⟩ := hrel
      obtain ⟨gs, hO3, hfm⟩ := hQ.out
      clear hQ
      have hr0 := Ext.keep hE3 hs0
      have hr1 := Ext.keep hE3 hq0
      have hr2 := Ext.keep hE3 hq1
      have hrf : ∀ o, wr.frozen? ⟨w.heap.size + 1, o, none⟩ = false := fun o => (Below.frozen (p := ⟨w.heap.size + 1, o, none⟩) hE3 hq1l).trans (hqf o)
      have hEwr : Ext w wr := Ext.trans hEw hE3
      have hwl : w.heap.size + 1 < wr.heap.size := World.block_lt_of_cell? wr _ hr1
      by_cases hlt : k < us.length
      · obtain ⟨a, hak⟩ : ∃ a, us[k]? = some a := ⟨us[k], List.getElem?_eq_getElem hlt⟩
        obtain ⟨b1, o1, z1, rfl, hz1, hc1⟩ := RI.at_ (RI.ext HR2.out hE3) hlt
        rw [starts_get hlt] at hz1
        injection hz1 with hz1; subst hz1
        have HDA := Lib.hid (drop_arg HDR.out hak)
        have HIA := Lib.hid (HI.out a (List.mem_of_getElem? hak))
        have hki : (k : Int) < (us.length : Int) := by omega
        cases hfa : form ps a with
        | none =>
          have HR := Lib.hid (formM_none (ps := ps) (h := h) (x := (x0 : Int)) (us := us) (by omega) (formL_none hak hfa))
          clear hak
          go_wp2_with fail
          (with_reducible refine (HIA.out _ _ _ t _ _ (p + 1 + (flatL (us.take k)).length) _ (by omega) (RdSig.mk (RI.ext HA.out hEwr)) (RdPs.mk (RP.ext HB.out hEwr)) (RdI.mk (RI.ext HD.out hEwr)) HDA.out).mono ?_)
          intro e5 w5 hN0
          obtain ⟨A5, n5, c5, rfl, hO5, hE5⟩ : ∃ A n c, e5 = .returned (.tuple #[.agg #[.int .i64 0, .slice A n c], .bool false]) ∧ OwI w5 wr.heap.size A n c [] ∧ Ext wr w5 := by rw [hfa] at hN0; exact hN0
          clear hN0 hO5
          have hv0 := Ext.keep hE5 hr1
          have hv1 := Ext.keep hE5 hr2
          have hvf : ∀ o, w5.frozen? ⟨w.heap.size + 1, o, none⟩ = false := fun o => (Below.frozen (p := ⟨w.heap.size + 1, o, none⟩) hE5 hwl).trans (hrf o)
          have hwl5 : w.heap.size + 1 < w5.heap.size := World.block_lt_of_cell? w5 _ hv0
          have hEw5 : Ext w w5 := Ext.trans hEwr hE5
          go_wp2
          refine bodyPost_ret (v := .tuple #[.agg #[.int .i64 0, .slice none 0 0], .bool false]) (by simp [results, Try.results66, go_sem, hv0, hv1, hvf, hwl5]) rfl ?_
          rw [HR.out]
          exact ⟨none, 0, 0, rfl, ⟨by omega, World.ownsRow_nil _ _ _ _⟩, by exact extX⟩
        | some f =>
          go_wp2_with fail
          (with_reducible refine (HIA.out _ _ _ t _ _ (p + 1 + (flatL (us.take k)).length) _ (by omega) (RdSig.mk (RI.ext HA.out hEwr)) (RdPs.mk (RP.ext HB.out hEwr)) (RdI.mk (RI.ext HD.out hEwr)) HDA.out).mono ?_)
          intro e5 w5 hN0
          obtain ⟨A5, n5, c5, rfl, hO5, hE5⟩ : ∃ A n c, e5 = .returned (.tuple #[.agg #[.int .i64 f.c, .slice A n c], .bool true]) ∧ OwI w5 wr.heap.size A n c f.cf ∧ Ext wr w5 := by rw [hfa] at hN0; exact hN0
          clear hN0
          have hn5 := hO5.len
          subst hn5
          have hob := hO3.ob
          have hfar : ∀ b o s, A5 = some ⟨b, o, s⟩ → (Value.slice A3 k c3).ownBlock ≠ some b := fun b o s e e2 => by have := (hO5.bd b o s e).1; have := (hob b e2).2; omega
          have hws := hE3.size
          obtain ⟨⟨hn6, hl6⟩, vs, ho6, hf6⟩ := hO3.ext ((hE5).alloc (.cells #[.int .i64 f.c, .slice A5 f.cf.length c5] 38))
          have hvl6 : vs.length = k * 2 := ho6.1
          have HO6 := Lib.hid ho6
          have HF6 := Lib.hid hf6
          have HO5 := Lib.hid ((hO5.lower (B' := w2.heap.size) hws).ext ((Ext.refl w5).alloc (.cells #[.int .i64 f.c, .slice A5 f.cf.length c5] 38)))
          have HFM := Lib.hid hfm
          have HAK := Lib.hid hak
          have HFAR := Lib.hid hfar
          have HGL := Lib.hid hl6
          have hs5 := hE5.size
          clear ho6 hf6 hO5 hfm hak hfar hl6 hob hO3
          go_wp2_with (at_builtin; go_loud (refine wpList_append_lies _ rfl (.tmp 47) (.tmp 49) 31 rfl w2.heap.size 38 i0 (.agg #[.int .i64 0, .slice none 0 0]) 2 32 Try.underlying31 hii hiz his hib rfl (by decide) _ k vs rfl (World.ownsRow.alloc HO6.out _) ⟨w5.heap.size + 1, 0, none⟩ 1 1 [.int .i64 f.c, .slice A5 f.cf.length c5] rfl rfl (two_cells' (by simp [go_sem]) _ _ _) (two_one _ _ _ _) (by decide) (by unfold maxLen; omega) (by omega) (by simp [go_sem]; omega) _ rfl ?_))
          intro g cap wx hown hg hat hltg
          have HQ2 := Lib.hid (OwQ.push (by omega) HGL.out hvl6 HF6.out HO5.out HFAR.out hown hg (hat.imp id (fun e => e.trans (by simp [go_sem]))))
          have hE6 : Ext w2 wx := Ext.grown (((Ext.trans hE3 hE5).alloc _).alloc _) hg (fun b hb => (World.ownsRow.lt HO6.out b hb).1)
          clear hown hg hat
          go_wp2
          go_roundw
          case rel =>
            refine ⟨k + 1, by go_num, by omega, ⟨_, _, rfl, Lib.hid ⟨gs ++ [f], HQ2.out, fun j a' f' h1 h2 => ?_⟩⟩, hE6⟩
            rcases Nat.lt_or_ge j k with hj | hj
            · exact HFM.out j a' f' h1 (by rwa [List.getElem?_append_left (by rw [HGL.out]; exact hj)] at h2)
            · have hjk : j = k := by have := (List.getElem?_eq_some_iff.1 h2).1; simp [HGL.out] at this; omega
              subst hjk
              rw [List.getElem?_append_right (by rw [HGL.out]; omega), HGL.out, Nat.sub_self] at h2
              rw [HAK.out] at h1
              cases h1; cases h2; exact hfa
          case measure => simp only [intOf]; omega
      · have hkn : k = us.length := by omega
        have hgl : gs.length = k := hO3.1.2
        have hfl : formL ps us = some gs := formL_some (by omega) hfm
        have HR := Lib.hid (formM_some (h := h) (x := (x0 : Int)) (us := us) (by omega) hfl (by rw [Int.toNat_natCast]; exact HQ.out))
        have hml : x0 + h < m := by have := (List.getElem?_eq_some_iff.1 HQ.out).1; rw [HB.out.len] at this; exact this
        obtain ⟨b4, o4, q', A4, m4, c4, rfl, hq', hd1w, hd2w, hri4⟩ := RP.at_ HB.out hml
        rw [HQ.out] at hq'
        cases hq'
        have hd1 := Ext.keep hEwr hd1w
        have hd2 := Ext.keep hEwr hd2w
        have hcy5 := Ext.keep hEwr hcy
        have HR4 := Lib.hid hri4
        have HG := Lib.hid hO3.rp
        have HPA := Lib.hid (show Parts q gs from ⟨HQB.out.1, HQB.out.2, by omega, fun f hf => by
          obtain ⟨j, hj, e⟩ := List.mem_iff_getElem.1 hf
          have hju : j < us.length := by omega
          have h1 : us[j]? = some us[j] := List.getElem?_eq_getElem hju
          exact form_fm (ar := ar) HALL.out (fun y b hb => arI_le HS.out hb) us[j] (HOL.out _ (List.getElem_mem hju)) (HVL.out _ (List.getElem_mem hju)) f (hfm j us[j] f h1 (by rw [List.getElem?_eq_getElem hj, e]))⟩)
        have HLE := Lib.hid (show q.cf.length = gs.length by rw [HQL.out]; omega)
        have hxi : (x0 : Int) + (h : Int) < (m : Int) := by omega
        have hx0i : (0 : Int) ≤ (x0 : Int) + (h : Int) := by omega
        have hxn : ((x0 : Int) + (h : Int)).toNat = x0 + h := by omega
        clear hfm hO3 hd1w hd2w hri4 hfl hgl
        have hkn' := hkn
        go_wp2_with fail
        (with_reducible refine (c_applied (p := q) (fs := gs) (RdPl.mk (RI.ext HR4.out hEwr)) (RdPs.mk (n := us.length) (by rw [← hkn']; exact HG.out)) HPA.out HLE.out).mono ?_)
        rintro e6 w6 ⟨A6, n6, c6, rfl, hO6, hE6⟩
        have HO6 := Lib.hid hO6
        have HB6 := Lib.hid hO6.bd
        have hv0 := Ext.keep hE6 hr1
        have hv1 := Ext.keep hE6 hr2
        have hvf : ∀ o, w6.frozen? ⟨w.heap.size + 1, o, none⟩ = false := fun o => (Below.frozen (p := ⟨w.heap.size + 1, o, none⟩) hE6 hwl).trans (hrf o)
        have hwl6 : w.heap.size + 1 < w6.heap.size := World.block_lt_of_cell? w6 _ hv0
        have hEw6 : Ext w w6 := Ext.trans hEwr hE6
        have hszw := hEwr.size
        clear hO6
        go_wp2
        refine bodyPost_ret (v := .tuple #[.agg #[.int .i64 (rp (appP q gs)).c, .slice A6 n6 c6], .bool (appP q gs).isSome]) (by simp [results, Try.results66, go_sem, hv0, hv1, hvf, hwl6]) rfl ?_
        rw [HR.out]
        refine ⟨A6, n6, c6, rfl, ?_, by exact extX⟩
        have h3 : OwI w6 w.heap.size A6 n6 c6 (rp (appP q gs)).cf := HO6.out.lower hszw
        (repeat' (first | (with_reducible exact h3) | (with_reducible refine OwI.setFar ?_ _ (fun g o s e => ?_))))
        all_goals (have h4 := HB6.out g o s e; show g ≠ w.heap.size + 1; omega)
set_option maxRecDepth 100000 in
set_option maxHeartbeats 1000000 in
theorem c_formAt {ar : List Int} {ps : List Pl} {u : Tm} (hs : SigP ar) (hu : u.Ok ar) (hv : ∀ y ∈ u.flat, -24 ≤ y) (h0s : PsAt ar ps 0) (hall : ∀ p ∈ ps, (0 ≤ p.c ∧ p.c ≤ 9) ∧ ∀ x ∈ p.cf, 0 ≤ x ∧ x ≤ 9)
    (hm : ∀ (v0 v1 v2 : Value) (t rest : List Int) (p : Nat) (w : World), RdSig w v0 ar → RdPs w v1 ps → RdI w v2 t → t.drop p = u.flat ++ rest → Calls Try.prog 66 #[v0, v1, .int .i64 0, v2, .int .i64 (p : Int)] w (NewF w (form ps u))) : FormAtI ar ps u := by
  intro v0 v1 v2 t rest P p w hP h0 h1 h2 hd
  subst hP
  obtain ⟨A, n, c, rfl, ha⟩ := h0
  obtain ⟨B, m, d, rfl, hb⟩ := h1
  obtain ⟨D, l, e, rfl, hdd⟩ := h2
  have HA := Lib.hid ha
  have HB := Lib.hid hb
  have HD := Lib.hid hdd
  have HM := Lib.hid hm
  have HDR := Lib.hid hd
  clear ha hb hdd hm hd
  go_enter Try.func34, Try.ntmps34
  go_wp2_with fail
  (with_reducible refine (HM.out _ _ _ t rest p _ (RdSig.mk (RI.ext HA.out (by exact extX))) (RdPs.mk (RP.ext HB.out (by exact extX))) (RdI.mk (RI.ext HD.out (by exact extX))) HDR.out).mono ?_)
  rintro e2 w2 ⟨A6, n6, c6, rfl, hO6, hE6⟩
  have HO6 := Lib.hid hO6
  have HB6 := Lib.hid hO6.bd
  have hq0 : w2.cell? ⟨w.heap.size + 1, 0, none⟩ = some (.int .i64 0) := Ext.keep hE6 (by simp [go_sem])
  have hq1 : w2.cell? ⟨w.heap.size + 1, 1, none⟩ = some (.slice none 0 0) := Ext.keep hE6 (by simp [go_sem])
  have hq1l : w.heap.size + 1 < w2.heap.size := World.block_lt_of_cell? w2 _ hq0
  have hqf : ∀ o, w2.frozen? ⟨w.heap.size + 1, o, none⟩ = false := fun o => (Below.frozen (p := ⟨w.heap.size + 1, o, none⟩) hE6 (by simp [go_sem])).trans (by simp [go_sem])
  have hEw : Ext w w2 := Ext.trans (by exact extX) hE6
  clear hO6 hE6
  go_wp2
  refine bodyPost_ret (v := .tuple #[.agg #[.int .i64 (rp (form ps u)).c, .slice A6 n6 c6], .bool (form ps u).isSome]) (by simp [results, Try.results34, go_sem, hq0, hq1, hqf]) rfl ?_
  refine ⟨A6, n6, c6, rfl, ?_, by exact extX⟩
  have h3 : OwI w2 w.heap.size A6 n6 c6 (rp (form ps u)).cf := HO6.out.lower (by simp [go_sem]; try omega)
  (repeat' (first | (with_reducible exact h3) | (with_reducible refine OwI.setFar ?_ _ (fun g o s e => ?_))))
  all_goals (have h4 := HB6.out g o s e; simp [go_sem] at h4; show g ≠ w.heap.size + 1; omega)
theorem c_formAtN {ar : List Int} {ps : List Pl} (hs : SigP ar) (h0s : PsAt ar ps 0) (hall : ∀ p ∈ ps, (0 ≤ p.c ∧ p.c ≤ 9) ∧ ∀ x ∈ p.cf, 0 ≤ x ∧ x ≤ 9) : ∀ (N : Nat) (u : Tm), u.flat.length ≤ N → u.Ok ar → (∀ y ∈ u.flat, -24 ≤ y) → FormAtI ar ps u
  | 0, u, h, _, _ => by have := flat_pos u; omega
  | N + 1, .node x us, h, hu, hv => c_formAt hs hu hv h0s hall fun v0 v1 v2 t rest p w h0 h1 h2 hd => by
      rw [← formM_zero]
      exact c_markedForm (h := 0) h0 h1 h2 hd hs hu hv h0s h0s (by omega) hall fun a ha =>
        c_formAtN hs h0s hall N a (by have := mem_flatL_len ha; rw [flat_node, List.length_cons] at h; omega) (OkL_iff.1 (Ok_node.1 hu).2 a ha) (fun y hy => hv y (by rw [flat_node]; exact List.mem_cons_of_mem _ (mem_flatL hy ha)))

end Go.Proofs.Ytljbjabgdalabaa
