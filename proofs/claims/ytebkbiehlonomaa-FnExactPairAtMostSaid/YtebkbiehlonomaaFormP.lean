/- Pairs by their head forms. -/
import Derived.Test.YtebkbiehlonomaaFormZ
import Derived.Test.YtebkbiehlonomaaDepT
-- rd: RdPc RdPl RdPs
namespace Go.Proofs.Ytebkbiehlonomaa
open Go.RowKit
set_option linter.unusedSimpArgs false
set_option linter.unusedVariables false

theorem RdPc.ext {w w' : World} {v : Value} {ps : List Pl} (h : RdPc w v ps) (k : Ext w w') : RdPc w' v ps := by
  obtain ⟨A, n, c, e, h1, h2, h3⟩ := h; exact ⟨A, n, c, e, h1, h2, RP.ext h3 k⟩
def NewPc (w : World) (ps : List Pl) (e : Ending) (w' : World) : Prop := NewPs w ps e w'
theorem NewPc.out {w w' : World} {ps : List Pl} {e : Ending} (h : NewPc w ps e w') : ∃ v, e = .returned v ∧ RdPc w' v ps ∧ Ext w w' := by
  obtain ⟨A, n, e, h1, h2⟩ := h
  exact ⟨_, e, RdPc.mk h1.rp, h2⟩
theorem c_toPolySc {v : Value} {ps : List Pl} {w : World} (h0 : RdPs w v ps) : Calls Try.prog 13 #[v] w (NewPc w ps) := c_toPolyS h0
set_option maxRecDepth 100000 in
set_option maxHeartbeats 2000000 in
theorem c_sPairLess {v0 v1 v2 : Value} {ar : List Int} {ps : List Pl} {p : DepP} {w : World} (h0 : RdSig w v0 ar) (h1 : RdPc w v1 ps) (h2 : RdDp w v2 p) :
    Calls Try.prog 32 #[v0, v1, v2] w fun e w' => e = .returned (.bool (cmpLess (headO ar ps p.r) (headO ar ps p.l))) ∧ Ext w w' := by
  obtain ⟨A, n, c, rfl, ha⟩ := h0
  obtain ⟨B, m, d, rfl, hmd, hd63, hb⟩ := h1
  obtain ⟨D, q, l, F, q', l', rfl, hcap, hcap', hd, hf⟩ := h2
  have HA := Lib.hid ha
  have HB := Lib.hid hb
  have HD := Lib.hid hd
  have HF := Lib.hid hf
  have HCP := Lib.hid hcap
  have HCP' := Lib.hid hcap'
  clear ha hb hd hf hcap hcap'
  obtain ⟨oa, hoa⟩ : ∃ oa, oa = headO ar ps p.r := ⟨_, rfl⟩
  obtain ⟨ob, hob⟩ : ∃ ob, ob = headO ar ps p.l := ⟨_, rfl⟩
  rw [← hoa, ← hob]
  have HOA := Lib.hid hoa
  have HOB := Lib.hid hob
  clear hoa hob
  go_enter Try.func32, Try.ntmps32
  go_wp2_with fail
  obtain ⟨w0, hw0⟩ : ∃ w0, w0 = (w.alloc (.cells #[.slice A n c] 29)).alloc (.cells #[.slice D q l, .slice F q' l', .int .i64 p.rule, .int .i64 p.at_] 54) := ⟨_, rfl⟩
  have hs0 : w0.cell? ⟨w.heap.size, 0, none⟩ = some (.slice A n c) := by rw [hw0]; simp [go_sem]
  have hs1 : w0.cell? ⟨w.heap.size + 1, 0, none⟩ = some (.slice D q l) := by rw [hw0]; simp [go_sem]
  have hE0 : Ext w w0 := by rw [hw0]; (repeat' (first | (with_reducible exact Ext.refl _) | (with_reducible assumption) | (with_reducible refine Ext.alloc ?_ _) | (with_reducible refine Ext.set ?_ ?_ _) | (with_reducible refine Ext.drewN ?_ _) | (with_reducible refine Ext.drew ?_) | (with_reducible refine Ext.trans ?_ (by with_reducible assumption)) | go_size))
  rw [← hw0]
  clear hw0
  (with_reducible refine (c_sHeadForm (t := p.r) (RdSig.mk (RI.ext HA.out hE0)) (RdPc.mkc hmd hd63 (RP.ext HB.out hE0)) (RdIc.mk HCP'.out (RI.ext HF.out hE0))).mono ?_)
  rw [← HOA.out]
  rintro e2 w2 ⟨A2, n2, c2, rfl, hO2, hE2⟩
  have HL2 := Lib.hid hO2.ri
  have hs2 := Ext.keep hE2 hs0
  have hs3 := Ext.keep hE2 hs1
  have hEw2 : Ext w w2 := Ext.trans hE0 hE2
  have hlt2 : w.heap.size < w2.heap.size := World.block_lt_of_cell? w2 _ hs2
  have hlt3 : w.heap.size + 1 < w2.heap.size := World.block_lt_of_cell? w2 _ hs3
  clear hO2 hE2 hs0 hs1 hE0
  go_wp2_with fail
  obtain ⟨wq, hwq⟩ : ∃ wq, wq = w2.alloc (.cells #[.int .i64 (rp oa).c, .slice A2 n2 c2] 39) := ⟨_, rfl⟩
  have hg0 : wq.cell? ⟨w2.heap.size, 0, none⟩ = some (.int .i64 (rp oa).c) := by rw [hwq]; simp [go_sem]
  have hg1 : wq.cell? ⟨w2.heap.size, 1, none⟩ = some (.slice A2 n2 c2) := by rw [hwq]; simp [go_sem]
  have hEq : Ext w2 wq := by rw [hwq]; exact (Ext.refl _).alloc _
  rw [← hwq]
  clear hwq
  have hEwq : Ext w wq := Ext.trans hEw2 hEq
  (with_reducible refine (c_sHeadForm (t := p.l) (RdSig.mk (RI.ext HA.out hEwq)) (RdPc.mkc hmd hd63 (RP.ext HB.out hEwq)) (RdIc.mk HCP.out (RI.ext HD.out hEwq))).mono ?_)
  rw [← HOB.out]
  rintro e3 w3 ⟨A3, n3, c3, rfl, hO3, hE3⟩
  have HL3 := Lib.hid hO3.ri
  have hk0 := Ext.keep hE3 hg0
  have hk1 := Ext.keep hE3 hg1
  have hkl : w2.heap.size < w3.heap.size := World.block_lt_of_cell? w3 _ hk0
  have hE23 : Ext w2 w3 := Ext.trans hEq hE3
  have hEw3 : Ext w w3 := Ext.trans hEwq hE3
  clear hO3 hg0 hg1
  cases oa with
  | none =>
    go_wp2
    go_ret
    exact ⟨rfl, by (repeat' (first | (with_reducible exact Ext.refl _) | (with_reducible assumption) | (with_reducible refine Ext.alloc ?_ _) | (with_reducible refine Ext.set ?_ ?_ _) | (with_reducible refine Ext.drewN ?_ _) | (with_reducible refine Ext.drew ?_) | (with_reducible refine Ext.trans ?_ (by with_reducible assumption)) | go_size))⟩
  | some a =>
    cases ob with
    | none =>
      go_wp2
      go_ret
      exact ⟨rfl, by (repeat' (first | (with_reducible exact Ext.refl _) | (with_reducible assumption) | (with_reducible refine Ext.alloc ?_ _) | (with_reducible refine Ext.set ?_ ?_ _) | (with_reducible refine Ext.drewN ?_ _) | (with_reducible refine Ext.drew ?_) | (with_reducible refine Ext.trans ?_ (by with_reducible assumption)) | go_size))⟩
    | some b =>
      have HNN := Lib.hid (Fm.nn (headO_fm HOB.out.symm))
      have e1 : (rp (some a)).c = a.c := rfl
      have e2 : (rp (some b)).c = b.c := rfl
      rw [e1] at hk0
      by_cases hlt : a.c < b.c
      · have hd0 : decide (a.c < b.c) = true := by simpa using hlt
        go_wp2_with (go_at_call 40; (with_reducible refine (c_l15Most (a := a) (b := b) (RdPl.mk (RI.ext HL2.out (by (repeat' (first | (with_reducible exact Ext.refl _) | (with_reducible assumption) | (with_reducible refine Ext.alloc ?_ _) | (with_reducible refine Ext.set ?_ ?_ _) | (with_reducible refine Ext.drewN ?_ _) | (with_reducible refine Ext.drew ?_) | (with_reducible refine Ext.trans ?_ (by with_reducible assumption)) | go_size))))) (RdPl.mk (RI.ext HL3.out (by (repeat' (first | (with_reducible exact Ext.refl _) | (with_reducible assumption) | (with_reducible refine Ext.alloc ?_ _) | (with_reducible refine Ext.set ?_ ?_ _) | (with_reducible refine Ext.drewN ?_ _) | (with_reducible refine Ext.drew ?_) | (with_reducible refine Ext.trans ?_ (by with_reducible assumption)) | go_size))))) HNN.out).mono ?_); rintro e4 w4 ⟨rfl, hE4⟩)
        go_ret
        exact ⟨ret_bool (by simp [cmpLess, hlt]), by (repeat' (first | (with_reducible exact Ext.refl _) | (with_reducible assumption) | (with_reducible refine Ext.alloc ?_ _) | (with_reducible refine Ext.set ?_ ?_ _) | (with_reducible refine Ext.drewN ?_ _) | (with_reducible refine Ext.drew ?_) | (with_reducible refine Ext.trans ?_ (by with_reducible assumption)) | go_size))⟩
      · have hd0 : decide (a.c < b.c) = false := by simpa using hlt
        go_wp2
        go_ret
        exact ⟨ret_bool (by simp [cmpLess, hlt]), by (repeat' (first | (with_reducible exact Ext.refl _) | (with_reducible assumption) | (with_reducible refine Ext.alloc ?_ _) | (with_reducible refine Ext.set ?_ ?_ _) | (with_reducible refine Ext.drewN ?_ _) | (with_reducible refine Ext.drew ?_) | (with_reducible refine Ext.trans ?_ (by with_reducible assumption)) | go_size))⟩
set_option maxRecDepth 100000 in
set_option maxHeartbeats 2000000 in
theorem c_sPairAtMost {v0 v1 v2 : Value} {ar : List Int} {ps : List Pl} {p : DepP} {w : World} (h0 : RdSig w v0 ar) (h1 : RdPc w v1 ps) (h2 : RdDp w v2 p) :
    Calls Try.prog 36 #[v0, v1, v2] w fun e w' => e = .returned (.bool (cmpMost (headO ar ps p.r) (headO ar ps p.l))) ∧ Ext w w' := by
  obtain ⟨A, n, c, rfl, ha⟩ := h0
  obtain ⟨B, m, d, rfl, hmd, hd63, hb⟩ := h1
  obtain ⟨D, q, l, F, q', l', rfl, hcap, hcap', hd, hf⟩ := h2
  have HA := Lib.hid ha
  have HB := Lib.hid hb
  have HD := Lib.hid hd
  have HF := Lib.hid hf
  have HCP := Lib.hid hcap
  have HCP' := Lib.hid hcap'
  clear ha hb hd hf hcap hcap'
  obtain ⟨oa, hoa⟩ : ∃ oa, oa = headO ar ps p.r := ⟨_, rfl⟩
  obtain ⟨ob, hob⟩ : ∃ ob, ob = headO ar ps p.l := ⟨_, rfl⟩
  rw [← hoa, ← hob]
  have HOA := Lib.hid hoa
  have HOB := Lib.hid hob
  clear hoa hob
  go_enter Try.func36, Try.ntmps36
  go_wp2_with fail
  obtain ⟨w0, hw0⟩ : ∃ w0, w0 = (w.alloc (.cells #[.slice A n c] 29)).alloc (.cells #[.slice D q l, .slice F q' l', .int .i64 p.rule, .int .i64 p.at_] 54) := ⟨_, rfl⟩
  have hs0 : w0.cell? ⟨w.heap.size, 0, none⟩ = some (.slice A n c) := by rw [hw0]; simp [go_sem]
  have hs1 : w0.cell? ⟨w.heap.size + 1, 0, none⟩ = some (.slice D q l) := by rw [hw0]; simp [go_sem]
  have hE0 : Ext w w0 := by rw [hw0]; (repeat' (first | (with_reducible exact Ext.refl _) | (with_reducible assumption) | (with_reducible refine Ext.alloc ?_ _) | (with_reducible refine Ext.set ?_ ?_ _) | (with_reducible refine Ext.drewN ?_ _) | (with_reducible refine Ext.drew ?_) | (with_reducible refine Ext.trans ?_ (by with_reducible assumption)) | go_size))
  rw [← hw0]
  clear hw0
  (with_reducible refine (c_sHeadForm (t := p.r) (RdSig.mk (RI.ext HA.out hE0)) (RdPc.mkc hmd hd63 (RP.ext HB.out hE0)) (RdIc.mk HCP'.out (RI.ext HF.out hE0))).mono ?_)
  rw [← HOA.out]
  rintro e2 w2 ⟨A2, n2, c2, rfl, hO2, hE2⟩
  have HL2 := Lib.hid hO2.ri
  have hs2 := Ext.keep hE2 hs0
  have hs3 := Ext.keep hE2 hs1
  have hEw2 : Ext w w2 := Ext.trans hE0 hE2
  have hlt2 : w.heap.size < w2.heap.size := World.block_lt_of_cell? w2 _ hs2
  have hlt3 : w.heap.size + 1 < w2.heap.size := World.block_lt_of_cell? w2 _ hs3
  clear hO2 hE2 hs0 hs1 hE0
  go_wp2_with fail
  obtain ⟨wq, hwq⟩ : ∃ wq, wq = w2.alloc (.cells #[.int .i64 (rp oa).c, .slice A2 n2 c2] 39) := ⟨_, rfl⟩
  have hg0 : wq.cell? ⟨w2.heap.size, 0, none⟩ = some (.int .i64 (rp oa).c) := by rw [hwq]; simp [go_sem]
  have hg1 : wq.cell? ⟨w2.heap.size, 1, none⟩ = some (.slice A2 n2 c2) := by rw [hwq]; simp [go_sem]
  have hEq : Ext w2 wq := by rw [hwq]; exact (Ext.refl _).alloc _
  rw [← hwq]
  clear hwq
  have hEwq : Ext w wq := Ext.trans hEw2 hEq
  (with_reducible refine (c_sHeadForm (t := p.l) (RdSig.mk (RI.ext HA.out hEwq)) (RdPc.mkc hmd hd63 (RP.ext HB.out hEwq)) (RdIc.mk HCP.out (RI.ext HD.out hEwq))).mono ?_)
  rw [← HOB.out]
  rintro e3 w3 ⟨A3, n3, c3, rfl, hO3, hE3⟩
  have HL3 := Lib.hid hO3.ri
  have hk0 := Ext.keep hE3 hg0
  have hk1 := Ext.keep hE3 hg1
  have hkl : w2.heap.size < w3.heap.size := World.block_lt_of_cell? w3 _ hk0
  have hE23 : Ext w2 w3 := Ext.trans hEq hE3
  have hEw3 : Ext w w3 := Ext.trans hEwq hE3
  clear hO3 hg0 hg1
  cases oa with
  | none =>
    go_wp2
    go_ret
    exact ⟨rfl, by (repeat' (first | (with_reducible exact Ext.refl _) | (with_reducible assumption) | (with_reducible refine Ext.alloc ?_ _) | (with_reducible refine Ext.set ?_ ?_ _) | (with_reducible refine Ext.drewN ?_ _) | (with_reducible refine Ext.drew ?_) | (with_reducible refine Ext.trans ?_ (by with_reducible assumption)) | go_size))⟩
  | some a =>
    cases ob with
    | none =>
      go_wp2
      go_ret
      exact ⟨rfl, by (repeat' (first | (with_reducible exact Ext.refl _) | (with_reducible assumption) | (with_reducible refine Ext.alloc ?_ _) | (with_reducible refine Ext.set ?_ ?_ _) | (with_reducible refine Ext.drewN ?_ _) | (with_reducible refine Ext.drew ?_) | (with_reducible refine Ext.trans ?_ (by with_reducible assumption)) | go_size))⟩
    | some b =>
      have HNN := Lib.hid (Fm.nn (headO_fm HOB.out.symm))
      have e1 : (rp (some a)).c = a.c := rfl
      have e2 : (rp (some b)).c = b.c := rfl
      rw [e1] at hk0
      by_cases hlt : a.c ≤ b.c
      · have hd0 : decide (a.c ≤ b.c) = true := by simpa using hlt
        go_wp2_with (go_at_call 40; (with_reducible refine (c_l15Most (a := a) (b := b) (RdPl.mk (RI.ext HL2.out (by (repeat' (first | (with_reducible exact Ext.refl _) | (with_reducible assumption) | (with_reducible refine Ext.alloc ?_ _) | (with_reducible refine Ext.set ?_ ?_ _) | (with_reducible refine Ext.drewN ?_ _) | (with_reducible refine Ext.drew ?_) | (with_reducible refine Ext.trans ?_ (by with_reducible assumption)) | go_size))))) (RdPl.mk (RI.ext HL3.out (by (repeat' (first | (with_reducible exact Ext.refl _) | (with_reducible assumption) | (with_reducible refine Ext.alloc ?_ _) | (with_reducible refine Ext.set ?_ ?_ _) | (with_reducible refine Ext.drewN ?_ _) | (with_reducible refine Ext.drew ?_) | (with_reducible refine Ext.trans ?_ (by with_reducible assumption)) | go_size))))) HNN.out).mono ?_); rintro e4 w4 ⟨rfl, hE4⟩)
        go_ret
        exact ⟨ret_bool (by simp [cmpMost, hlt]), by (repeat' (first | (with_reducible exact Ext.refl _) | (with_reducible assumption) | (with_reducible refine Ext.alloc ?_ _) | (with_reducible refine Ext.set ?_ ?_ _) | (with_reducible refine Ext.drewN ?_ _) | (with_reducible refine Ext.drew ?_) | (with_reducible refine Ext.trans ?_ (by with_reducible assumption)) | go_size))⟩
      · have hd0 : decide (a.c ≤ b.c) = false := by simpa using hlt
        go_wp2
        go_ret
        exact ⟨ret_bool (by simp [cmpMost, hlt]), by (repeat' (first | (with_reducible exact Ext.refl _) | (with_reducible assumption) | (with_reducible refine Ext.alloc ?_ _) | (with_reducible refine Ext.set ?_ ?_ _) | (with_reducible refine Ext.drewN ?_ _) | (with_reducible refine Ext.drew ?_) | (with_reducible refine Ext.trans ?_ (by with_reducible assumption)) | go_size))⟩
set_option maxRecDepth 100000 in
set_option maxHeartbeats 2000000 in
theorem c_comparePair {v0 v1 v2 : Value} {ar : List Int} {ps : List Pl} {p : DepP} {w : World} (h0 : RdSig w v0 ar) (h1 : RdPc w v1 ps) (h2 : RdDp w v2 p) :
    Calls Try.prog 54 #[v0, v1, v2] w fun e w' => e = .returned (.tuple #[.bool (cmpMost (headO ar ps p.r) (headO ar ps p.l)), .bool (cmpLess (headO ar ps p.r) (headO ar ps p.l))]) ∧ Ext w w' := by
  obtain ⟨A, n, c, rfl, ha⟩ := h0
  obtain ⟨B, m, d, rfl, hmd, hd63, hb⟩ := h1
  obtain ⟨D, q, l, F, q', l', rfl, hcap, hcap', hd, hf⟩ := h2
  have HA := Lib.hid ha
  have HB := Lib.hid hb
  have HD := Lib.hid hd
  have HF := Lib.hid hf
  have HCP := Lib.hid hcap
  have HCP' := Lib.hid hcap'
  clear ha hb hd hf hcap hcap'
  obtain ⟨oa, hoa⟩ : ∃ oa, oa = headO ar ps p.r := ⟨_, rfl⟩
  obtain ⟨ob, hob⟩ : ∃ ob, ob = headO ar ps p.l := ⟨_, rfl⟩
  rw [← hoa, ← hob]
  have HOA := Lib.hid hoa
  have HOB := Lib.hid hob
  clear hoa hob
  go_enter Try.func54, Try.ntmps54
  go_wp2_with fail
  obtain ⟨w0, hw0⟩ : ∃ w0, w0 = (w.alloc (.cells #[.slice A n c] 29)).alloc (.cells #[.slice D q l, .slice F q' l', .int .i64 p.rule, .int .i64 p.at_] 54) := ⟨_, rfl⟩
  have hs0 : w0.cell? ⟨w.heap.size, 0, none⟩ = some (.slice A n c) := by rw [hw0]; simp [go_sem]
  have hs1 : w0.cell? ⟨w.heap.size + 1, 0, none⟩ = some (.slice D q l) := by rw [hw0]; simp [go_sem]
  have hE0 : Ext w w0 := by rw [hw0]; (repeat' (first | (with_reducible exact Ext.refl _) | (with_reducible assumption) | (with_reducible refine Ext.alloc ?_ _) | (with_reducible refine Ext.set ?_ ?_ _) | (with_reducible refine Ext.drewN ?_ _) | (with_reducible refine Ext.drew ?_) | (with_reducible refine Ext.trans ?_ (by with_reducible assumption)) | go_size))
  rw [← hw0]
  clear hw0
  (with_reducible refine (c_iHeadForm (t := p.r) (RdSig.mk (RI.ext HA.out hE0)) (RdPc.mkc hmd hd63 (RP.ext HB.out hE0)) (RdI.mk (RI.ext HF.out hE0))).mono ?_)
  rw [← HOA.out]
  rintro e2 w2 ⟨A2, n2, c2, rfl, hO2, hE2⟩
  have HL2 := Lib.hid hO2.ri
  have hs2 := Ext.keep hE2 hs0
  have hs3 := Ext.keep hE2 hs1
  have hEw2 : Ext w w2 := Ext.trans hE0 hE2
  have hlt2 : w.heap.size < w2.heap.size := World.block_lt_of_cell? w2 _ hs2
  have hlt3 : w.heap.size + 1 < w2.heap.size := World.block_lt_of_cell? w2 _ hs3
  clear hO2 hE2 hs0 hs1 hE0
  go_wp2_with fail
  obtain ⟨wq, hwq⟩ : ∃ wq, wq = w2.alloc (.cells #[.int .i64 (rp oa).c, .slice A2 n2 c2] 39) := ⟨_, rfl⟩
  have hg0 : wq.cell? ⟨w2.heap.size, 0, none⟩ = some (.int .i64 (rp oa).c) := by rw [hwq]; simp [go_sem]
  have hg1 : wq.cell? ⟨w2.heap.size, 1, none⟩ = some (.slice A2 n2 c2) := by rw [hwq]; simp [go_sem]
  have hEq : Ext w2 wq := by rw [hwq]; exact (Ext.refl _).alloc _
  rw [← hwq]
  clear hwq
  have hEwq : Ext w wq := Ext.trans hEw2 hEq
  (with_reducible refine (c_iHeadForm (t := p.l) (RdSig.mk (RI.ext HA.out hEwq)) (RdPc.mkc hmd hd63 (RP.ext HB.out hEwq)) (RdI.mk (RI.ext HD.out hEwq))).mono ?_)
  rw [← HOB.out]
  rintro e3 w3 ⟨A3, n3, c3, rfl, hO3, hE3⟩
  have HL3 := Lib.hid hO3.ri
  have hk0 := Ext.keep hE3 hg0
  have hk1 := Ext.keep hE3 hg1
  have hkl : w2.heap.size < w3.heap.size := World.block_lt_of_cell? w3 _ hk0
  have hE23 : Ext w2 w3 := Ext.trans hEq hE3
  have hEw3 : Ext w w3 := Ext.trans hEwq hE3
  clear hO3 hg0 hg1
  cases oa with
  | none =>
    go_wp2
    go_ret2
    exact ⟨rfl, by (repeat' (first | (with_reducible exact Ext.refl _) | (with_reducible assumption) | (with_reducible refine Ext.alloc ?_ _) | (with_reducible refine Ext.set ?_ ?_ _) | (with_reducible refine Ext.drewN ?_ _) | (with_reducible refine Ext.drew ?_) | (with_reducible refine Ext.trans ?_ (by with_reducible assumption)) | go_size))⟩
  | some a =>
    cases ob with
    | none =>
      go_wp2
      go_ret2
      exact ⟨rfl, by (repeat' (first | (with_reducible exact Ext.refl _) | (with_reducible assumption) | (with_reducible refine Ext.alloc ?_ _) | (with_reducible refine Ext.set ?_ ?_ _) | (with_reducible refine Ext.drewN ?_ _) | (with_reducible refine Ext.drew ?_) | (with_reducible refine Ext.trans ?_ (by with_reducible assumption)) | go_size))⟩
    | some b =>
      go_wp2_with (go_at_call 55; (with_reducible refine (c_atMost (a := rp (some a)) (b := rp (some b)) (RdPl.mk (RI.ext HL2.out (by (repeat' (first | (with_reducible exact Ext.refl _) | (with_reducible assumption) | (with_reducible refine Ext.alloc ?_ _) | (with_reducible refine Ext.set ?_ ?_ _) | (with_reducible refine Ext.drewN ?_ _) | (with_reducible refine Ext.drew ?_) | (with_reducible refine Ext.trans ?_ (by with_reducible assumption)) | go_size))))) (RdPl.mk (RI.ext HL3.out (by (repeat' (first | (with_reducible exact Ext.refl _) | (with_reducible assumption) | (with_reducible refine Ext.alloc ?_ _) | (with_reducible refine Ext.set ?_ ?_ _) | (with_reducible refine Ext.drewN ?_ _) | (with_reducible refine Ext.drew ?_) | (with_reducible refine Ext.trans ?_ (by with_reducible assumption)) | go_size)))))).mono ?_); rintro e4 w4 ⟨rfl, hE4⟩)
      go_ret2
      exact ⟨rfl, by (repeat' (first | (with_reducible exact Ext.refl _) | (with_reducible assumption) | (with_reducible refine Ext.alloc ?_ _) | (with_reducible refine Ext.set ?_ ?_ _) | (with_reducible refine Ext.drewN ?_ _) | (with_reducible refine Ext.drew ?_) | (with_reducible refine Ext.trans ?_ (by with_reducible assumption)) | go_size))⟩
set_option maxHeartbeats 1000000 in
theorem c_iPairLess {v0 v1 v2 : Value} {ar : List Int} {ps : List Pl} {p : DepP} {w : World} (h0 : RdSig w v0 ar) (h1 : RdPc w v1 ps) (h2 : RdDp w v2 p) :
    Calls Try.prog 34 #[v0, v1, v2] w fun e w' => e = .returned (.bool (cmpLess (headO ar ps p.r) (headO ar ps p.l))) ∧ Ext w w' := by
  obtain ⟨A, n, c, rfl, ha⟩ := h0
  obtain ⟨B, m, d, rfl, hmd, hd63, hb⟩ := h1
  obtain ⟨D, q, l, F, q', l', rfl, hcap, hcap', hd, hf⟩ := h2
  have HA := Lib.hid ha
  have HB := Lib.hid hb
  have HD := Lib.hid hd
  have HF := Lib.hid hf
  have HCP := Lib.hid hcap
  have HCP' := Lib.hid hcap'
  clear ha hb hd hf hcap hcap'
  go_enter Try.func34, Try.ntmps34
  go_wp2_with (go_at_call 54; (with_reducible refine (c_comparePair (ar := ar) (ps := ps) (p := p) (RdSig.mk (RI.ext HA.out (by (repeat' (first | (with_reducible exact Ext.refl _) | (with_reducible assumption) | (with_reducible refine Ext.alloc ?_ _) | (with_reducible refine Ext.set ?_ ?_ _) | (with_reducible refine Ext.drewN ?_ _) | (with_reducible refine Ext.drew ?_) | (with_reducible refine Ext.trans ?_ (by with_reducible assumption)) | go_size))))) (RdPc.mkc hmd hd63 (RP.ext HB.out (by (repeat' (first | (with_reducible exact Ext.refl _) | (with_reducible assumption) | (with_reducible refine Ext.alloc ?_ _) | (with_reducible refine Ext.set ?_ ?_ _) | (with_reducible refine Ext.drewN ?_ _) | (with_reducible refine Ext.drew ?_) | (with_reducible refine Ext.trans ?_ (by with_reducible assumption)) | go_size))))) (RdDp.mk HCP.out HCP'.out (RI.ext HD.out (by (repeat' (first | (with_reducible exact Ext.refl _) | (with_reducible assumption) | (with_reducible refine Ext.alloc ?_ _) | (with_reducible refine Ext.set ?_ ?_ _) | (with_reducible refine Ext.drewN ?_ _) | (with_reducible refine Ext.drew ?_) | (with_reducible refine Ext.trans ?_ (by with_reducible assumption)) | go_size)))) (RI.ext HF.out (by (repeat' (first | (with_reducible exact Ext.refl _) | (with_reducible assumption) | (with_reducible refine Ext.alloc ?_ _) | (with_reducible refine Ext.set ?_ ?_ _) | (with_reducible refine Ext.drewN ?_ _) | (with_reducible refine Ext.drew ?_) | (with_reducible refine Ext.trans ?_ (by with_reducible assumption)) | go_size)))))).mono ?_); rintro e w1 ⟨rfl, hE1⟩; have hz1 := sz_of hE1; (try simp only [World.size_alloc, World.size_setCell, World.size_drew] at hz1); obtain ⟨hc1, hf1⟩ := bcell hE1; (try have hq1_0 : w.heap.size < w1.heap.size := by omega); (try have hq1_1 : w.heap.size + 1 < w1.heap.size := by omega); (try have hq1_2 : w.heap.size + 1 + 1 < w1.heap.size := by omega); (try have hq1_3 : w.heap.size + 1 + 1 + 1 < w1.heap.size := by omega); (try have hq1_4 : w.heap.size + 1 + 1 + 1 + 1 < w1.heap.size := by omega); (try have hq1_5 : w.heap.size + 1 + 1 + 1 + 1 + 1 < w1.heap.size := by omega))
  go_ret
  exact ⟨rfl, by (repeat' (first | (with_reducible exact Ext.refl _) | (with_reducible assumption) | (with_reducible refine Ext.alloc ?_ _) | (with_reducible refine Ext.set ?_ ?_ _) | (with_reducible refine Ext.drewN ?_ _) | (with_reducible refine Ext.drew ?_) | (with_reducible refine Ext.trans ?_ (by with_reducible assumption)) | go_size))⟩
set_option maxHeartbeats 1000000 in
theorem c_iPairAtMost {v0 v1 v2 : Value} {ar : List Int} {ps : List Pl} {p : DepP} {w : World} (h0 : RdSig w v0 ar) (h1 : RdPc w v1 ps) (h2 : RdDp w v2 p) :
    Calls Try.prog 37 #[v0, v1, v2] w fun e w' => e = .returned (.bool (cmpMost (headO ar ps p.r) (headO ar ps p.l))) ∧ Ext w w' := by
  obtain ⟨A, n, c, rfl, ha⟩ := h0
  obtain ⟨B, m, d, rfl, hmd, hd63, hb⟩ := h1
  obtain ⟨D, q, l, F, q', l', rfl, hcap, hcap', hd, hf⟩ := h2
  have HA := Lib.hid ha
  have HB := Lib.hid hb
  have HD := Lib.hid hd
  have HF := Lib.hid hf
  have HCP := Lib.hid hcap
  have HCP' := Lib.hid hcap'
  clear ha hb hd hf hcap hcap'
  go_enter Try.func37, Try.ntmps37
  go_wp2_with (go_at_call 54; (with_reducible refine (c_comparePair (ar := ar) (ps := ps) (p := p) (RdSig.mk (RI.ext HA.out (by (repeat' (first | (with_reducible exact Ext.refl _) | (with_reducible assumption) | (with_reducible refine Ext.alloc ?_ _) | (with_reducible refine Ext.set ?_ ?_ _) | (with_reducible refine Ext.drewN ?_ _) | (with_reducible refine Ext.drew ?_) | (with_reducible refine Ext.trans ?_ (by with_reducible assumption)) | go_size))))) (RdPc.mkc hmd hd63 (RP.ext HB.out (by (repeat' (first | (with_reducible exact Ext.refl _) | (with_reducible assumption) | (with_reducible refine Ext.alloc ?_ _) | (with_reducible refine Ext.set ?_ ?_ _) | (with_reducible refine Ext.drewN ?_ _) | (with_reducible refine Ext.drew ?_) | (with_reducible refine Ext.trans ?_ (by with_reducible assumption)) | go_size))))) (RdDp.mk HCP.out HCP'.out (RI.ext HD.out (by (repeat' (first | (with_reducible exact Ext.refl _) | (with_reducible assumption) | (with_reducible refine Ext.alloc ?_ _) | (with_reducible refine Ext.set ?_ ?_ _) | (with_reducible refine Ext.drewN ?_ _) | (with_reducible refine Ext.drew ?_) | (with_reducible refine Ext.trans ?_ (by with_reducible assumption)) | go_size)))) (RI.ext HF.out (by (repeat' (first | (with_reducible exact Ext.refl _) | (with_reducible assumption) | (with_reducible refine Ext.alloc ?_ _) | (with_reducible refine Ext.set ?_ ?_ _) | (with_reducible refine Ext.drewN ?_ _) | (with_reducible refine Ext.drew ?_) | (with_reducible refine Ext.trans ?_ (by with_reducible assumption)) | go_size)))))).mono ?_); rintro e w1 ⟨rfl, hE1⟩; have hz1 := sz_of hE1; (try simp only [World.size_alloc, World.size_setCell, World.size_drew] at hz1); obtain ⟨hc1, hf1⟩ := bcell hE1; (try have hq1_0 : w.heap.size < w1.heap.size := by omega); (try have hq1_1 : w.heap.size + 1 < w1.heap.size := by omega); (try have hq1_2 : w.heap.size + 1 + 1 < w1.heap.size := by omega); (try have hq1_3 : w.heap.size + 1 + 1 + 1 < w1.heap.size := by omega); (try have hq1_4 : w.heap.size + 1 + 1 + 1 + 1 < w1.heap.size := by omega); (try have hq1_5 : w.heap.size + 1 + 1 + 1 + 1 + 1 < w1.heap.size := by omega))
  go_ret
  exact ⟨rfl, by (repeat' (first | (with_reducible exact Ext.refl _) | (with_reducible assumption) | (with_reducible refine Ext.alloc ?_ _) | (with_reducible refine Ext.set ?_ ?_ _) | (with_reducible refine Ext.drewN ?_ _) | (with_reducible refine Ext.drew ?_) | (with_reducible refine Ext.trans ?_ (by with_reducible assumption)) | go_size))⟩

end Go.Proofs.Ytebkbiehlonomaa
