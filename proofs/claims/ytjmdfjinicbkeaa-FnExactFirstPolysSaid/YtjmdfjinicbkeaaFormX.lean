/- The comparisons of the reference. -/
import Derived.Test.YtjmdfjinicbkeaaFormW
-- rd: RdPl RdPs
namespace Go.Proofs.Ytjmdfjinicbkeaa
open Go.RowKit
set_option linter.unusedSimpArgs false
set_option linter.unusedVariables false

theorem cmpLess_O (ar : List Int) (ps : List Pl) (s t : List Int) : (polyArgs ar ps s t && cmpLess (form ps (tmOf ar s)) (form ps (tmOf ar t))) = cmpLess (formO ar ps s) (formO ar ps t) := by
  unfold polyArgs formO
  cases polysOk ar ps <;> cases termOk ar s <;> cases termOk ar t <;> simp [cmpLess]
theorem cmpMost_O (ar : List Int) (ps : List Pl) (s t : List Int) : (polyArgs ar ps s t && cmpMost (form ps (tmOf ar s)) (form ps (tmOf ar t))) = cmpMost (formO ar ps s) (formO ar ps t) := by
  unfold polyArgs formO
  cases polysOk ar ps <;> cases termOk ar s <;> cases termOk ar t <;> simp [cmpMost]
theorem Fm.nn {f : Pl} (h : Fm f) : ∀ y ∈ f.cf, 0 ≤ y := fun y hy => (h.1.2 y hy).1
set_option maxRecDepth 100000 in
set_option maxHeartbeats 2000000 in
theorem c_sPolyLess {v0 v1 v2 v3 : Value} {ar : List Int} {ps : List Pl} {s t : List Int} {w : World} (h0 : RdSig w v0 ar) (h1 : RdPs w v1 ps) (h2 : RdIc w v2 s) (h3 : RdIc w v3 t) :
    Calls Try.prog 92 #[v0, v1, v2, v3] w fun e w' => e = .returned (.bool (polyArgs ar ps s t && cmpLess (form ps (tmOf ar s)) (form ps (tmOf ar t)))) ∧ Ext w w' := by
  rw [cmpLess_O]
  obtain ⟨A, n, c, rfl, ha⟩ := h0
  obtain ⟨B, m, d, rfl, hb⟩ := h1
  obtain ⟨D, q, l, rfl, hcap, hd⟩ := h2
  obtain ⟨F, q', l', rfl, hcap', hf⟩ := h3
  have HA := Lib.hid ha
  have HB := Lib.hid hb
  have HD := Lib.hid hd
  have HF := Lib.hid hf
  have HCP := Lib.hid hcap
  have HCP' := Lib.hid hcap'
  clear ha hb hd hf hcap hcap'
  obtain ⟨oa, hoa⟩ : ∃ oa, oa = formO ar ps s := ⟨_, rfl⟩
  obtain ⟨ob, hob⟩ : ∃ ob, ob = formO ar ps t := ⟨_, rfl⟩
  rw [← hoa, ← hob]
  have HOA := Lib.hid hoa
  have HOB := Lib.hid hob
  clear hoa hob
  go_enter Try.func92, Try.ntmps92
  go_wp2_with fail
  (with_reducible refine (c_sFormOf (t := s) (RdSig.mk (RI.ext HA.out (by exact extX))) (RdPs.mk (RP.ext HB.out (by exact extX))) (RdIc.mk HCP.out (RI.ext HD.out (by exact extX)))).mono ?_)
  rw [← HOA.out]
  rintro e2 w2 ⟨A2, n2, c2, rfl, hO2, hE2⟩
  have HL2 := Lib.hid hO2.ri
  have hs0 : w2.cell? ⟨w.heap.size, 0, none⟩ = some (.slice A n c) := Ext.keep hE2 (by simp [go_sem])
  have hEw2 : Ext w w2 := Ext.trans (by exact extX) hE2
  have hlt2 : w.heap.size < w2.heap.size := World.block_lt_of_cell? w2 _ hs0
  clear hO2 hE2
  go_wp2_with fail
  obtain ⟨wq, hwq⟩ : ∃ wq, wq = w2.alloc (.cells #[.int .i64 (rp oa).c, .slice A2 n2 c2] 90) := ⟨_, rfl⟩
  have hg0 : wq.cell? ⟨w2.heap.size, 0, none⟩ = some (.int .i64 (rp oa).c) := by rw [hwq]; simp [go_sem]
  have hg1 : wq.cell? ⟨w2.heap.size, 1, none⟩ = some (.slice A2 n2 c2) := by rw [hwq]; simp [go_sem]
  have hEq : Ext w2 wq := by rw [hwq]; exact (Ext.refl _).alloc _
  rw [← hwq]
  clear hwq
  have hEwq : Ext w wq := Ext.trans hEw2 hEq
  (with_reducible refine (c_sFormOf (t := t) (RdSig.mk (RI.ext HA.out hEwq)) (RdPs.mk (RP.ext HB.out hEwq)) (RdIc.mk HCP'.out (RI.ext HF.out hEwq))).mono ?_)
  rw [← HOB.out]
  rintro e3 w3 ⟨A3, n3, c3, rfl, hO3, hE3⟩
  have HL3 := Lib.hid hO3.ri
  have hk0 := Ext.keep hE3 hg0
  have hk1 := Ext.keep hE3 hg1
  have hkl : w2.heap.size < w3.heap.size := World.block_lt_of_cell? w3 _ hk0
  have hE23 : Ext w2 w3 := Ext.trans hEq hE3
  have hEw3 : Ext w w3 := Ext.trans hEwq hE3
  clear hO3 hg0 hg1
  cases oa with
  | none =>
    go_wp2
    go_ret
    exact ⟨rfl, by exact extX⟩
  | some a =>
    cases ob with
    | none =>
      go_wp2
      go_ret
      exact ⟨rfl, by exact extX⟩
    | some b =>
      have HNN := Lib.hid (Fm.nn (formO_fm HOB.out.symm))
      have e1 : (rp (some a)).c = a.c := rfl
      have e2 : (rp (some b)).c = b.c := rfl
      rw [e1] at hk0
      by_cases hlt : a.c < b.c
      · have hd0 : decide (a.c < b.c) = true := by simpa using hlt
        go_wp2_with (go_at_call 116; (with_reducible refine (c_l15Most (a := a) (b := b) (RdPl.mk (RI.ext HL2.out (by exact extX))) (RdPl.mk (RI.ext HL3.out (by exact extX))) HNN.out).mono ?_); rintro e4 w4 ⟨rfl, hE4⟩)
        go_ret
        exact ⟨ret_bool (by simp [cmpLess, hlt]), by exact extX⟩
      · have hd0 : decide (a.c < b.c) = false := by simpa using hlt
        go_wp2
        go_ret
        exact ⟨ret_bool (by simp [cmpLess, hlt]), by exact extX⟩

end Go.Proofs.Ytjmdfjinicbkeaa
