/- PolyLess and PolyAtMost of the program. -/
import Derived.Test.YtljbjabgdalabaaFormE
import Derived.Test.YtljbjabgdalabaaPolysOk
import Derived.Test.YtljbjabgdalabaaTermOk
-- rd: RdPl RdPs
namespace Go.Proofs.Ytljbjabgdalabaa
open Go.RowKit
set_option linter.unusedSimpArgs false
set_option linter.unusedVariables false

noncomputable def polyArgs (ar : List Int) (ps : List Pl) (s t : List Int) : Bool := polysOk ar ps && termOk ar s && termOk ar t
theorem polyArgs_iff {ar : List Int} {ps : List Pl} {s t : List Int} : polyArgs ar ps s t = true ↔ polysOk ar ps = true ∧ termOk ar s = true ∧ termOk ar t = true := by
  unfold polyArgs; rw [Bool.and_eq_true, Bool.and_eq_true, and_assoc]
theorem PolysP.at0 {ar : List Int} {ps : List Pl} (h : PolysP ar ps) : PsAt ar ps 0 := by
  intro x a hx
  have hl := arI_lt hx
  have hxa : x < ar.length := by omega
  have hxp : x < ps.length := by rw [h.2.1]; exact hxa
  have hp := h.2.2 x _ _ (List.getElem?_eq_getElem hxp) (List.getElem?_eq_getElem hxa)
  have ha := arI_at (x := (x : Int)) (by omega) (by rw [Int.toNat_natCast]; exact List.getElem?_eq_getElem hxa)
  rw [hx] at ha
  injection ha with ha
  exact ⟨_, List.getElem?_eq_getElem hxp, by have := hp.1; omega, hp.2.1, hp.2.2⟩
theorem PolysP.all {ar : List Int} {ps : List Pl} (h : PolysP ar ps) : ∀ p ∈ ps, (0 ≤ p.c ∧ p.c ≤ 9) ∧ ∀ x ∈ p.cf, 0 ≤ x ∧ x ≤ 9 := by
  intro p hp
  obtain ⟨j, hj, rfl⟩ := List.mem_iff_getElem.1 hp
  have hja : j < ar.length := by rw [← h.2.1]; exact hj
  exact (h.2.2 j _ _ (List.getElem?_eq_getElem hj) (List.getElem?_eq_getElem hja)).2
theorem c_formAt0 {v0 v1 v2 : Value} {ar t : List Int} {ps : List Pl} {w : World} (h0 : RdSig w v0 ar) (h1 : RdPs w v1 ps) (h2 : RdI w v2 t) (hp : PolysP ar ps) (ht : TermP ar t) :
    Calls Try.prog 34 #[v0, v1, v2, .int .i64 0] w (NewF w (form ps (tmOf ar t))) := by
  obtain ⟨k1, k2⟩ := tmOf_ok ht
  refine c_formAtN hp.1 hp.at0 hp.all _ (tmOf ar t) (Nat.le_refl _) k1 (fun y hy => ht.2.2.1 y (by rw [← k2]; exact hy)) v0 v1 v2 t [] 0 0 w rfl h0 h1 h2 (by rw [k2]; simp)
set_option maxHeartbeats 1000000 in
theorem c_polyOk {v0 v1 v2 v3 : Value} {ar : List Int} {ps : List Pl} {s t : List Int} {w : World} (h0 : RdSig w v0 ar) (h1 : RdPs w v1 ps) (h2 : RdI w v2 s) (h3 : RdI w v3 t) :
    Calls Try.prog 42 #[v0, v1, v2, v3] w fun e w' => e = .returned (.bool (polyArgs ar ps s t)) ∧ Ext w w' := by
  obtain ⟨A, n, c, rfl, ha⟩ := h0
  obtain ⟨B, m, d, rfl, hb⟩ := h1
  obtain ⟨D, q, l, rfl, hd⟩ := h2
  obtain ⟨F, q', l', rfl, hf⟩ := h3
  have HA := Lib.hid ha
  have HB := Lib.hid hb
  have HD := Lib.hid hd
  have HF := Lib.hid hf
  clear ha hb hd hf
  cases hw : polysOk ar ps with
  | false =>
    have HR := Lib.hid (show polyArgs ar ps s t = false by unfold polyArgs; rw [hw]; rfl)
    go_enter Try.func42, Try.ntmps42
    go_wp2_with (go_at_call 32; (with_reducible refine (c_iPolysOk (ar := ar) (ps := ps) (by (first | (first | (with_reducible exact RdI.mk (RI.ext (Hid.out (by with_reducible assumption)) (by exact extX))) | (with_reducible exact RdI.ext (by with_reducible assumption) (by exact extX))) | (with_reducible exact RdPs.mk (RP.ext (Hid.out (by with_reducible assumption)) (by exact extX))) | (with_reducible exact RdPs.ext (by with_reducible assumption) (by exact extX)) | (with_reducible exact RdPl.mk (by (first | (with_reducible exact RI.ext (Hid.out (by with_reducible assumption)) (by exact extX))))) | (with_reducible exact RdPl.ext (by with_reducible assumption) (by exact extX)) | (with_reducible exact RdSig.mk (by (first | (with_reducible exact RI.ext (Hid.out (by with_reducible assumption)) (by exact extX))))) | (with_reducible exact RdSig.ext (by with_reducible assumption) (by exact extX)))) (by (first | (first | (with_reducible exact RdI.mk (RI.ext (Hid.out (by with_reducible assumption)) (by exact extX))) | (with_reducible exact RdI.ext (by with_reducible assumption) (by exact extX))) | (with_reducible exact RdPs.mk (RP.ext (Hid.out (by with_reducible assumption)) (by exact extX))) | (with_reducible exact RdPs.ext (by with_reducible assumption) (by exact extX)) | (with_reducible exact RdPl.mk (by (first | (with_reducible exact RI.ext (Hid.out (by with_reducible assumption)) (by exact extX))))) | (with_reducible exact RdPl.ext (by with_reducible assumption) (by exact extX)) | (with_reducible exact RdSig.mk (by (first | (with_reducible exact RI.ext (Hid.out (by with_reducible assumption)) (by exact extX))))) | (with_reducible exact RdSig.ext (by with_reducible assumption) (by exact extX))))).mono ?_); rintro e w1 ⟨rfl, hE1⟩; have hz1 := sz_of hE1; (try simp only [World.size_alloc, World.size_setCell, World.size_drew] at hz1); obtain ⟨hc1, hf1⟩ := bcell hE1; (try have hq1_0 : w.heap.size < w1.heap.size := by omega); (try have hq1_1 : w.heap.size + 1 < w1.heap.size := by omega); (try have hq1_2 : w.heap.size + 1 + 1 < w1.heap.size := by omega); (try have hq1_3 : w.heap.size + 1 + 1 + 1 < w1.heap.size := by omega); (try have hq1_4 : w.heap.size + 1 + 1 + 1 + 1 < w1.heap.size := by omega); (try have hq1_5 : w.heap.size + 1 + 1 + 1 + 1 + 1 < w1.heap.size := by omega))
    go_ret
    exact ⟨ret_bool HR.out.symm, by exact extX⟩
  | true =>
    cases hs : termOk ar s with
    | false =>
      have HR := Lib.hid (show polyArgs ar ps s t = false by unfold polyArgs; rw [hw, hs]; rfl)
      go_enter Try.func42, Try.ntmps42
      go_wp2_with (first
        | (go_at_call 32; (with_reducible refine (c_iPolysOk (ar := ar) (ps := ps) (by (first | (first | (with_reducible exact RdI.mk (RI.ext (Hid.out (by with_reducible assumption)) (by exact extX))) | (with_reducible exact RdI.ext (by with_reducible assumption) (by exact extX))) | (with_reducible exact RdPs.mk (RP.ext (Hid.out (by with_reducible assumption)) (by exact extX))) | (with_reducible exact RdPs.ext (by with_reducible assumption) (by exact extX)) | (with_reducible exact RdPl.mk (by (first | (with_reducible exact RI.ext (Hid.out (by with_reducible assumption)) (by exact extX))))) | (with_reducible exact RdPl.ext (by with_reducible assumption) (by exact extX)) | (with_reducible exact RdSig.mk (by (first | (with_reducible exact RI.ext (Hid.out (by with_reducible assumption)) (by exact extX))))) | (with_reducible exact RdSig.ext (by with_reducible assumption) (by exact extX)))) (by (first | (first | (with_reducible exact RdI.mk (RI.ext (Hid.out (by with_reducible assumption)) (by exact extX))) | (with_reducible exact RdI.ext (by with_reducible assumption) (by exact extX))) | (with_reducible exact RdPs.mk (RP.ext (Hid.out (by with_reducible assumption)) (by exact extX))) | (with_reducible exact RdPs.ext (by with_reducible assumption) (by exact extX)) | (with_reducible exact RdPl.mk (by (first | (with_reducible exact RI.ext (Hid.out (by with_reducible assumption)) (by exact extX))))) | (with_reducible exact RdPl.ext (by with_reducible assumption) (by exact extX)) | (with_reducible exact RdSig.mk (by (first | (with_reducible exact RI.ext (Hid.out (by with_reducible assumption)) (by exact extX))))) | (with_reducible exact RdSig.ext (by with_reducible assumption) (by exact extX))))).mono ?_); rintro e w1 ⟨rfl, hE1⟩; have hz1 := sz_of hE1; (try simp only [World.size_alloc, World.size_setCell, World.size_drew] at hz1); obtain ⟨hc1, hf1⟩ := bcell hE1; (try have hq1_0 : w.heap.size < w1.heap.size := by omega); (try have hq1_1 : w.heap.size + 1 < w1.heap.size := by omega); (try have hq1_2 : w.heap.size + 1 + 1 < w1.heap.size := by omega); (try have hq1_3 : w.heap.size + 1 + 1 + 1 < w1.heap.size := by omega); (try have hq1_4 : w.heap.size + 1 + 1 + 1 + 1 < w1.heap.size := by omega); (try have hq1_5 : w.heap.size + 1 + 1 + 1 + 1 + 1 < w1.heap.size := by omega))
        | (go_at_call 33; (with_reducible refine (c_iTermOk (ar := ar) (t := s) (by (first | (first | (with_reducible exact RdI.mk (RI.ext (Hid.out (by with_reducible assumption)) (by exact extX))) | (with_reducible exact RdI.ext (by with_reducible assumption) (by exact extX))) | (with_reducible exact RdPs.mk (RP.ext (Hid.out (by with_reducible assumption)) (by exact extX))) | (with_reducible exact RdPs.ext (by with_reducible assumption) (by exact extX)) | (with_reducible exact RdPl.mk (by (first | (with_reducible exact RI.ext (Hid.out (by with_reducible assumption)) (by exact extX))))) | (with_reducible exact RdPl.ext (by with_reducible assumption) (by exact extX)) | (with_reducible exact RdSig.mk (by (first | (with_reducible exact RI.ext (Hid.out (by with_reducible assumption)) (by exact extX))))) | (with_reducible exact RdSig.ext (by with_reducible assumption) (by exact extX)))) (by (first | (first | (with_reducible exact RdI.mk (RI.ext (Hid.out (by with_reducible assumption)) (by exact extX))) | (with_reducible exact RdI.ext (by with_reducible assumption) (by exact extX))) | (with_reducible exact RdPs.mk (RP.ext (Hid.out (by with_reducible assumption)) (by exact extX))) | (with_reducible exact RdPs.ext (by with_reducible assumption) (by exact extX)) | (with_reducible exact RdPl.mk (by (first | (with_reducible exact RI.ext (Hid.out (by with_reducible assumption)) (by exact extX))))) | (with_reducible exact RdPl.ext (by with_reducible assumption) (by exact extX)) | (with_reducible exact RdSig.mk (by (first | (with_reducible exact RI.ext (Hid.out (by with_reducible assumption)) (by exact extX))))) | (with_reducible exact RdSig.ext (by with_reducible assumption) (by exact extX))))).mono ?_); rintro e w2 ⟨rfl, hE2⟩; have hz2 := sz_of hE2; (try simp only [World.size_alloc, World.size_setCell, World.size_drew] at hz2); obtain ⟨hc2, hf2⟩ := bcell hE2; (try have hq2_0 : w.heap.size < w2.heap.size := by omega); (try have hq2_1 : w.heap.size + 1 < w2.heap.size := by omega); (try have hq2_2 : w.heap.size + 1 + 1 < w2.heap.size := by omega); (try have hq2_3 : w.heap.size + 1 + 1 + 1 < w2.heap.size := by omega); (try have hq2_4 : w.heap.size + 1 + 1 + 1 + 1 < w2.heap.size := by omega); (try have hq2_5 : w.heap.size + 1 + 1 + 1 + 1 + 1 < w2.heap.size := by omega); (try have hx2_1 : w1.heap.size < w2.heap.size := by omega)))
      go_ret
      exact ⟨ret_bool HR.out.symm, by exact extX⟩
    | true =>
      have HR := Lib.hid (show polyArgs ar ps s t = termOk ar t by unfold polyArgs; rw [hw, hs]; rfl)
      go_enter Try.func42, Try.ntmps42
      go_wp2_with (first
        | (go_at_call 32; (with_reducible refine (c_iPolysOk (ar := ar) (ps := ps) (by (first | (first | (with_reducible exact RdI.mk (RI.ext (Hid.out (by with_reducible assumption)) (by exact extX))) | (with_reducible exact RdI.ext (by with_reducible assumption) (by exact extX))) | (with_reducible exact RdPs.mk (RP.ext (Hid.out (by with_reducible assumption)) (by exact extX))) | (with_reducible exact RdPs.ext (by with_reducible assumption) (by exact extX)) | (with_reducible exact RdPl.mk (by (first | (with_reducible exact RI.ext (Hid.out (by with_reducible assumption)) (by exact extX))))) | (with_reducible exact RdPl.ext (by with_reducible assumption) (by exact extX)) | (with_reducible exact RdSig.mk (by (first | (with_reducible exact RI.ext (Hid.out (by with_reducible assumption)) (by exact extX))))) | (with_reducible exact RdSig.ext (by with_reducible assumption) (by exact extX)))) (by (first | (first | (with_reducible exact RdI.mk (RI.ext (Hid.out (by with_reducible assumption)) (by exact extX))) | (with_reducible exact RdI.ext (by with_reducible assumption) (by exact extX))) | (with_reducible exact RdPs.mk (RP.ext (Hid.out (by with_reducible assumption)) (by exact extX))) | (with_reducible exact RdPs.ext (by with_reducible assumption) (by exact extX)) | (with_reducible exact RdPl.mk (by (first | (with_reducible exact RI.ext (Hid.out (by with_reducible assumption)) (by exact extX))))) | (with_reducible exact RdPl.ext (by with_reducible assumption) (by exact extX)) | (with_reducible exact RdSig.mk (by (first | (with_reducible exact RI.ext (Hid.out (by with_reducible assumption)) (by exact extX))))) | (with_reducible exact RdSig.ext (by with_reducible assumption) (by exact extX))))).mono ?_); rintro e w1 ⟨rfl, hE1⟩; have hz1 := sz_of hE1; (try simp only [World.size_alloc, World.size_setCell, World.size_drew] at hz1); obtain ⟨hc1, hf1⟩ := bcell hE1; (try have hq1_0 : w.heap.size < w1.heap.size := by omega); (try have hq1_1 : w.heap.size + 1 < w1.heap.size := by omega); (try have hq1_2 : w.heap.size + 1 + 1 < w1.heap.size := by omega); (try have hq1_3 : w.heap.size + 1 + 1 + 1 < w1.heap.size := by omega); (try have hq1_4 : w.heap.size + 1 + 1 + 1 + 1 < w1.heap.size := by omega); (try have hq1_5 : w.heap.size + 1 + 1 + 1 + 1 + 1 < w1.heap.size := by omega))
        | (go_at_call 33; (with_reducible refine (c_iTermOk (ar := ar) (t := s) (by (first | (first | (with_reducible exact RdI.mk (RI.ext (Hid.out (by with_reducible assumption)) (by exact extX))) | (with_reducible exact RdI.ext (by with_reducible assumption) (by exact extX))) | (with_reducible exact RdPs.mk (RP.ext (Hid.out (by with_reducible assumption)) (by exact extX))) | (with_reducible exact RdPs.ext (by with_reducible assumption) (by exact extX)) | (with_reducible exact RdPl.mk (by (first | (with_reducible exact RI.ext (Hid.out (by with_reducible assumption)) (by exact extX))))) | (with_reducible exact RdPl.ext (by with_reducible assumption) (by exact extX)) | (with_reducible exact RdSig.mk (by (first | (with_reducible exact RI.ext (Hid.out (by with_reducible assumption)) (by exact extX))))) | (with_reducible exact RdSig.ext (by with_reducible assumption) (by exact extX)))) (by (first | (first | (with_reducible exact RdI.mk (RI.ext (Hid.out (by with_reducible assumption)) (by exact extX))) | (with_reducible exact RdI.ext (by with_reducible assumption) (by exact extX))) | (with_reducible exact RdPs.mk (RP.ext (Hid.out (by with_reducible assumption)) (by exact extX))) | (with_reducible exact RdPs.ext (by with_reducible assumption) (by exact extX)) | (with_reducible exact RdPl.mk (by (first | (with_reducible exact RI.ext (Hid.out (by with_reducible assumption)) (by exact extX))))) | (with_reducible exact RdPl.ext (by with_reducible assumption) (by exact extX)) | (with_reducible exact RdSig.mk (by (first | (with_reducible exact RI.ext (Hid.out (by with_reducible assumption)) (by exact extX))))) | (with_reducible exact RdSig.ext (by with_reducible assumption) (by exact extX))))).mono ?_); rintro e w2 ⟨rfl, hE2⟩; have hz2 := sz_of hE2; (try simp only [World.size_alloc, World.size_setCell, World.size_drew] at hz2); obtain ⟨hc2, hf2⟩ := bcell hE2; (try have hq2_0 : w.heap.size < w2.heap.size := by omega); (try have hq2_1 : w.heap.size + 1 < w2.heap.size := by omega); (try have hq2_2 : w.heap.size + 1 + 1 < w2.heap.size := by omega); (try have hq2_3 : w.heap.size + 1 + 1 + 1 < w2.heap.size := by omega); (try have hq2_4 : w.heap.size + 1 + 1 + 1 + 1 < w2.heap.size := by omega); (try have hq2_5 : w.heap.size + 1 + 1 + 1 + 1 + 1 < w2.heap.size := by omega); (try have hx2_1 : w1.heap.size < w2.heap.size := by omega))
        | (go_at_call 33; (with_reducible refine (c_iTermOk (ar := ar) (t := t) (by (first | (first | (with_reducible exact RdI.mk (RI.ext (Hid.out (by with_reducible assumption)) (by exact extX))) | (with_reducible exact RdI.ext (by with_reducible assumption) (by exact extX))) | (with_reducible exact RdPs.mk (RP.ext (Hid.out (by with_reducible assumption)) (by exact extX))) | (with_reducible exact RdPs.ext (by with_reducible assumption) (by exact extX)) | (with_reducible exact RdPl.mk (by (first | (with_reducible exact RI.ext (Hid.out (by with_reducible assumption)) (by exact extX))))) | (with_reducible exact RdPl.ext (by with_reducible assumption) (by exact extX)) | (with_reducible exact RdSig.mk (by (first | (with_reducible exact RI.ext (Hid.out (by with_reducible assumption)) (by exact extX))))) | (with_reducible exact RdSig.ext (by with_reducible assumption) (by exact extX)))) (by (first | (first | (with_reducible exact RdI.mk (RI.ext (Hid.out (by with_reducible assumption)) (by exact extX))) | (with_reducible exact RdI.ext (by with_reducible assumption) (by exact extX))) | (with_reducible exact RdPs.mk (RP.ext (Hid.out (by with_reducible assumption)) (by exact extX))) | (with_reducible exact RdPs.ext (by with_reducible assumption) (by exact extX)) | (with_reducible exact RdPl.mk (by (first | (with_reducible exact RI.ext (Hid.out (by with_reducible assumption)) (by exact extX))))) | (with_reducible exact RdPl.ext (by with_reducible assumption) (by exact extX)) | (with_reducible exact RdSig.mk (by (first | (with_reducible exact RI.ext (Hid.out (by with_reducible assumption)) (by exact extX))))) | (with_reducible exact RdSig.ext (by with_reducible assumption) (by exact extX))))).mono ?_); rintro e w3 ⟨rfl, hE3⟩; have hz3 := sz_of hE3; (try simp only [World.size_alloc, World.size_setCell, World.size_drew] at hz3); obtain ⟨hc3, hf3⟩ := bcell hE3; (try have hq3_0 : w.heap.size < w3.heap.size := by omega); (try have hq3_1 : w.heap.size + 1 < w3.heap.size := by omega); (try have hq3_2 : w.heap.size + 1 + 1 < w3.heap.size := by omega); (try have hq3_3 : w.heap.size + 1 + 1 + 1 < w3.heap.size := by omega); (try have hq3_4 : w.heap.size + 1 + 1 + 1 + 1 < w3.heap.size := by omega); (try have hq3_5 : w.heap.size + 1 + 1 + 1 + 1 + 1 < w3.heap.size := by omega); (try have hx3_1 : w1.heap.size < w3.heap.size := by omega); (try have hx3_2 : w2.heap.size < w3.heap.size := by omega)))
      all_goals go_ret
      all_goals exact ⟨ret_bool HR.out.symm, by exact extX⟩
/-- How two forms, where there are any, compare. -/
noncomputable def cmpMost (o o' : Option Pl) : Bool := match o, o' with | some a, some b => most a b && decide (a.c ≤ b.c) | _, _ => false
noncomputable def cmpLess (o o' : Option Pl) : Bool := match o, o' with | some a, some b => most a b && decide (a.c < b.c) | _, _ => false
set_option maxRecDepth 100000 in
set_option maxHeartbeats 1000000 in
theorem c_compareForms {v0 v1 v2 v3 : Value} {ar : List Int} {ps : List Pl} {s t : List Int} {w : World} (h0 : RdSig w v0 ar) (h1 : RdPs w v1 ps) (h2 : RdI w v2 s) (h3 : RdI w v3 t) (hp : PolysP ar ps) (hs : TermP ar s) (ht : TermP ar t) :
    Calls Try.prog 43 #[v0, v1, v2, v3] w fun e w' => e = .returned (.tuple #[.bool (cmpMost (form ps (tmOf ar s)) (form ps (tmOf ar t))), .bool (cmpLess (form ps (tmOf ar s)) (form ps (tmOf ar t)))]) ∧ Ext w w' := by
  obtain ⟨A, n, c, rfl, ha⟩ := h0
  obtain ⟨B, m, d, rfl, hb⟩ := h1
  obtain ⟨D, q, l, rfl, hd⟩ := h2
  obtain ⟨F, q', l', rfl, hf⟩ := h3
  have HA := Lib.hid ha
  have HB := Lib.hid hb
  have HD := Lib.hid hd
  have HF := Lib.hid hf
  have HP := Lib.hid hp
  have HS := Lib.hid hs
  have HT := Lib.hid ht
  clear ha hb hd hf hp hs ht
  obtain ⟨oa, hoa⟩ : ∃ oa, oa = form ps (tmOf ar s) := ⟨_, rfl⟩
  obtain ⟨ob, hob⟩ : ∃ ob, ob = form ps (tmOf ar t) := ⟨_, rfl⟩
  rw [← hoa, ← hob]
  have HOA := Lib.hid hoa
  have HOB := Lib.hid hob
  clear hoa hob
  go_enter Try.func43, Try.ntmps43
  go_wp2_with fail
  (with_reducible refine (c_formAt0 (t := s) (RdSig.mk (RI.ext HA.out (by exact extX))) (RdPs.mk (RP.ext HB.out (by exact extX))) (RdI.mk (RI.ext HD.out (by exact extX))) HP.out HS.out).mono ?_)
  rw [← HOA.out]
  rintro e2 w2 ⟨A2, n2, c2, rfl, hO2, hE2⟩
  have HO2 := Lib.hid hO2
  have HL2 := Lib.hid hO2.ri
  have hs0 : w2.cell? ⟨w.heap.size, 0, none⟩ = some (.slice A n c) := Ext.keep hE2 (by simp [go_sem])
  have hEw2 : Ext w w2 := Ext.trans (by exact extX) hE2
  have hlt2 : w.heap.size < w2.heap.size := World.block_lt_of_cell? w2 _ hs0
  clear hO2 hE2
  go_wp2_with fail
  obtain ⟨wq, hwq⟩ : ∃ wq, wq = w2.alloc (.cells #[.int .i64 (rp oa).c, .slice A2 n2 c2] 38) := ⟨_, rfl⟩
  have hg0 : wq.cell? ⟨w2.heap.size, 0, none⟩ = some (.int .i64 (rp oa).c) := by rw [hwq]; simp [go_sem]
  have hg1 : wq.cell? ⟨w2.heap.size, 1, none⟩ = some (.slice A2 n2 c2) := by rw [hwq]; simp [go_sem]
  have hEq : Ext w2 wq := by rw [hwq]; exact (Ext.refl _).alloc _
  rw [← hwq]
  clear hwq
  have hEwq : Ext w wq := Ext.trans hEw2 hEq
  (with_reducible refine (c_formAt0 (t := t) (RdSig.mk (RI.ext HA.out hEwq)) (RdPs.mk (RP.ext HB.out hEwq)) (RdI.mk (RI.ext HF.out hEwq)) HP.out HT.out).mono ?_)
  rw [← HOB.out]
  rintro e3 w3 ⟨A3, n3, c3, rfl, hO3, hE3⟩
  have HL3 := Lib.hid hO3.ri
  have hk0 := Ext.keep hE3 hg0
  have hk1 := Ext.keep hE3 hg1
  have hkl : w2.heap.size < w3.heap.size := World.block_lt_of_cell? w3 _ hk0
  have hE23 : Ext w2 w3 := Ext.trans hEq hE3
  have hEw3 : Ext w w3 := Ext.trans hEwq hE3
  clear hO3 hg0 hg1
  cases oa with
  | none =>
    go_wp2
    go_ret2
    exact ⟨rfl, by exact extX⟩
  | some a =>
    cases ob with
    | none =>
      go_wp2
      go_ret2
      exact ⟨rfl, by exact extX⟩
    | some b =>
      go_wp2_with (go_at_call 73; (with_reducible refine (c_atMost (a := rp (some a)) (b := rp (some b)) (RdPl.mk (RI.ext HL2.out (by exact extX))) (RdPl.mk (RI.ext HL3.out (by exact extX)))).mono ?_); rintro e4 w4 ⟨rfl, hE4⟩)
      go_ret2
      exact ⟨rfl, by exact extX⟩
set_option maxHeartbeats 1000000 in
theorem c_iPolyLess {v0 v1 v2 v3 : Value} {ar : List Int} {ps : List Pl} {s t : List Int} {w : World} (h0 : RdSig w v0 ar) (h1 : RdPs w v1 ps) (h2 : RdI w v2 s) (h3 : RdI w v3 t) :
    Calls Try.prog 15 #[v0, v1, v2, v3] w fun e w' => e = .returned (.bool (polyArgs ar ps s t && cmpLess (form ps (tmOf ar s)) (form ps (tmOf ar t)))) ∧ Ext w w' := by
  obtain ⟨A, n, c, rfl, ha⟩ := h0
  obtain ⟨B, m, d, rfl, hb⟩ := h1
  obtain ⟨D, q, l, rfl, hd⟩ := h2
  obtain ⟨F, q', l', rfl, hf⟩ := h3
  have HA := Lib.hid ha
  have HB := Lib.hid hb
  have HD := Lib.hid hd
  have HF := Lib.hid hf
  clear ha hb hd hf
  cases hk : polyArgs ar ps s t with
  | false =>
    go_enter Try.func15, Try.ntmps15
    go_wp2_with (go_at_call 42; (with_reducible refine (c_polyOk (ar := ar) (ps := ps) (s := s) (t := t) (by (first | (first | (with_reducible exact RdI.mk (RI.ext (Hid.out (by with_reducible assumption)) (by exact extX))) | (with_reducible exact RdI.ext (by with_reducible assumption) (by exact extX))) | (with_reducible exact RdPs.mk (RP.ext (Hid.out (by with_reducible assumption)) (by exact extX))) | (with_reducible exact RdPs.ext (by with_reducible assumption) (by exact extX)) | (with_reducible exact RdPl.mk (by (first | (with_reducible exact RI.ext (Hid.out (by with_reducible assumption)) (by exact extX))))) | (with_reducible exact RdPl.ext (by with_reducible assumption) (by exact extX)) | (with_reducible exact RdSig.mk (by (first | (with_reducible exact RI.ext (Hid.out (by with_reducible assumption)) (by exact extX))))) | (with_reducible exact RdSig.ext (by with_reducible assumption) (by exact extX)))) (by (first | (first | (with_reducible exact RdI.mk (RI.ext (Hid.out (by with_reducible assumption)) (by exact extX))) | (with_reducible exact RdI.ext (by with_reducible assumption) (by exact extX))) | (with_reducible exact RdPs.mk (RP.ext (Hid.out (by with_reducible assumption)) (by exact extX))) | (with_reducible exact RdPs.ext (by with_reducible assumption) (by exact extX)) | (with_reducible exact RdPl.mk (by (first | (with_reducible exact RI.ext (Hid.out (by with_reducible assumption)) (by exact extX))))) | (with_reducible exact RdPl.ext (by with_reducible assumption) (by exact extX)) | (with_reducible exact RdSig.mk (by (first | (with_reducible exact RI.ext (Hid.out (by with_reducible assumption)) (by exact extX))))) | (with_reducible exact RdSig.ext (by with_reducible assumption) (by exact extX)))) (by (first | (first | (with_reducible exact RdI.mk (RI.ext (Hid.out (by with_reducible assumption)) (by exact extX))) | (with_reducible exact RdI.ext (by with_reducible assumption) (by exact extX))) | (with_reducible exact RdPs.mk (RP.ext (Hid.out (by with_reducible assumption)) (by exact extX))) | (with_reducible exact RdPs.ext (by with_reducible assumption) (by exact extX)) | (with_reducible exact RdPl.mk (by (first | (with_reducible exact RI.ext (Hid.out (by with_reducible assumption)) (by exact extX))))) | (with_reducible exact RdPl.ext (by with_reducible assumption) (by exact extX)) | (with_reducible exact RdSig.mk (by (first | (with_reducible exact RI.ext (Hid.out (by with_reducible assumption)) (by exact extX))))) | (with_reducible exact RdSig.ext (by with_reducible assumption) (by exact extX)))) (by (first | (first | (with_reducible exact RdI.mk (RI.ext (Hid.out (by with_reducible assumption)) (by exact extX))) | (with_reducible exact RdI.ext (by with_reducible assumption) (by exact extX))) | (with_reducible exact RdPs.mk (RP.ext (Hid.out (by with_reducible assumption)) (by exact extX))) | (with_reducible exact RdPs.ext (by with_reducible assumption) (by exact extX)) | (with_reducible exact RdPl.mk (by (first | (with_reducible exact RI.ext (Hid.out (by with_reducible assumption)) (by exact extX))))) | (with_reducible exact RdPl.ext (by with_reducible assumption) (by exact extX)) | (with_reducible exact RdSig.mk (by (first | (with_reducible exact RI.ext (Hid.out (by with_reducible assumption)) (by exact extX))))) | (with_reducible exact RdSig.ext (by with_reducible assumption) (by exact extX))))).mono ?_); rintro e w1 ⟨rfl, hE1⟩; have hz1 := sz_of hE1; (try simp only [World.size_alloc, World.size_setCell, World.size_drew] at hz1); obtain ⟨hc1, hf1⟩ := bcell hE1; (try have hq1_0 : w.heap.size < w1.heap.size := by omega); (try have hq1_1 : w.heap.size + 1 < w1.heap.size := by omega); (try have hq1_2 : w.heap.size + 1 + 1 < w1.heap.size := by omega); (try have hq1_3 : w.heap.size + 1 + 1 + 1 < w1.heap.size := by omega); (try have hq1_4 : w.heap.size + 1 + 1 + 1 + 1 < w1.heap.size := by omega); (try have hq1_5 : w.heap.size + 1 + 1 + 1 + 1 + 1 < w1.heap.size := by omega))
    go_ret
    exact ⟨rfl, by exact extX⟩
  | true =>
    have h := polyArgs_iff.1 hk
    have HP := Lib.hid (polysOk_iff.1 h.1)
    have HS := Lib.hid (termOk_iff.1 h.2.1)
    have HT := Lib.hid (termOk_iff.1 h.2.2)
    clear h
    go_enter Try.func15, Try.ntmps15
    go_wp2_with (first
      | (go_at_call 42; (with_reducible refine (c_polyOk (ar := ar) (ps := ps) (s := s) (t := t) (by (first | (first | (with_reducible exact RdI.mk (RI.ext (Hid.out (by with_reducible assumption)) (by exact extX))) | (with_reducible exact RdI.ext (by with_reducible assumption) (by exact extX))) | (with_reducible exact RdPs.mk (RP.ext (Hid.out (by with_reducible assumption)) (by exact extX))) | (with_reducible exact RdPs.ext (by with_reducible assumption) (by exact extX)) | (with_reducible exact RdPl.mk (by (first | (with_reducible exact RI.ext (Hid.out (by with_reducible assumption)) (by exact extX))))) | (with_reducible exact RdPl.ext (by with_reducible assumption) (by exact extX)) | (with_reducible exact RdSig.mk (by (first | (with_reducible exact RI.ext (Hid.out (by with_reducible assumption)) (by exact extX))))) | (with_reducible exact RdSig.ext (by with_reducible assumption) (by exact extX)))) (by (first | (first | (with_reducible exact RdI.mk (RI.ext (Hid.out (by with_reducible assumption)) (by exact extX))) | (with_reducible exact RdI.ext (by with_reducible assumption) (by exact extX))) | (with_reducible exact RdPs.mk (RP.ext (Hid.out (by with_reducible assumption)) (by exact extX))) | (with_reducible exact RdPs.ext (by with_reducible assumption) (by exact extX)) | (with_reducible exact RdPl.mk (by (first | (with_reducible exact RI.ext (Hid.out (by with_reducible assumption)) (by exact extX))))) | (with_reducible exact RdPl.ext (by with_reducible assumption) (by exact extX)) | (with_reducible exact RdSig.mk (by (first | (with_reducible exact RI.ext (Hid.out (by with_reducible assumption)) (by exact extX))))) | (with_reducible exact RdSig.ext (by with_reducible assumption) (by exact extX)))) (by (first | (first | (with_reducible exact RdI.mk (RI.ext (Hid.out (by with_reducible assumption)) (by exact extX))) | (with_reducible exact RdI.ext (by with_reducible assumption) (by exact extX))) | (with_reducible exact RdPs.mk (RP.ext (Hid.out (by with_reducible assumption)) (by exact extX))) | (with_reducible exact RdPs.ext (by with_reducible assumption) (by exact extX)) | (with_reducible exact RdPl.mk (by (first | (with_reducible exact RI.ext (Hid.out (by with_reducible assumption)) (by exact extX))))) | (with_reducible exact RdPl.ext (by with_reducible assumption) (by exact extX)) | (with_reducible exact RdSig.mk (by (first | (with_reducible exact RI.ext (Hid.out (by with_reducible assumption)) (by exact extX))))) | (with_reducible exact RdSig.ext (by with_reducible assumption) (by exact extX)))) (by (first | (first | (with_reducible exact RdI.mk (RI.ext (Hid.out (by with_reducible assumption)) (by exact extX))) | (with_reducible exact RdI.ext (by with_reducible assumption) (by exact extX))) | (with_reducible exact RdPs.mk (RP.ext (Hid.out (by with_reducible assumption)) (by exact extX))) | (with_reducible exact RdPs.ext (by with_reducible assumption) (by exact extX)) | (with_reducible exact RdPl.mk (by (first | (with_reducible exact RI.ext (Hid.out (by with_reducible assumption)) (by exact extX))))) | (with_reducible exact RdPl.ext (by with_reducible assumption) (by exact extX)) | (with_reducible exact RdSig.mk (by (first | (with_reducible exact RI.ext (Hid.out (by with_reducible assumption)) (by exact extX))))) | (with_reducible exact RdSig.ext (by with_reducible assumption) (by exact extX))))).mono ?_); rintro e w1 ⟨rfl, hE1⟩; have hz1 := sz_of hE1; (try simp only [World.size_alloc, World.size_setCell, World.size_drew] at hz1); obtain ⟨hc1, hf1⟩ := bcell hE1; (try have hq1_0 : w.heap.size < w1.heap.size := by omega); (try have hq1_1 : w.heap.size + 1 < w1.heap.size := by omega); (try have hq1_2 : w.heap.size + 1 + 1 < w1.heap.size := by omega); (try have hq1_3 : w.heap.size + 1 + 1 + 1 < w1.heap.size := by omega); (try have hq1_4 : w.heap.size + 1 + 1 + 1 + 1 < w1.heap.size := by omega); (try have hq1_5 : w.heap.size + 1 + 1 + 1 + 1 + 1 < w1.heap.size := by omega))
      | (go_at_call 43; (with_reducible refine (c_compareForms (ar := ar) (ps := ps) (s := s) (t := t) (by (first | (first | (with_reducible exact RdI.mk (RI.ext (Hid.out (by with_reducible assumption)) (by exact extX))) | (with_reducible exact RdI.ext (by with_reducible assumption) (by exact extX))) | (with_reducible exact RdPs.mk (RP.ext (Hid.out (by with_reducible assumption)) (by exact extX))) | (with_reducible exact RdPs.ext (by with_reducible assumption) (by exact extX)) | (with_reducible exact RdPl.mk (by (first | (with_reducible exact RI.ext (Hid.out (by with_reducible assumption)) (by exact extX))))) | (with_reducible exact RdPl.ext (by with_reducible assumption) (by exact extX)) | (with_reducible exact RdSig.mk (by (first | (with_reducible exact RI.ext (Hid.out (by with_reducible assumption)) (by exact extX))))) | (with_reducible exact RdSig.ext (by with_reducible assumption) (by exact extX)))) (by (first | (first | (with_reducible exact RdI.mk (RI.ext (Hid.out (by with_reducible assumption)) (by exact extX))) | (with_reducible exact RdI.ext (by with_reducible assumption) (by exact extX))) | (with_reducible exact RdPs.mk (RP.ext (Hid.out (by with_reducible assumption)) (by exact extX))) | (with_reducible exact RdPs.ext (by with_reducible assumption) (by exact extX)) | (with_reducible exact RdPl.mk (by (first | (with_reducible exact RI.ext (Hid.out (by with_reducible assumption)) (by exact extX))))) | (with_reducible exact RdPl.ext (by with_reducible assumption) (by exact extX)) | (with_reducible exact RdSig.mk (by (first | (with_reducible exact RI.ext (Hid.out (by with_reducible assumption)) (by exact extX))))) | (with_reducible exact RdSig.ext (by with_reducible assumption) (by exact extX)))) (by (first | (first | (with_reducible exact RdI.mk (RI.ext (Hid.out (by with_reducible assumption)) (by exact extX))) | (with_reducible exact RdI.ext (by with_reducible assumption) (by exact extX))) | (with_reducible exact RdPs.mk (RP.ext (Hid.out (by with_reducible assumption)) (by exact extX))) | (with_reducible exact RdPs.ext (by with_reducible assumption) (by exact extX)) | (with_reducible exact RdPl.mk (by (first | (with_reducible exact RI.ext (Hid.out (by with_reducible assumption)) (by exact extX))))) | (with_reducible exact RdPl.ext (by with_reducible assumption) (by exact extX)) | (with_reducible exact RdSig.mk (by (first | (with_reducible exact RI.ext (Hid.out (by with_reducible assumption)) (by exact extX))))) | (with_reducible exact RdSig.ext (by with_reducible assumption) (by exact extX)))) (by (first | (first | (with_reducible exact RdI.mk (RI.ext (Hid.out (by with_reducible assumption)) (by exact extX))) | (with_reducible exact RdI.ext (by with_reducible assumption) (by exact extX))) | (with_reducible exact RdPs.mk (RP.ext (Hid.out (by with_reducible assumption)) (by exact extX))) | (with_reducible exact RdPs.ext (by with_reducible assumption) (by exact extX)) | (with_reducible exact RdPl.mk (by (first | (with_reducible exact RI.ext (Hid.out (by with_reducible assumption)) (by exact extX))))) | (with_reducible exact RdPl.ext (by with_reducible assumption) (by exact extX)) | (with_reducible exact RdSig.mk (by (first | (with_reducible exact RI.ext (Hid.out (by with_reducible assumption)) (by exact extX))))) | (with_reducible exact RdSig.ext (by with_reducible assumption) (by exact extX)))) HP.out HS.out HT.out).mono ?_); rintro e w2 ⟨rfl, hE2⟩; have hz2 := sz_of hE2; (try simp only [World.size_alloc, World.size_setCell, World.size_drew] at hz2); obtain ⟨hc2, hf2⟩ := bcell hE2; (try have hq2_0 : w.heap.size < w2.heap.size := by omega); (try have hq2_1 : w.heap.size + 1 < w2.heap.size := by omega); (try have hq2_2 : w.heap.size + 1 + 1 < w2.heap.size := by omega); (try have hq2_3 : w.heap.size + 1 + 1 + 1 < w2.heap.size := by omega); (try have hq2_4 : w.heap.size + 1 + 1 + 1 + 1 < w2.heap.size := by omega); (try have hq2_5 : w.heap.size + 1 + 1 + 1 + 1 + 1 < w2.heap.size := by omega); (try have hx2_1 : w1.heap.size < w2.heap.size := by omega)))
    go_ret
    exact ⟨rfl, by exact extX⟩

end Go.Proofs.Ytljbjabgdalabaa
