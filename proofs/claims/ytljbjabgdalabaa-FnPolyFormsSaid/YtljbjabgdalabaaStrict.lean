import Derived.Test.YtljbjabgdalabaaPolysOk
import Derived.Test.YtljbjabgdalabaaRank
import Derived.Test.YtljbjabgdalabaaMStrict
-- rd: RdPl RdPs
namespace Go.Proofs.Ytljbjabgdalabaa
open Go.RowKit
set_option linter.unusedSimpArgs false
set_option linter.unusedVariables false

set_option maxHeartbeats 400000 in
theorem c_strict1 {v : Value} {p : Pl} {w : World} (h0 : RdPl w v p) :
    Calls Try.prog 40 #[v] w fun e w' => e = .returned (.bool (decide (0 ∈ p.cf))) ∧ Ext w w' := by
  obtain ⟨A, n, c, rfl, ha⟩ := h0
  have HA := Lib.hid ha
  clear ha
  go_enter Try.func40, Try.ntmps40
  go_wp2_with (go_at_call 41; (with_reducible refine (c_slicesContains (xs := p.cf) (x := 0) (by (first | (first | (with_reducible exact RdI.mk (RI.ext (Hid.out (by with_reducible assumption)) (by exact extX))) | (with_reducible exact RdI.ext (by with_reducible assumption) (by exact extX))) | (with_reducible exact RdPs.mk (RP.ext (Hid.out (by with_reducible assumption)) (by exact extX))) | (with_reducible exact RdPs.ext (by with_reducible assumption) (by exact extX)) | (with_reducible exact RdPl.mk (by (first | (with_reducible exact RI.ext (Hid.out (by with_reducible assumption)) (by exact extX))))) | (with_reducible exact RdPl.ext (by with_reducible assumption) (by exact extX)) | (with_reducible exact RdSig.mk (by (first | (with_reducible exact RI.ext (Hid.out (by with_reducible assumption)) (by exact extX))))) | (with_reducible exact RdSig.ext (by with_reducible assumption) (by exact extX))))).mono ?_); rintro e w2 ⟨rfl, rfl⟩)
  go_ret
  exact ⟨rfl, by exact extX⟩
set_option maxHeartbeats 1000000 in
theorem c_indexZ {v : Value} {ps : List Pl} {w : World} (h0 : RdPs w v ps) :
    Calls Try.prog 71 #[v, .func (.func 40) #[] #[]] w fun e w' => (∃ y, e = .returned (.int .i64 y) ∧ Hid (decide (0 ≤ y) = anyZ ps)) ∧ Ext w w' := by
  obtain ⟨A, n, c, rfl, ha⟩ := h0
  have hn := ha.le
  have hl := ha.len
  have HA := Lib.hid ha
  have HL := Lib.hid hl
  clear ha hl
  go_enter Try.func71, Try.ntmps71
  go_wp2
  go_loopw [8] (fun i wr => ∃ k : Nat, i = .int .i64 k ∧ k ≤ n ∧ Hid (∀ (j : Nat) (p : Pl), j < k → ps[j]? = some p → ¬ 0 ∈ p.cf) ∧ Ext w wr) (fun i _ => n - (intOf i).toNat)
  case atStart => exact ⟨0, rfl, Nat.zero_le _, Lib.hid (fun j p hj => by omega), by exact extX⟩
  case round =>
    obtain ⟨k, rfl, hk, hp, hE⟩ := hrel
    by_cases hlt : k < n
    · obtain ⟨b, o, p, A', m1, c1, rfl, hy, hd1, hd2, hri⟩ := RP.at_ (RP.ext HA.out hE) hlt
      have HY := Lib.hid hy
      have HRI := Lib.hid hri
      clear hy hri
      by_cases h0 : 0 ∈ p.cf
      · have HR := Lib.hid (anyZ_t HY.out h0)
        have HD := Lib.hid (show decide (0 ∈ p.cf) = true by simpa using h0)
        go_wp2_with fail
        (with_reducible refine (c_strict1 (p := p) (by (first | (first | (with_reducible exact RdI.mk (RI.ext (Hid.out (by with_reducible assumption)) (by exact extX))) | (with_reducible exact RdI.ext (by with_reducible assumption) (by exact extX))) | (with_reducible exact RdPs.mk (RP.ext (Hid.out (by with_reducible assumption)) (by exact extX))) | (with_reducible exact RdPs.ext (by with_reducible assumption) (by exact extX)) | (with_reducible exact RdPl.mk (by (first | (with_reducible exact RI.ext (Hid.out (by with_reducible assumption)) (by exact extX))))) | (with_reducible exact RdPl.ext (by with_reducible assumption) (by exact extX)) | (with_reducible exact RdSig.mk (by (first | (with_reducible exact RI.ext (Hid.out (by with_reducible assumption)) (by exact extX))))) | (with_reducible exact RdSig.ext (by with_reducible assumption) (by exact extX))))).mono ?_); rw [HD.out]; rintro e w1 ⟨rfl, hE1⟩; have hz1 := sz_of hE1; (try simp only [World.size_alloc, World.size_setCell, World.size_drew] at hz1); obtain ⟨hc1, hf1⟩ := bcell hE1; (try have hq1_0 : w.heap.size < w1.heap.size := by omega); (try have hq1_1 : w.heap.size + 1 < w1.heap.size := by omega); (try have hq1_2 : w.heap.size + 1 + 1 < w1.heap.size := by omega); (try have hq1_3 : w.heap.size + 1 + 1 + 1 < w1.heap.size := by omega); (try have hq1_4 : w.heap.size + 1 + 1 + 1 + 1 < w1.heap.size := by omega); (try have hq1_5 : w.heap.size + 1 + 1 + 1 + 1 + 1 < w1.heap.size := by omega)
        go_wp2
        go_ret
        exact ⟨⟨_, rfl, Lib.hid (by rw [HR.out]; simp)⟩, by exact extX⟩
      · have HR := Lib.hid (uptoG_succ (P := fun p : Pl => ¬ 0 ∈ p.cf) hp.out HY.out h0)
        have HD := Lib.hid (show decide (0 ∈ p.cf) = false by simpa using h0)
        go_wp2_with fail
        (with_reducible refine (c_strict1 (p := p) (by (first | (first | (with_reducible exact RdI.mk (RI.ext (Hid.out (by with_reducible assumption)) (by exact extX))) | (with_reducible exact RdI.ext (by with_reducible assumption) (by exact extX))) | (with_reducible exact RdPs.mk (RP.ext (Hid.out (by with_reducible assumption)) (by exact extX))) | (with_reducible exact RdPs.ext (by with_reducible assumption) (by exact extX)) | (with_reducible exact RdPl.mk (by (first | (with_reducible exact RI.ext (Hid.out (by with_reducible assumption)) (by exact extX))))) | (with_reducible exact RdPl.ext (by with_reducible assumption) (by exact extX)) | (with_reducible exact RdSig.mk (by (first | (with_reducible exact RI.ext (Hid.out (by with_reducible assumption)) (by exact extX))))) | (with_reducible exact RdSig.ext (by with_reducible assumption) (by exact extX))))).mono ?_); rw [HD.out]; rintro e w1 ⟨rfl, hE1⟩; have hz1 := sz_of hE1; (try simp only [World.size_alloc, World.size_setCell, World.size_drew] at hz1); obtain ⟨hc1, hf1⟩ := bcell hE1; (try have hq1_0 : w.heap.size < w1.heap.size := by omega); (try have hq1_1 : w.heap.size + 1 < w1.heap.size := by omega); (try have hq1_2 : w.heap.size + 1 + 1 < w1.heap.size := by omega); (try have hq1_3 : w.heap.size + 1 + 1 + 1 < w1.heap.size := by omega); (try have hq1_4 : w.heap.size + 1 + 1 + 1 + 1 < w1.heap.size := by omega); (try have hq1_5 : w.heap.size + 1 + 1 + 1 + 1 + 1 < w1.heap.size := by omega)
        go_wp2
        go_roundw
        case rel => exact ⟨k + 1, by go_num, by omega, HR, by exact extX⟩
        case measure => simp only [intOf]; omega
    · go_wp2
      go_ret
      exact ⟨⟨_, rfl, Lib.hid (by rw [anyZ_f hp.out (by rw [HL.out]; omega)]; simp)⟩, by exact extX⟩
set_option maxHeartbeats 400000 in
theorem c_containsZ {v : Value} {ps : List Pl} {w : World} (h0 : RdPs w v ps) :
    Calls Try.prog 39 #[v, .func (.func 40) #[] #[]] w fun e w' => e = .returned (.bool (anyZ ps)) ∧ Ext w w' := by
  obtain ⟨A, n, c, rfl, ha⟩ := h0
  have HA := Lib.hid ha
  clear ha
  go_enter Try.func39, Try.ntmps39
  go_wp2_with (go_at_call 71; (with_reducible refine (c_indexZ (ps := ps) (by (first | (first | (with_reducible exact RdI.mk (RI.ext (Hid.out (by with_reducible assumption)) (by exact extX))) | (with_reducible exact RdI.ext (by with_reducible assumption) (by exact extX))) | (with_reducible exact RdPs.mk (RP.ext (Hid.out (by with_reducible assumption)) (by exact extX))) | (with_reducible exact RdPs.ext (by with_reducible assumption) (by exact extX)) | (with_reducible exact RdPl.mk (by (first | (with_reducible exact RI.ext (Hid.out (by with_reducible assumption)) (by exact extX))))) | (with_reducible exact RdPl.ext (by with_reducible assumption) (by exact extX)) | (with_reducible exact RdSig.mk (by (first | (with_reducible exact RI.ext (Hid.out (by with_reducible assumption)) (by exact extX))))) | (with_reducible exact RdSig.ext (by with_reducible assumption) (by exact extX))))).mono ?_); rintro e w1 ⟨⟨y, rfl, hy⟩, hE1⟩; have hz1 := sz_of hE1; (try simp only [World.size_alloc, World.size_setCell, World.size_drew] at hz1); obtain ⟨hc1, hf1⟩ := bcell hE1; (try have hq1_0 : w.heap.size < w1.heap.size := by omega); (try have hq1_1 : w.heap.size + 1 < w1.heap.size := by omega); (try have hq1_2 : w.heap.size + 1 + 1 < w1.heap.size := by omega); (try have hq1_3 : w.heap.size + 1 + 1 + 1 < w1.heap.size := by omega); (try have hq1_4 : w.heap.size + 1 + 1 + 1 + 1 < w1.heap.size := by omega); (try have hq1_5 : w.heap.size + 1 + 1 + 1 + 1 + 1 < w1.heap.size := by omega))
  go_ret
  exact ⟨ret_bool (by first | exact hy.out | (rw [← hy.out]; simp)), by exact extX⟩
set_option maxHeartbeats 1000000 in
theorem c_iStrictIn {v0 v1 : Value} {ar : List Int} {ps : List Pl} {w : World} (h0 : RdSig w v0 ar) (h1 : RdPs w v1 ps) :
    Calls Try.prog 14 #[v0, v1] w fun e w' => e = .returned (.bool (strictIn ar ps)) ∧ Ext w w' := by
  obtain ⟨A, n, c, rfl, ha⟩ := h0
  obtain ⟨B, m, d, rfl, hb⟩ := h1
  have HA := Lib.hid ha
  have HB := Lib.hid hb
  clear ha hb
  cases hok : polysOk ar ps with
  | false =>
    have HR := Lib.hid (strictIn_no hok)
    go_enter Try.func14, Try.ntmps14
    go_wp2_with (go_at_call 32; (with_reducible refine (c_iPolysOk (ar := ar) (ps := ps) (by (first | (first | (with_reducible exact RdI.mk (RI.ext (Hid.out (by with_reducible assumption)) (by exact extX))) | (with_reducible exact RdI.ext (by with_reducible assumption) (by exact extX))) | (with_reducible exact RdPs.mk (RP.ext (Hid.out (by with_reducible assumption)) (by exact extX))) | (with_reducible exact RdPs.ext (by with_reducible assumption) (by exact extX)) | (with_reducible exact RdPl.mk (by (first | (with_reducible exact RI.ext (Hid.out (by with_reducible assumption)) (by exact extX))))) | (with_reducible exact RdPl.ext (by with_reducible assumption) (by exact extX)) | (with_reducible exact RdSig.mk (by (first | (with_reducible exact RI.ext (Hid.out (by with_reducible assumption)) (by exact extX))))) | (with_reducible exact RdSig.ext (by with_reducible assumption) (by exact extX)))) (by (first | (first | (with_reducible exact RdI.mk (RI.ext (Hid.out (by with_reducible assumption)) (by exact extX))) | (with_reducible exact RdI.ext (by with_reducible assumption) (by exact extX))) | (with_reducible exact RdPs.mk (RP.ext (Hid.out (by with_reducible assumption)) (by exact extX))) | (with_reducible exact RdPs.ext (by with_reducible assumption) (by exact extX)) | (with_reducible exact RdPl.mk (by (first | (with_reducible exact RI.ext (Hid.out (by with_reducible assumption)) (by exact extX))))) | (with_reducible exact RdPl.ext (by with_reducible assumption) (by exact extX)) | (with_reducible exact RdSig.mk (by (first | (with_reducible exact RI.ext (Hid.out (by with_reducible assumption)) (by exact extX))))) | (with_reducible exact RdSig.ext (by with_reducible assumption) (by exact extX))))).mono ?_); rintro e w1 ⟨rfl, hE1⟩; have hz1 := sz_of hE1; (try simp only [World.size_alloc, World.size_setCell, World.size_drew] at hz1); obtain ⟨hc1, hf1⟩ := bcell hE1; (try have hq1_0 : w.heap.size < w1.heap.size := by omega); (try have hq1_1 : w.heap.size + 1 < w1.heap.size := by omega); (try have hq1_2 : w.heap.size + 1 + 1 < w1.heap.size := by omega); (try have hq1_3 : w.heap.size + 1 + 1 + 1 < w1.heap.size := by omega); (try have hq1_4 : w.heap.size + 1 + 1 + 1 + 1 < w1.heap.size := by omega); (try have hq1_5 : w.heap.size + 1 + 1 + 1 + 1 + 1 < w1.heap.size := by omega))
    go_ret
    exact ⟨ret_bool HR.out.symm, by exact extX⟩
  | true =>
    have HR := Lib.hid (strict_anyZ hok)
    go_enter Try.func14, Try.ntmps14
    go_wp2_with (first
      | (go_at_call 32; (with_reducible refine (c_iPolysOk (ar := ar) (ps := ps) (by (first | (first | (with_reducible exact RdI.mk (RI.ext (Hid.out (by with_reducible assumption)) (by exact extX))) | (with_reducible exact RdI.ext (by with_reducible assumption) (by exact extX))) | (with_reducible exact RdPs.mk (RP.ext (Hid.out (by with_reducible assumption)) (by exact extX))) | (with_reducible exact RdPs.ext (by with_reducible assumption) (by exact extX)) | (with_reducible exact RdPl.mk (by (first | (with_reducible exact RI.ext (Hid.out (by with_reducible assumption)) (by exact extX))))) | (with_reducible exact RdPl.ext (by with_reducible assumption) (by exact extX)) | (with_reducible exact RdSig.mk (by (first | (with_reducible exact RI.ext (Hid.out (by with_reducible assumption)) (by exact extX))))) | (with_reducible exact RdSig.ext (by with_reducible assumption) (by exact extX)))) (by (first | (first | (with_reducible exact RdI.mk (RI.ext (Hid.out (by with_reducible assumption)) (by exact extX))) | (with_reducible exact RdI.ext (by with_reducible assumption) (by exact extX))) | (with_reducible exact RdPs.mk (RP.ext (Hid.out (by with_reducible assumption)) (by exact extX))) | (with_reducible exact RdPs.ext (by with_reducible assumption) (by exact extX)) | (with_reducible exact RdPl.mk (by (first | (with_reducible exact RI.ext (Hid.out (by with_reducible assumption)) (by exact extX))))) | (with_reducible exact RdPl.ext (by with_reducible assumption) (by exact extX)) | (with_reducible exact RdSig.mk (by (first | (with_reducible exact RI.ext (Hid.out (by with_reducible assumption)) (by exact extX))))) | (with_reducible exact RdSig.ext (by with_reducible assumption) (by exact extX))))).mono ?_); rintro e w1 ⟨rfl, hE1⟩; have hz1 := sz_of hE1; (try simp only [World.size_alloc, World.size_setCell, World.size_drew] at hz1); obtain ⟨hc1, hf1⟩ := bcell hE1; (try have hq1_0 : w.heap.size < w1.heap.size := by omega); (try have hq1_1 : w.heap.size + 1 < w1.heap.size := by omega); (try have hq1_2 : w.heap.size + 1 + 1 < w1.heap.size := by omega); (try have hq1_3 : w.heap.size + 1 + 1 + 1 < w1.heap.size := by omega); (try have hq1_4 : w.heap.size + 1 + 1 + 1 + 1 < w1.heap.size := by omega); (try have hq1_5 : w.heap.size + 1 + 1 + 1 + 1 + 1 < w1.heap.size := by omega))
      | (go_at_call 39; (with_reducible refine (c_containsZ (ps := ps) (by (first | (first | (with_reducible exact RdI.mk (RI.ext (Hid.out (by with_reducible assumption)) (by exact extX))) | (with_reducible exact RdI.ext (by with_reducible assumption) (by exact extX))) | (with_reducible exact RdPs.mk (RP.ext (Hid.out (by with_reducible assumption)) (by exact extX))) | (with_reducible exact RdPs.ext (by with_reducible assumption) (by exact extX)) | (with_reducible exact RdPl.mk (by (first | (with_reducible exact RI.ext (Hid.out (by with_reducible assumption)) (by exact extX))))) | (with_reducible exact RdPl.ext (by with_reducible assumption) (by exact extX)) | (with_reducible exact RdSig.mk (by (first | (with_reducible exact RI.ext (Hid.out (by with_reducible assumption)) (by exact extX))))) | (with_reducible exact RdSig.ext (by with_reducible assumption) (by exact extX))))).mono ?_); rintro e w2 ⟨rfl, hE2⟩; have hz2 := sz_of hE2; (try simp only [World.size_alloc, World.size_setCell, World.size_drew] at hz2); obtain ⟨hc2, hf2⟩ := bcell hE2; (try have hq2_0 : w.heap.size < w2.heap.size := by omega); (try have hq2_1 : w.heap.size + 1 < w2.heap.size := by omega); (try have hq2_2 : w.heap.size + 1 + 1 < w2.heap.size := by omega); (try have hq2_3 : w.heap.size + 1 + 1 + 1 < w2.heap.size := by omega); (try have hq2_4 : w.heap.size + 1 + 1 + 1 + 1 < w2.heap.size := by omega); (try have hq2_5 : w.heap.size + 1 + 1 + 1 + 1 + 1 < w2.heap.size := by omega); (try have hx2_1 : w1.heap.size < w2.heap.size := by omega)))
    all_goals go_ret
    all_goals exact ⟨ret_bool (by rw [HR.out]), by exact extX⟩

end Go.Proofs.Ytljbjabgdalabaa
