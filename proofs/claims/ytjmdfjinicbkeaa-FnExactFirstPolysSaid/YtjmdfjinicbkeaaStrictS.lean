import Derived.Test.YtjmdfjinicbkeaaPolysOk
import Derived.Test.YtjmdfjinicbkeaaRank
import Derived.Test.YtjmdfjinicbkeaaMStrict
-- rd: RdPl RdPs
namespace Go.Proofs.Ytjmdfjinicbkeaa
open Go.RowKit
set_option linter.unusedSimpArgs false
set_option linter.unusedVariables false

set_option maxRecDepth 100000 in
set_option maxHeartbeats 2000000 in
theorem c_sStrictIn {v0 v1 : Value} {ar : List Int} {ps : List Pl} {w : World} (h0 : RdSig w v0 ar) (h1 : RdPs w v1 ps) :
    Calls Try.prog 91 #[v0, v1] w fun e w' => e = .returned (.bool (strictIn ar ps)) ∧ Ext w w' := by
  obtain ⟨A, n, c, rfl, ha⟩ := h0
  obtain ⟨B, m, d, rfl, hb⟩ := h1
  have hm := hb.le
  have hl := hb.len
  have HA := Lib.hid ha
  have HB := Lib.hid hb
  have HL := Lib.hid hl
  clear ha hb hl
  cases hok : polysOk ar ps with
  | false =>
    have HR := Lib.hid (strictIn_no hok)
    go_enter Try.func91, Try.ntmps91
    go_wp2_with (go_at_call 114; (with_reducible refine (c_sPolysOk (ar := ar) (ps := ps) (by (first | (first | (with_reducible exact RdI.mk (RI.ext (Hid.out (by with_reducible assumption)) (by exact extX))) | (with_reducible exact RdI.ext (by with_reducible assumption) (by exact extX))) | (with_reducible exact RdPs.mk (RP.ext (Hid.out (by with_reducible assumption)) (by exact extX))) | (with_reducible exact RdPs.ext (by with_reducible assumption) (by exact extX)) | (with_reducible exact RdPl.mk (by (first | (with_reducible exact RI.ext (Hid.out (by with_reducible assumption)) (by exact extX))))) | (with_reducible exact RdPl.ext (by with_reducible assumption) (by exact extX)) | (with_reducible exact RdSig.mk (by (first | (with_reducible exact RI.ext (Hid.out (by with_reducible assumption)) (by exact extX))))) | (with_reducible exact RdSig.ext (by with_reducible assumption) (by exact extX)))) (by (first | (first | (with_reducible exact RdI.mk (RI.ext (Hid.out (by with_reducible assumption)) (by exact extX))) | (with_reducible exact RdI.ext (by with_reducible assumption) (by exact extX))) | (with_reducible exact RdPs.mk (RP.ext (Hid.out (by with_reducible assumption)) (by exact extX))) | (with_reducible exact RdPs.ext (by with_reducible assumption) (by exact extX)) | (with_reducible exact RdPl.mk (by (first | (with_reducible exact RI.ext (Hid.out (by with_reducible assumption)) (by exact extX))))) | (with_reducible exact RdPl.ext (by with_reducible assumption) (by exact extX)) | (with_reducible exact RdSig.mk (by (first | (with_reducible exact RI.ext (Hid.out (by with_reducible assumption)) (by exact extX))))) | (with_reducible exact RdSig.ext (by with_reducible assumption) (by exact extX))))).mono ?_); rintro e w1 ⟨rfl, hE1⟩; have hz1 := sz_of hE1; (try simp only [World.size_alloc, World.size_setCell, World.size_drew] at hz1); obtain ⟨hc1, hf1⟩ := bcell hE1; (try have hq1_0 : w.heap.size < w1.heap.size := by omega); (try have hq1_1 : w.heap.size + 1 < w1.heap.size := by omega); (try have hq1_2 : w.heap.size + 1 + 1 < w1.heap.size := by omega); (try have hq1_3 : w.heap.size + 1 + 1 + 1 < w1.heap.size := by omega); (try have hq1_4 : w.heap.size + 1 + 1 + 1 + 1 < w1.heap.size := by omega); (try have hq1_5 : w.heap.size + 1 + 1 + 1 + 1 + 1 < w1.heap.size := by omega))
    go_ret
    exact ⟨ret_bool HR.out.symm, by exact extX⟩
  | true =>
    have HOK := Lib.hid hok
    go_enter Try.func91, Try.ntmps91
    go_wp2_with (go_at_call 114; (with_reducible refine (c_sPolysOk (ar := ar) (ps := ps) (by (first | (first | (with_reducible exact RdI.mk (RI.ext (Hid.out (by with_reducible assumption)) (by exact extX))) | (with_reducible exact RdI.ext (by with_reducible assumption) (by exact extX))) | (with_reducible exact RdPs.mk (RP.ext (Hid.out (by with_reducible assumption)) (by exact extX))) | (with_reducible exact RdPs.ext (by with_reducible assumption) (by exact extX)) | (with_reducible exact RdPl.mk (by (first | (with_reducible exact RI.ext (Hid.out (by with_reducible assumption)) (by exact extX))))) | (with_reducible exact RdPl.ext (by with_reducible assumption) (by exact extX)) | (with_reducible exact RdSig.mk (by (first | (with_reducible exact RI.ext (Hid.out (by with_reducible assumption)) (by exact extX))))) | (with_reducible exact RdSig.ext (by with_reducible assumption) (by exact extX)))) (by (first | (first | (with_reducible exact RdI.mk (RI.ext (Hid.out (by with_reducible assumption)) (by exact extX))) | (with_reducible exact RdI.ext (by with_reducible assumption) (by exact extX))) | (with_reducible exact RdPs.mk (RP.ext (Hid.out (by with_reducible assumption)) (by exact extX))) | (with_reducible exact RdPs.ext (by with_reducible assumption) (by exact extX)) | (with_reducible exact RdPl.mk (by (first | (with_reducible exact RI.ext (Hid.out (by with_reducible assumption)) (by exact extX))))) | (with_reducible exact RdPl.ext (by with_reducible assumption) (by exact extX)) | (with_reducible exact RdSig.mk (by (first | (with_reducible exact RI.ext (Hid.out (by with_reducible assumption)) (by exact extX))))) | (with_reducible exact RdSig.ext (by with_reducible assumption) (by exact extX))))).mono ?_); rintro e w1 ⟨rfl, hE1⟩; have hz1 := sz_of hE1; (try simp only [World.size_alloc, World.size_setCell, World.size_drew] at hz1); obtain ⟨hc1, hf1⟩ := bcell hE1; (try have hq1_0 : w.heap.size < w1.heap.size := by omega); (try have hq1_1 : w.heap.size + 1 < w1.heap.size := by omega); (try have hq1_2 : w.heap.size + 1 + 1 < w1.heap.size := by omega); (try have hq1_3 : w.heap.size + 1 + 1 + 1 < w1.heap.size := by omega); (try have hq1_4 : w.heap.size + 1 + 1 + 1 + 1 < w1.heap.size := by omega); (try have hq1_5 : w.heap.size + 1 + 1 + 1 + 1 + 1 < w1.heap.size := by omega))
    go_loopw [5, 6] (fun i _ wr => ∃ k : Nat, i = .int .i64 k ∧ k ≤ m ∧ Hid (∀ (j : Nat) (p : Pl), j < k → ps[j]? = some p → ∀ x ∈ p.cf, 1 ≤ x) ∧ Ext w1 wr) (fun i _ _ => m - (intOf i).toNat)
    case atStart => exact ⟨0, rfl, Nat.zero_le _, Lib.hid (fun j p hj => by omega), by exact extX⟩
    case round =>
      obtain ⟨k, rfl, hk, hp, hE2⟩ := hrel
      have hw : Ext w wr := by exact extX
      by_cases hlt : k < m
      · obtain ⟨b, o, p, A', m1, c1, rfl, hy, hd1, hd2, hri⟩ := RP.at_ (RP.ext HB.out hw) hlt
        have hm1 := hri.le
        have HY := Lib.hid hy
        have HRI := Lib.hid hri
        have HL1 := Lib.hid hri.len
        clear hy hri
        go_wp2
        obtain ⟨wo, rfl⟩ : ∃ wo : World, wo = wr := ⟨_, rfl⟩
        go_loopw [6] (fun i wr => ∃ q : Nat, i = .int .i64 q ∧ q ≤ m1 ∧ Hid (∀ (j : Nat) (x : Int), j < q → p.cf[j]? = some x → 1 ≤ x) ∧ Ext wo wr) (fun i _ => m1 - (intOf i).toNat)
        case atStart => exact ⟨0, rfl, Nat.zero_le _, Lib.hid (fun j x hj => by omega), by exact extX⟩
        case round =>
          obtain ⟨q, rfl, hq, hp2, hE3⟩ := hrel
          have hd2' : wr.cell? ⟨b, o + k * 2 + 1, none⟩ = some (.slice A' m1 c1) := Ext.keep hE3 hd2
          by_cases hlt2 : q < m1
          · obtain ⟨b2, o2, y, rfl, hy2, hcy⟩ := RI.at_ (RI.ext HRI.out (by exact extX : Ext wo wr)) hlt2
            have HY2 := Lib.hid hy2
            clear hy2
            by_cases h4 : y < 1
            · have HR := Lib.hid (strictIn_f (ar := ar) (strict_bad HY.out HY2.out h4))
              go_wp2
              go_ret
              exact ⟨ret_bool HR.out.symm, by exact extX⟩
            · have HR := Lib.hid (uptoG_succ (P := fun x : Int => 1 ≤ x) hp2.out HY2.out (by omega))
              go_wp2
              go_roundw
              case rel => exact ⟨q + 1, by go_num, by omega, HR, by exact extX⟩
              case measure => simp only [intOf]; omega
          · have HR := Lib.hid (uptoG_succ (P := fun p : Pl => ∀ x ∈ p.cf, 1 ≤ x) hp.out HY.out (uptoG_all hp2.out (by rw [HL1.out]; omega)))
            go_wp2
            go_roundw
            case rel => exact ⟨k + 1, by go_num, by omega, HR, by exact extX⟩
            case measure => simp only [intOf]; omega
      · go_wp2
        go_ret
        exact ⟨ret_bool (strictIn_t HOK.out (strict_all hp.out (by rw [HL.out]; omega))).symm, by exact extX⟩

end Go.Proofs.Ytjmdfjinicbkeaa
