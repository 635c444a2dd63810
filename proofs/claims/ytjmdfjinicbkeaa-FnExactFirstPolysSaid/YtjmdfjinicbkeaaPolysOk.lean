import Derived.Test.YtjmdfjinicbkeaaPoly
import Derived.StillTailTactics
-- rd: RdPl RdPs
namespace Go.Proofs.Ytjmdfjinicbkeaa
open Go.RowKit
set_option linter.unusedSimpArgs false
set_option linter.unusedVariables false

theorem pl_bad {n : Int} {p : Pl} (h : ¬ ((p.cf.length : Int) = n ∧ 0 ≤ p.c ∧ p.c ≤ 9)) : ¬ PlAt n p := fun a => h ⟨a.1, a.2.1⟩
theorem pl_badx {n : Int} {p : Pl} {x : Int} {k : Nat} (hx : p.cf[k]? = some x) (h : ¬ (0 ≤ x ∧ x ≤ 9)) : ¬ PlAt n p := fun a => h (a.2.2 x (List.mem_of_getElem? hx))
theorem pl_ok {n : Int} {p : Pl} {k : Nat} (h1 : (p.cf.length : Int) = n ∧ 0 ≤ p.c ∧ p.c ≤ 9) (h : ∀ (j : Nat) (x : Int), j < k → p.cf[j]? = some x → 0 ≤ x ∧ x ≤ 9) (hk : p.cf.length ≤ k) : PlAt n p :=
  ⟨h1.1, h1.2, fun x hx => by
    obtain ⟨j, hj, rfl⟩ := List.mem_iff_getElem.1 hx
    exact h j _ (by omega) (List.getElem?_eq_getElem hj)⟩
theorem upto_succ {xs : List Int} {k : Nat} {P : Int → Prop} {z : Int} (h : ∀ (j : Nat) (x : Int), j < k → xs[j]? = some x → P x) (hz : xs[k]? = some z) (hp : P z) : ∀ (j : Nat) (x : Int), j < k + 1 → xs[j]? = some x → P x := by
  intro j x hj hx
  rcases Nat.lt_or_ge j k with h' | h'
  · exact h j x h' hx
  · obtain rfl : j = k := by omega
    rw [hz] at hx; cases hx; exact hp
theorem upto2_succ {ps : List Pl} {ar : List Int} {k : Nat} {z : Pl} {m : Int} (h : ∀ (j : Nat) (p : Pl) (n : Int), j < k → ps[j]? = some p → ar[j]? = some n → PlAt n p) (hz : ps[k]? = some z) (hm : ar[k]? = some m) (hp : PlAt m z) :
    ∀ (j : Nat) (p : Pl) (n : Int), j < k + 1 → ps[j]? = some p → ar[j]? = some n → PlAt n p := by
  intro j x n hj hx hn
  rcases Nat.lt_or_ge j k with h' | h'
  · exact h j x n h' hx hn
  · obtain rfl : j = k := by omega
    rw [hz] at hx; rw [hm] at hn; cases hx; cases hn; exact hp

set_option maxHeartbeats 1000000 in
theorem c_l15Poly {v : Value} {p : Pl} {n : Int} {w : World} (h0 : RdPl w v p) :
    Calls Try.prog 145 #[v, .int .i64 n] w fun e w' => e = .returned (.bool (plAt n p)) ∧ Ext w w' := by
  obtain ⟨A, m, c, rfl, ha⟩ := h0
  have hm := ha.le
  have hl := ha.len
  have HA := Lib.hid ha
  have HL := Lib.hid hl
  clear ha hl
  by_cases h1 : 0 ≤ p.c ∧ p.c ≤ 9
  · have H1 := Lib.hid h1
    by_cases h2 : (m : Int) = n
    · subst h2
      have HOK := Lib.hid (show (p.cf.length : Int) = m ∧ 0 ≤ p.c ∧ p.c ≤ 9 from ⟨by rw [HL.out], h1⟩)
      have hmm : ((m : Int) != (m : Int)) = false := by simp
      clear h1
      go_enter Try.func145, Try.ntmps145
      go_wp2_with (go_at_call 89; (with_reducible refine (s_l1In_t H1.out).mono ?_); rintro e w2 ⟨rfl, rfl⟩)
      go_loopw [5] (fun i wr => ∃ k : Nat, i = .int .i64 k ∧ k ≤ m ∧ Hid (∀ (j : Nat) (x : Int), j < k → p.cf[j]? = some x → 0 ≤ x ∧ x ≤ 9) ∧ Ext (w.alloc (.cells #[.int .i64 p.c, .slice A m c] 90)) wr) (fun i _ => m - (intOf i).toNat)
      case atStart => exact ⟨0, rfl, Nat.zero_le _, Lib.hid (fun j x hj => by omega), by exact extX⟩
      case round =>
        obtain ⟨k, rfl, hk, hp, hE2⟩ := hrel
        have hw : Ext w wr := by exact extX
        have hb0 : wr.cell? ⟨w.heap.size, 0, none⟩ = some (.int .i64 p.c) := Ext.keep hE2 (by simp [go_sem])
        have hb1 : wr.cell? ⟨w.heap.size, 1, none⟩ = some (.slice A m c) := Ext.keep hE2 (by simp [go_sem])
        by_cases hlt : k < m
        · obtain ⟨b, o, x, rfl, hx, hcx⟩ := RI.at_ (RI.ext HA.out hw) hlt
          have HX := Lib.hid hx
          clear hx
          by_cases hin : 0 ≤ x ∧ x ≤ 9
          · have HIN := Lib.hid hin
            have HR := Lib.hid (upto_succ hp.out HX.out hin)
            clear hin
            go_wp2_with (go_at_call 89; (with_reducible refine (s_l1In_t HIN.out).mono ?_); rintro e w2 ⟨rfl, rfl⟩)
            go_roundw
            case rel => exact ⟨k + 1, by go_num, by omega, HR, by exact extX⟩
            case measure => simp only [intOf]; omega
          · have HIN := Lib.hid hin
            have HR := Lib.hid (plAt_f (pl_badx (n := (m : Int)) HX.out hin))
            clear hin
            go_wp2_with (go_at_call 89; (with_reducible refine (s_l1In_f HIN.out).mono ?_); rintro e w2 ⟨rfl, rfl⟩)
            go_ret
            exact ⟨ret_bool HR.out.symm, by exact extX⟩
        · go_wp2
          go_ret
          exact ⟨ret_bool (plAt_t (pl_ok HOK.out hp.out (by rw [HL.out]; omega))).symm, by exact extX⟩
    · have hmn : ((m : Int) != n) = true := by simpa using h2
      have HR := Lib.hid (plAt_f (pl_bad (n := n) (p := p) fun a => h2 (by rw [← HL.out]; exact a.1)))
      clear h1 h2
      go_enter Try.func145, Try.ntmps145
      go_wp2_with (go_at_call 89; (with_reducible refine (s_l1In_t H1.out).mono ?_); rintro e w2 ⟨rfl, rfl⟩)
      go_ret
      exact ⟨ret_bool HR.out.symm, by exact extX⟩
  · have H1 := Lib.hid h1
    have HR := Lib.hid (plAt_f (pl_bad (n := n) (p := p) fun a => h1 a.2))
    clear h1
    go_enter Try.func145, Try.ntmps145
    go_wp2_with (go_at_call 89; (with_reducible refine (s_l1In_f H1.out).mono ?_); rintro e w2 ⟨rfl, rfl⟩)
    go_ret
    exact ⟨ret_bool HR.out.symm, by exact extX⟩
set_option maxRecDepth 100000 in
set_option maxHeartbeats 1000000 in
theorem c_sPolysOk {v0 v1 : Value} {ar : List Int} {ps : List Pl} {w : World} (h0 : RdSig w v0 ar) (h1 : RdPs w v1 ps) :
    Calls Try.prog 114 #[v0, v1] w fun e w' => e = .returned (.bool (polysOk ar ps)) ∧ Ext w w' := by
  obtain ⟨A, n, c, rfl, ha⟩ := h0
  obtain ⟨B, m, d, rfl, hb⟩ := h1
  have hn := ha.le
  have hm := hb.le
  have hl := ha.len
  have hk2 := hb.len
  have HA := Lib.hid ha
  have HB := Lib.hid hb
  have HL := Lib.hid hl
  have HM := Lib.hid hk2
  clear ha hb hl hk2
  cases hok : sigOk ar with
  | false =>
    have HR := Lib.hid (polysOk_sig (ps := ps) hok)
    go_enter Try.func114, Try.ntmps114
    go_wp2_with (go_at_call 79; (with_reducible refine (c_sSigOk (ar := ar) (by (first | (first | (with_reducible exact RdI.mk (RI.ext (Hid.out (by with_reducible assumption)) (by exact extX))) | (with_reducible exact RdI.ext (by with_reducible assumption) (by exact extX))) | (with_reducible exact RdPs.mk (RP.ext (Hid.out (by with_reducible assumption)) (by exact extX))) | (with_reducible exact RdPs.ext (by with_reducible assumption) (by exact extX)) | (with_reducible exact RdPl.mk (by (first | (with_reducible exact RI.ext (Hid.out (by with_reducible assumption)) (by exact extX))))) | (with_reducible exact RdPl.ext (by with_reducible assumption) (by exact extX)) | (with_reducible exact RdSig.mk (by (first | (with_reducible exact RI.ext (Hid.out (by with_reducible assumption)) (by exact extX))))) | (with_reducible exact RdSig.ext (by with_reducible assumption) (by exact extX))))).mono ?_); rintro e w1 ⟨rfl, hE1⟩; have hz1 := sz_of hE1; (try simp only [World.size_alloc, World.size_setCell, World.size_drew] at hz1); obtain ⟨hc1, hf1⟩ := bcell hE1; (try have hq1_0 : w.heap.size < w1.heap.size := by omega); (try have hq1_1 : w.heap.size + 1 < w1.heap.size := by omega); (try have hq1_2 : w.heap.size + 1 + 1 < w1.heap.size := by omega); (try have hq1_3 : w.heap.size + 1 + 1 + 1 < w1.heap.size := by omega); (try have hq1_4 : w.heap.size + 1 + 1 + 1 + 1 < w1.heap.size := by omega); (try have hq1_5 : w.heap.size + 1 + 1 + 1 + 1 + 1 < w1.heap.size := by omega))
    go_ret
    exact ⟨ret_bool HR.out.symm, by exact extX⟩
  | true =>
    have HS := Lib.hid hok
    by_cases hnm : m = n
    · subst hnm
      have hmm : ((m : Int) != (m : Int)) = false := by simp
      go_enter Try.func114, Try.ntmps114
      go_wp2_with (go_at_call 79; (with_reducible refine (c_sSigOk (ar := ar) (by (first | (first | (with_reducible exact RdI.mk (RI.ext (Hid.out (by with_reducible assumption)) (by exact extX))) | (with_reducible exact RdI.ext (by with_reducible assumption) (by exact extX))) | (with_reducible exact RdPs.mk (RP.ext (Hid.out (by with_reducible assumption)) (by exact extX))) | (with_reducible exact RdPs.ext (by with_reducible assumption) (by exact extX)) | (with_reducible exact RdPl.mk (by (first | (with_reducible exact RI.ext (Hid.out (by with_reducible assumption)) (by exact extX))))) | (with_reducible exact RdPl.ext (by with_reducible assumption) (by exact extX)) | (with_reducible exact RdSig.mk (by (first | (with_reducible exact RI.ext (Hid.out (by with_reducible assumption)) (by exact extX))))) | (with_reducible exact RdSig.ext (by with_reducible assumption) (by exact extX))))).mono ?_); rintro e w1 ⟨rfl, hE1⟩; have hz1 := sz_of hE1; (try simp only [World.size_alloc, World.size_setCell, World.size_drew] at hz1); obtain ⟨hc1, hf1⟩ := bcell hE1; (try have hq1_0 : w.heap.size < w1.heap.size := by omega); (try have hq1_1 : w.heap.size + 1 < w1.heap.size := by omega); (try have hq1_2 : w.heap.size + 1 + 1 < w1.heap.size := by omega); (try have hq1_3 : w.heap.size + 1 + 1 + 1 < w1.heap.size := by omega); (try have hq1_4 : w.heap.size + 1 + 1 + 1 + 1 < w1.heap.size := by omega); (try have hq1_5 : w.heap.size + 1 + 1 + 1 + 1 + 1 < w1.heap.size := by omega))
      go_loopw [5] (fun i wr => ∃ k : Nat, i = .int .i64 k ∧ k ≤ m ∧ Hid (∀ (j : Nat) (p : Pl) (n : Int), j < k → ps[j]? = some p → ar[j]? = some n → PlAt n p) ∧ Ext w1 wr) (fun i _ => m - (intOf i).toNat)
      case atStart => exact ⟨0, rfl, Nat.zero_le _, Lib.hid (fun j p n hj => by omega), by exact extX⟩
      case round =>
        obtain ⟨k, rfl, hk, hp, hE2⟩ := hrel
        have hw : Ext w wr := by exact extX
        have hb0 : wr.cell? ⟨w.heap.size, 0, none⟩ = some (.slice A m c) := Ext.keep hE2 (by simp [go_sem, hc1, hq1_0])
        by_cases hlt : k < m
        · obtain ⟨b, o, x, rfl, hx, hcx⟩ := RI.at_ (RI.ext HA.out hw) hlt
          obtain ⟨b', o', p, A', m1, c1, rfl, hy, hd1, hd2, hri⟩ := RP.at_ (RP.ext HB.out hw) hlt
          have HX := Lib.hid hx
          have HY := Lib.hid hy
          have HRI := Lib.hid hri
          clear hx hy hri
          have hlt' : (k : Int) < (m : Int) := by omega
          go_wp2_with fail
          go_still_tail 9, (by kernel_rfl)
          change wpList _ _ _ _ _ wr.drew
          have hE1 : Ext w wr.drew := by exact extX
          by_cases hin : PlAt x p
          · have HR := Lib.hid (upto2_succ hp.out HY.out HX.out hin)
            have HP := Lib.hid (plAt_t hin)
            clear hin
            go_wp2_with (go_at_call 145; (with_reducible refine (c_l15Poly (p := p) (RdPl.mk (RI.ext HRI.out (by exact extX)))).mono ?_); rw [HP.out]; rintro e w3 ⟨rfl, hE3⟩; have hz3 := sz_of hE3; (try simp only [World.size_alloc, World.size_setCell, World.size_drew] at hz3); obtain ⟨hc3, hf3⟩ := bcell hE3; (try have hq3_0 : w.heap.size < w3.heap.size := by omega); (try have hq3_1 : w.heap.size + 1 < w3.heap.size := by omega); (try have hq3_2 : w.heap.size + 1 + 1 < w3.heap.size := by omega); (try have hq3_3 : w.heap.size + 1 + 1 + 1 < w3.heap.size := by omega); (try have hq3_4 : w.heap.size + 1 + 1 + 1 + 1 < w3.heap.size := by omega); (try have hq3_5 : w.heap.size + 1 + 1 + 1 + 1 + 1 < w3.heap.size := by omega); (try have hx3_1 : w1.heap.size < w3.heap.size := by omega); (try have hx3_2 : w2.heap.size < w3.heap.size := by omega))
            go_roundw
            case rel => exact ⟨k + 1, by go_num, by omega, HR, by exact extX⟩
            case measure => simp only [intOf]; omega
          · have HR := Lib.hid (polysOk_at HY.out HX.out hin)
            have HP := Lib.hid (plAt_f hin)
            clear hin
            go_wp2_with (go_at_call 145; (with_reducible refine (c_l15Poly (p := p) (RdPl.mk (RI.ext HRI.out (by exact extX)))).mono ?_); rw [HP.out]; rintro e w3 ⟨rfl, hE3⟩; have hz3 := sz_of hE3; (try simp only [World.size_alloc, World.size_setCell, World.size_drew] at hz3); obtain ⟨hc3, hf3⟩ := bcell hE3; (try have hq3_0 : w.heap.size < w3.heap.size := by omega); (try have hq3_1 : w.heap.size + 1 < w3.heap.size := by omega); (try have hq3_2 : w.heap.size + 1 + 1 < w3.heap.size := by omega); (try have hq3_3 : w.heap.size + 1 + 1 + 1 < w3.heap.size := by omega); (try have hq3_4 : w.heap.size + 1 + 1 + 1 + 1 < w3.heap.size := by omega); (try have hq3_5 : w.heap.size + 1 + 1 + 1 + 1 + 1 < w3.heap.size := by omega); (try have hx3_1 : w1.heap.size < w3.heap.size := by omega); (try have hx3_2 : w2.heap.size < w3.heap.size := by omega))
            go_ret
            exact ⟨ret_bool HR.out.symm, by exact extX⟩
        · go_wp2
          go_ret
          exact ⟨ret_bool (polysOk_all HS.out (by rw [HL.out, HM.out]) fun j p x hj hp' hx => hp.out j p x (by rw [HM.out] at hj; omega) hp' hx).symm, by exact extX⟩
    · have hmn : ((m : Int) != (n : Int)) = true := by simp; omega
      have HR := Lib.hid (polysOk_len (ar := ar) (ps := ps) (by rw [HL.out, HM.out]; exact hnm))
      go_enter Try.func114, Try.ntmps114
      go_wp2_with (go_at_call 79; (with_reducible refine (c_sSigOk (ar := ar) (by (first | (first | (with_reducible exact RdI.mk (RI.ext (Hid.out (by with_reducible assumption)) (by exact extX))) | (with_reducible exact RdI.ext (by with_reducible assumption) (by exact extX))) | (with_reducible exact RdPs.mk (RP.ext (Hid.out (by with_reducible assumption)) (by exact extX))) | (with_reducible exact RdPs.ext (by with_reducible assumption) (by exact extX)) | (with_reducible exact RdPl.mk (by (first | (with_reducible exact RI.ext (Hid.out (by with_reducible assumption)) (by exact extX))))) | (with_reducible exact RdPl.ext (by with_reducible assumption) (by exact extX)) | (with_reducible exact RdSig.mk (by (first | (with_reducible exact RI.ext (Hid.out (by with_reducible assumption)) (by exact extX))))) | (with_reducible exact RdSig.ext (by with_reducible assumption) (by exact extX))))).mono ?_); rintro e w1 ⟨rfl, hE1⟩; have hz1 := sz_of hE1; (try simp only [World.size_alloc, World.size_setCell, World.size_drew] at hz1); obtain ⟨hc1, hf1⟩ := bcell hE1; (try have hq1_0 : w.heap.size < w1.heap.size := by omega); (try have hq1_1 : w.heap.size + 1 < w1.heap.size := by omega); (try have hq1_2 : w.heap.size + 1 + 1 < w1.heap.size := by omega); (try have hq1_3 : w.heap.size + 1 + 1 + 1 < w1.heap.size := by omega); (try have hq1_4 : w.heap.size + 1 + 1 + 1 + 1 < w1.heap.size := by omega); (try have hq1_5 : w.heap.size + 1 + 1 + 1 + 1 + 1 < w1.heap.size := by omega))
      go_ret
      exact ⟨ret_bool HR.out.symm, by exact extX⟩
theorem c_sPolysOk' {b : Bool} {v0 v1 : Value} {ar : List Int} {ps : List Pl} {w : World} (hb : polysOk ar ps = b) (h0 : RdSig w v0 ar) (h1 : RdPs w v1 ps) :
    Calls Try.prog 114 #[v0, v1] w fun e w' => e = .returned (.bool b) ∧ Ext w w' := by rw [← hb]; exact c_sPolysOk h0 h1

end Go.Proofs.Ytjmdfjinicbkeaa
