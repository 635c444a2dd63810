/- LpoGreatest of the reference. -/
import Derived.Test.YtejmlbcafemieaaLpsI
import Derived.Test.YtejmlbcafemieaaLpoMI
-- rd: RdSS
namespace Go.Proofs.Ytejmlbcafemieaa
open Go.RowKit
set_option linter.unusedSimpArgs false
set_option linter.unusedVariables false

theorem all_snoc {p : List Int → Bool} {ts : List (List Int)} {k : Nat} {u : List Int} (h : ts[k]? = some u) : (ts.take (k + 1)).all p = ((ts.take k).all p && p u) := by
  obtain ⟨hk, rfl⟩ := List.getElem?_eq_some_iff.1 h
  rw [List.take_succ_eq_append_getElem hk, List.all_append]; simp
set_option maxRecDepth 100000 in
set_option maxHeartbeats 8000000 in
theorem c_sLpoGreatest {v0 v1 v2 : Value} {ar rk : List Int} {ts : List (List Int)} {w : World} (h0 : RdSig w v0 ar) (h1 : RdI w v1 rk) (h2 : RdSc w v2 ts) :
    Calls Try.prog 11 #[v0, v1, v2] w fun e w' => e = .returned (.int .i64 (lpoMaxV ar rk ts)) ∧ Ext w w' := by
  obtain ⟨D, q, l, rfl, ha⟩ := h0
  obtain ⟨B, m, d, rfl, hb⟩ := h1
  obtain ⟨A, n, c, rfl, hnc, ht⟩ := h2
  have hn := ht.1.2
  have HL := Lib.hid ht.1.1
  have HA := Lib.hid ha
  have HB := Lib.hid hb
  have HT := Lib.hid ht
  clear ha hb ht
  cases hrk : rankOk ar rk with
  | false =>
    have HBAD := Lib.hid (lpoMax_bad (ar := ar) (rk := rk) (ts := ts) (by unfold lpoMaxOk; rw [hrk]; simp))
    have HRK := Lib.hid hrk
    clear hrk
    go_enter Try.func11, Try.ntmps11
    go_wp2_with fail
    (with_reducible refine (c_sRankOk2 HRK.out (RdSig.mk (RI.ext HA.out (by (repeat' (first | (with_reducible exact Ext.refl _) | (with_reducible assumption) | (with_reducible refine Ext.alloc ?_ _) | (with_reducible refine Ext.set ?_ ?_ _) | (with_reducible refine Ext.drewN ?_ _) | (with_reducible refine Ext.drew ?_) | (with_reducible refine Ext.trans ?_ (by with_reducible assumption)) | go_size))))) (RdI.mk (RI.ext HB.out (by (repeat' (first | (with_reducible exact Ext.refl _) | (with_reducible assumption) | (with_reducible refine Ext.alloc ?_ _) | (with_reducible refine Ext.set ?_ ?_ _) | (with_reducible refine Ext.drewN ?_ _) | (with_reducible refine Ext.drew ?_) | (with_reducible refine Ext.trans ?_ (by with_reducible assumption)) | go_size)))))).mono ?_)
    rintro e w1 ⟨rfl, hE1⟩
    go_wp2
    go_ret
    exact ⟨ret_int HBAD.out.symm, by (repeat' (first | (with_reducible exact Ext.refl _) | (with_reducible assumption) | (with_reducible refine Ext.alloc ?_ _) | (with_reducible refine Ext.set ?_ ?_ _) | (with_reducible refine Ext.drewN ?_ _) | (with_reducible refine Ext.drew ?_) | (with_reducible refine Ext.trans ?_ (by with_reducible assumption)) | go_size))⟩
  | true =>
    have HRK := Lib.hid hrk
    clear hrk
    go_enter Try.func11, Try.ntmps11
    go_wp2_with fail
    (with_reducible refine (c_sRankOk2 HRK.out (RdSig.mk (RI.ext HA.out (by (repeat' (first | (with_reducible exact Ext.refl _) | (with_reducible assumption) | (with_reducible refine Ext.alloc ?_ _) | (with_reducible refine Ext.set ?_ ?_ _) | (with_reducible refine Ext.drewN ?_ _) | (with_reducible refine Ext.drew ?_) | (with_reducible refine Ext.trans ?_ (by with_reducible assumption)) | go_size))))) (RdI.mk (RI.ext HB.out (by (repeat' (first | (with_reducible exact Ext.refl _) | (with_reducible assumption) | (with_reducible refine Ext.alloc ?_ _) | (with_reducible refine Ext.set ?_ ?_ _) | (with_reducible refine Ext.drewN ?_ _) | (with_reducible refine Ext.drew ?_) | (with_reducible refine Ext.trans ?_ (by with_reducible assumption)) | go_size)))))).mono ?_)
    rintro e w1 ⟨rfl, hE1⟩
    have hs0 : w1.cell? ⟨w.heap.size, 0, none⟩ = some (.slice D q l) := Ext.keep hE1 (by simp [go_sem])
    have hEw1 : Ext w w1 := by (repeat' (first | (with_reducible exact Ext.refl _) | (with_reducible assumption) | (with_reducible refine Ext.alloc ?_ _) | (with_reducible refine Ext.set ?_ ?_ _) | (with_reducible refine Ext.drewN ?_ _) | (with_reducible refine Ext.drew ?_) | (with_reducible refine Ext.trans ?_ (by with_reducible assumption)) | go_size))
    by_cases h12 : 12 < n
    · have HBAD := Lib.hid (lpoMax_bad (ar := ar) (rk := rk) (ts := ts) (by unfold lpoMaxOk; rw [show decide (ts.length ≤ 12) = false by rw [HL.out]; simp; omega]; rfl))
      have h12i : (12 : Int) < (n : Int) := by omega
      go_wp2
      go_ret
      exact ⟨ret_int HBAD.out.symm, by (repeat' (first | (with_reducible exact Ext.refl _) | (with_reducible assumption) | (with_reducible refine Ext.alloc ?_ _) | (with_reducible refine Ext.set ?_ ?_ _) | (with_reducible refine Ext.drewN ?_ _) | (with_reducible refine Ext.drew ?_) | (with_reducible refine Ext.trans ?_ (by with_reducible assumption)) | go_size))⟩
    · have h12i : ¬ (12 : Int) < (n : Int) := by omega
      go_wp2_with fail
      go_loopw [7] (fun i wr => ∃ k : Nat, i = .int .i64 k ∧ k ≤ n ∧ Hid (∀ (j : Nat) (u : List Int), j < k → ts[j]? = some u → termOk ar u = true) ∧ Ext w1 wr) (fun i _ => n - (intOf i).toNat)
      case atStart => exact ⟨0, rfl, Nat.zero_le _, Lib.hid (fun j y hj => by omega), Ext.refl _⟩
      case round =>
        obtain ⟨k, rfl, hk, hno, hE⟩ := hrel
        have hEw : Ext w wr := Ext.trans hEw1 hE
        have hz0 := Ext.keep hE hs0
        by_cases hlt : k < n
        · obtain ⟨b8, o8, A1, m1, c1, t, rfl, hx, hcx, hcap, hri⟩ := RS.at2 (RS.ext HT.out hEw) hlt
          have HX := Lib.hid hx
          have HR := Lib.hid hri
          have hk1 : (k : Int) < (n : Int) := by omega
          have hk0 : (0 : Int) ≤ (k : Int) := by omega
          clear hx hri
          obtain ⟨tb, htb⟩ : ∃ tb, termOk ar t = tb := ⟨_, rfl⟩
          have HTB := Lib.hid htb
          clear htb
          go_wp2_with fail
          go_still_tail 5, (by kernel_rfl)
          change wpList _ _ _ _ _ wr.drew
          have hE2 : Ext wr wr.drew := by (repeat' (first | (with_reducible exact Ext.refl _) | (with_reducible assumption) | (with_reducible refine Ext.alloc ?_ _) | (with_reducible refine Ext.set ?_ ?_ _) | (with_reducible refine Ext.drewN ?_ _) | (with_reducible refine Ext.drew ?_) | (with_reducible refine Ext.trans ?_ (by with_reducible assumption)) | go_size))
          go_wp2_with fail
          (with_reducible refine (c_sTermOk2 HTB.out (RdSig.mk (RI.ext HA.out (Ext.trans hEw hE2))) (RdI.mk (RI.ext HR.out hE2))).mono ?_)
          rintro e w5 ⟨rfl, hE5⟩
          have hE15 : Ext w1 w5 := Ext.trans (Ext.trans hE hE2) hE5
          cases tb with
          | false =>
            have HBAD := Lib.hid (lpoMax_bad (ar := ar) (rk := rk) (ts := ts) (by unfold lpoMaxOk; rw [show ts.all (termOk ar) = false from List.all_eq_false.2 ⟨t, List.mem_of_getElem? HX.out, by rw [HTB.out]; decide⟩]; simp))
            go_wp2
            go_ret
            exact ⟨ret_int HBAD.out.symm, Ext.trans hEw1 hE15⟩
          | true =>
            have HN := Lib.hid (show ∀ (j : Nat) (u : List Int), j < k + 1 → ts[j]? = some u → termOk ar u = true from fun j y hj hy => by
              rcases Nat.lt_or_ge j k with h | h
              · exact hno.out j y h hy
              · obtain rfl : j = k := by omega
                rw [HX.out] at hy; cases hy; exact HTB.out)
            go_wp2
            go_roundw
            case rel => exact ⟨k + 1, by go_num, by omega, HN, hE15⟩
            case measure => simp only [intOf]; omega
        · have hkn : k = n := by omega
          subst hkn
          have HOK := Lib.hid (show lpoMaxOk ar rk ts = true by
            unfold lpoMaxOk
            rw [show decide (ts.length ≤ 12) = true by rw [HL.out]; simp; omega, HRK.out, show ts.all (termOk ar) = true from List.all_eq_true.2 fun t ht => by
              obtain ⟨j, hj, e⟩ := List.mem_iff_getElem.1 ht
              exact hno.out j t (by rw [← HL.out]; exact hj) (by rw [List.getElem?_eq_getElem hj, e])]
            rfl)
          have HGO := Lib.hid (lpoMax_ok HOK.out)
          obtain ⟨wo, rfl⟩ : ∃ wo : World, wo = wr := ⟨_, rfl⟩
          go_wp2_with fail
          go_loopw [8] (fun i wr => ∃ i' : Nat, i = .int .i64 i' ∧ i' ≤ k ∧ Hid (∀ (j : Nat) (u : List Int), j < i' → ts[j]? = some u → topAt ar rk ts u = false) ∧ Ext wo wr) (fun i _ => k - (intOf i).toNat)
          case atStart => exact ⟨0, rfl, Nat.zero_le _, Lib.hid (fun j y hj => by omega), Ext.refl _⟩
          case round =>
            obtain ⟨i, rfl, hi, hnt, hE6⟩ := hrel
            obtain ⟨wp, rfl⟩ : ∃ wp : World, wp = wr := ⟨_, rfl⟩
            have hEp : Ext w wp := Ext.trans hEw hE6
            by_cases hlt2 : i < k
            · obtain ⟨b8, o8, A1, m1, c1, t, rfl, hx, hcx, hcap, hri⟩ := RS.at2 (RS.ext HT.out hEp) hlt2
              have HX := Lib.hid hx
              have HR := Lib.hid hri
              have hi1 : (i : Int) < (k : Int) := by omega
              have hi0 : (0 : Int) ≤ (i : Int) := by omega
              clear hx hri
              go_wp2_with fail
              go_loopw [9, 10] (fun tv iv wr => ∃ j : Nat, iv = .int .i64 j ∧ j ≤ k ∧ (∃ tp : Bool, tv = .bool tp ∧ Hid (tp = (ts.take j).all fun u => decide (lpoA ar rk true t u = 0))) ∧ Ext wp wr) (fun _ iv _ => k - (intOf iv).toNat)
              case atStart => exact ⟨0, rfl, Nat.zero_le _, ⟨true, rfl, Lib.hid rfl⟩, Ext.refl _⟩
              case round =>
                obtain ⟨j, rfl, hj, ⟨tp, rfl, htp⟩, hE7⟩ := hrel
                have hEr : Ext w wr := Ext.trans hEp hE7
                have hzr := Ext.keep (Ext.trans hE6 hE7) hz0
                have hcxr := Ext.keep hE7 hcx
                by_cases hlt3 : j < k
                · obtain ⟨b9, o9, A2, m2, c2, u, e9, hu, hcu, hcap2, hru⟩ := RS.at2 (RS.ext HT.out hEr) hlt3
                  cases e9
                  have HU := Lib.hid hu
                  have HRU := Lib.hid hru
                  have HS := Lib.hid (all_snoc (p := fun u => decide (lpoA ar rk true t u = 0)) hu)
                  have hj1 : (j : Int) < (k : Int) := by omega
                  have hj0 : (0 : Int) ≤ (j : Int) := by omega
                  clear hu hru
                  cases tp with
                  | false =>
                    have HN := Lib.hid (show false = (ts.take (j + 1)).all fun u => decide (lpoA ar rk true t u = 0) by rw [HS.out, ← htp.out]; rfl)
                    go_wp2_with fail
                    go_quiet (fail)
                    go_wp2
                    go_roundw
                    case rel => exact ⟨j + 1, by go_num, by omega, ⟨_, rfl, HN⟩, by (repeat' (first | (with_reducible exact Ext.refl _) | (with_reducible assumption) | (with_reducible refine Ext.alloc ?_ _) | (with_reducible refine Ext.set ?_ ?_ _) | (with_reducible refine Ext.drewN ?_ _) | (with_reducible refine Ext.drew ?_) | (with_reducible refine Ext.trans ?_ (by with_reducible assumption)) | go_size))⟩
                    case measure => simp only [intOf]; omega
                  | true =>
                    obtain ⟨V, hV⟩ : ∃ V, V = lpoA ar rk true t u := ⟨_, rfl⟩
                    have HV := Lib.hid hV
                    have HN := Lib.hid (show decide (V = 0) = (ts.take (j + 1)).all fun u => decide (lpoA ar rk true t u = 0) by rw [HS.out, ← htp.out, hV]; rfl)
                    have HAR := Lib.hid (lpoMax_args HOK.out (List.mem_of_getElem? HX.out) (List.mem_of_getElem? HU.out))
                    clear hV
                    go_wp2_with fail
                    go_still_tail 12, (by kernel_rfl)
                    change wpList _ _ _ _ _ wr.drew
                    have hE2 : Ext wr wr.drew := by (repeat' (first | (with_reducible exact Ext.refl _) | (with_reducible assumption) | (with_reducible refine Ext.alloc ?_ _) | (with_reducible refine Ext.set ?_ ?_ _) | (with_reducible refine Ext.drewN ?_ _) | (with_reducible refine Ext.drew ?_) | (with_reducible refine Ext.trans ?_ (by with_reducible assumption)) | go_size))
                    go_wp2_with fail
                    (with_reducible refine (c_l13Why' HAR.out HV.out (RdSig.mk (RI.ext HA.out (Ext.trans hEr hE2))) (RdI.mk (RI.ext HB.out (Ext.trans hEr hE2))) (RdIc.mk hcap (RI.ext HR.out (Ext.trans hE7 hE2))) (RdIc.mk hcap2 (RI.ext HRU.out hE2))).mono ?_)
                    rintro e w5 ⟨rfl, hE5⟩
                    have hE15 : Ext wp w5 := Ext.trans (Ext.trans hE7 hE2) hE5
                    go_wp2
                    go_roundw
                    case rel => exact ⟨j + 1, by go_num, by omega, ⟨_, rfl, Lib.hid (by rw [← HN.out, Bool.eq_iff_iff]; first | (simp; done) | (simp; omega))⟩, hE15⟩
                    case measure => simp only [intOf]; omega
                · have hjk : j = k := by omega
                  have HTP := Lib.hid (show topAt ar rk ts t = tp by
                    unfold topAt
                    rw [htp.out, List.take_of_length_le (by rw [HL.out, hjk]; exact Nat.le_refl _)])
                  cases tp with
                  | true =>
                    have HRES := Lib.hid (show lpoMaxV ar rk ts = (i : Int) by rw [HGO.out, lpoMaxGo_at HX.out HTP.out hnt.out]; congr 1; omega)
                    go_wp2
                    go_ret
                    exact ⟨ret_int HRES.out.symm, hEr⟩
                  | false =>
                    have HN := Lib.hid (show ∀ (j : Nat) (u : List Int), j < i + 1 → ts[j]? = some u → topAt ar rk ts u = false from fun j y hj hy => by
                      rcases Nat.lt_or_ge j i with h | h
                      · exact hnt.out j y h hy
                      · obtain rfl : j = i := by omega
                        rw [HX.out] at hy; cases hy; exact HTP.out)
                    go_wp2
                    go_roundw
                    case rel => exact ⟨i + 1, by go_num, by omega, HN, Ext.trans hE6 hE7⟩
                    case measure => simp only [intOf]; omega
            · have hik : i = k := by omega
              have HRES := Lib.hid (show lpoMaxV ar rk ts = -1 by rw [HGO.out]; exact lpoMaxGo_none fun j u hu => hnt.out j u (by have := (List.getElem?_eq_some_iff.1 hu).1; rw [HL.out] at this; omega) hu)
              go_wp2
              go_ret
              exact ⟨ret_int HRES.out.symm, hEp⟩

end Go.Proofs.Ytejmlbcafemieaa
