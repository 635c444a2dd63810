/- NextRank of the reference. -/
import Derived.Test.YtjmdfjinicbkeaaNextI
namespace Go.Proofs.Ytjmdfjinicbkeaa
open Go.RowKit
set_option linter.unusedSimpArgs false
set_option linter.unusedVariables false

theorem RI.head' {w : World} {A : Option Addr} {n : Nat} {xs : List Int} (h : RI w A n xs) (hn : 0 < n) : ∃ b o, A = some ⟨b, o, none⟩ := by
  obtain ⟨b, o, e, _⟩ := h.2 hn; exact ⟨b, o, e⟩
theorem l1Has_isN {v : Value} {t : List Int} {x : Int} {b : Bool} {w : World} (hb : decide (x ∈ t) = b) (h0 : RdI w v t) :
    Calls Try.prog 83 #[v, .int .i64 x] w fun e w' => e = .returned (.bool b) ∧ w' = w := by subst hb; exact q_l1Has h0
set_option maxRecDepth 100000 in
set_option maxHeartbeats 4000000 in
theorem c_l16Order {A : Option Addr} {n c : Nat} {xs : List Int} {b : Bool} {w : World} (hb : permOk xs = b) (h0 : RI w A n xs) (hc : n ≤ c ∧ c ≤ 9223372036854775807) :
    Calls Try.prog 82 #[.slice A n c] w fun e w' => e = .returned (.bool b) ∧ Ext w w' := by
  have hn := h0.le
  have HA := Lib.hid h0
  have HL := Lib.hid h0.len
  have HB := Lib.hid hb
  clear h0 hb
  go_enter Try.func82, Try.ntmps82
  go_wp2_with fail
  go_loopw [3] (fun i wr => ∃ k : Nat, i = .int .i64 k ∧ k ≤ n ∧ Hid (permTo xs k) ∧ Ext w wr) (fun i _ => n - (intOf i).toNat)
  case atStart => exact ⟨0, rfl, Nat.zero_le _, Lib.hid (permTo_zero xs), Ext.refl _⟩
  case round =>
    obtain ⟨k, rfl, hk, hp, hE⟩ := hrel
    by_cases hlt : k < n
    · obtain ⟨bb, o, x, rfl, hx, hcx⟩ := RI.at_ (RI.ext HA.out hE) hlt
      have HX := Lib.hid hx
      have HT := Lib.hid (RI.takeU (RI.ext HA.out hE) hk)
      have hki : (k : Int) < (n : Int) := by omega
      have hk0 : (0 : Int) ≤ (k : Int) := by omega
      have hkc : (k : Int) ≤ (c : Int) := by omega
      have hn1 : 1 ≤ (n : Int) := by omega
      clear hx
      by_cases hin : 0 ≤ x ∧ x ≤ (n : Int) - 1
      · by_cases hm : x ∈ xs.take k
        · have HM := Lib.hid (show decide (x ∈ xs.take k) = true by simpa using hm)
          have HF := Lib.hid (permOk_twice HX.out hm)
          have hbf : b = false := by rw [← HB.out]; exact HF.out
          subst hbf
          clear hm
          go_wp2_with fail
          go_quiet (first | (go_at_call 89; exact Calls.quiet_of_same (q_l1In_t hin)) | (go_at_call 83; exact Calls.quiet_of_same (l1Has_isN HM.out (RdI.mk HT.out))))
          go_wp2
          go_ret
          exact ⟨rfl, by exact extX⟩
        · have HM := Lib.hid (show decide (x ∈ xs.take k) = false by simpa using hm)
          have HN := Lib.hid (permTo_succ hp.out HX.out (by rw [HL.out]; omega) hm)
          clear hm
          go_wp2_with fail
          go_quiet (first | (go_at_call 89; exact Calls.quiet_of_same (q_l1In_t hin)) | (go_at_call 83; exact Calls.quiet_of_same (l1Has_isN HM.out (RdI.mk HT.out))))
          go_wp2
          go_roundw
          case rel => exact ⟨k + 1, by go_num, by omega, HN, by exact extX⟩
          case measure => simp only [intOf]; omega
      · have HF := Lib.hid (permOk_out HX.out (by rw [HL.out]; omega))
        have hbf : b = false := by rw [← HB.out]; exact HF.out
        subst hbf
        go_wp2_with fail
        go_quiet (first | (go_at_call 89; exact Calls.quiet_of_same (q_l1In_f hin)))
        go_wp2
        go_ret
        exact ⟨rfl, by exact extX⟩
    · have hkn : k = n := by omega
      subst hkn
      by_cases h8 : k ≤ 8
      · have hbt : b = true := by rw [← HB.out]; exact permOk_all (by rw [HL.out]; exact hp.out) (by rw [HL.out]; exact h8)
        subst hbt
        have h8i : (k : Int) ≤ 8 := by omega
        go_wp2
        go_ret
        exact ⟨ret_bool (by simp), hE⟩
      · have hbf : b = false := by rw [← HB.out]; exact permOk_big (by rw [HL.out]; omega)
        subst hbf
        have h8i : ¬ (k : Int) ≤ 8 := by omega
        go_wp2
        go_ret
        exact ⟨ret_bool (by simp), hE⟩
def NewNs (w : World) (xs : List Int) (e : Ending) (w' : World) : Prop := ∃ A n c, e = .returned (.tuple #[.slice A n c, .bool (nextB xs)]) ∧ (n ≤ c ∧ c ≤ 9223372036854775807) ∧ (n = 0 ∨ ∀ b o s, A = some ⟨b, o, s⟩ → w.heap.size ≤ b) ∧ RI w' A n (nextV xs) ∧ Ext w w'
theorem NewNs.bad {w w' : World} {A : Option Addr} {c : Nat} {xs : List Int} (h : nextB xs = false) (hE : Ext w w') (hc : c ≤ 9223372036854775807 := by first | decide | omega) : NewNs w xs (.returned (.tuple #[.slice A 0 c, .bool false])) w' :=
  ⟨_, 0, _, by rw [h], ⟨by omega, hc⟩, .inl rfl, by rw [nextB_perm h]; exact RI.nil _ _, hE⟩
set_option maxRecDepth 100000 in
set_option maxHeartbeats 8000000 in
theorem c_sNextRank {A : Option Addr} {n c : Nat} {xs : List Int} {w : World} (h0 : RI w A n xs) (hc : n ≤ c ∧ c ≤ 9223372036854775807) : Calls Try.prog 41 #[.slice A n c] w (NewNs w xs) := by
  have hn := h0.le
  have HA := Lib.hid h0
  have HL := Lib.hid h0.len
  obtain ⟨i0, hii, hiz, his, hib⟩ := info_parts int64_info
  clear h0
  cases hok : permOk xs with
  | false =>
    have HOK := Lib.hid hok
    have HBAD := Lib.hid (next_bad hok)
    clear hok
    go_enter Try.func41, Try.ntmps41
    go_wp2_with fail
    (with_reducible refine (c_l16Order HOK.out HA.out hc).mono ?_)
    rintro e w1 ⟨rfl, hE1⟩
    go_wp2
    refine bodyPost_ret (v := .tuple #[.slice (some ⟨w1.heap.size, 0, none⟩) 0 0, .bool false]) (by simp [results, Try.results41, go_sem]) rfl ?_
    exact NewNs.bad HBAD.out.2 (by exact extX)
  | true =>
    have hn8 : n ≤ 8 := by rw [← HL.out]; exact (permOk_iff.1 hok).2.2
    have HOK := Lib.hid hok
    clear hok
    go_enter Try.func41, Try.ntmps41
    go_wp2_with fail
    (with_reducible refine (c_l16Order HOK.out HA.out hc).mono ?_)
    rintro e w1 ⟨rfl, hE1⟩
    go_wp2_with fail
    go_loopw [4] (fun iv wr => ∃ (z : Int) (k : Nat), iv = .int .i64 z ∧ (z = (k : Int) - 1 ∨ z = -2 ∧ k = 0) ∧ k ≤ n - 1 ∧ Hid (upGo xs k = upAt xs ∧ fallsFrom xs k) ∧ Ext w wr) (fun iv _ => (intOf iv + 2).toNat)
    case atStart => exact ⟨(n : Int) - 2, n - 1, by go_num, by omega, by omega, Lib.hid ⟨by rw [← HL.out]; rfl, falls_last _ _ (by rw [HL.out]; omega)⟩, by exact extX⟩
    case round =>
      obtain ⟨z, k, rfl, hz, hk, hST, hE⟩ := hrel
      rcases Nat.eq_zero_or_pos k with hk0 | hk0
      · subst hk0
        have hzn : z < 0 := by omega
        have hzb : decide (0 ≤ z) = false := by simp; omega
        have HU := Lib.hid (next_none (xs := xs) hST.out.1.symm)
        go_wp2_with fail
        go_quiet (fail)
        go_wp2
        refine bodyPost_ret (v := .tuple #[.slice (some ⟨wr.heap.size, 0, none⟩) 0 0, .bool false]) (by simp [results, Try.results41, go_sem]) rfl ?_
        exact NewNs.bad HU.out.2 (by exact extX)
      · obtain ⟨p, rfl⟩ : ∃ p, k = p + 1 := ⟨k - 1, by omega⟩
        have hzp : z = (p : Int) := by omega
        subst hzp
        have hp1 : p + 1 < n := by omega
        obtain ⟨gb, ob, hA0⟩ := RI.head' HA.out (by omega)
        subst hA0
        obtain ⟨_, _, x, e1, hx, hcx⟩ := RI.at_ (RI.ext HA.out hE) (show p < n by omega)
        cases e1
        obtain ⟨_, _, y, e1, hy, hcy⟩ := RI.at_ (RI.ext HA.out hE) hp1
        cases e1
        have HX := Lib.hid hx
        have HY := Lib.hid hy
        have hpz : (0 : Int) ≤ (p : Int) := by omega
        have hpd : decide ((0 : Int) ≤ (p : Int)) = true := by simp
        have hpi : (p : Int) < (n : Int) := by omega
        have hpi1 : (p : Int) + 1 < (n : Int) := by omega
        have hwp : IntKind.i64.wrap ((p : Int) + 1) = (p : Int) + 1 := IntWalk.i64_in _ (by omega)
        clear hx hy
        by_cases hxy : y < x
        · have hd2 : decide (y < x) = true := by simpa using hxy
          have HN := Lib.hid (show upGo xs p = upAt xs ∧ fallsFrom xs p from ⟨by rw [← hST.out.1, upGo_go HX.out HY.out hxy], falls_down hST.out.2 HX.out HY.out hxy⟩)
          go_wp2_with fail
          go_quiet (fail)
          go_wp2
          go_roundw
          case rel => exact ⟨(p : Int) - 1, p, by go_num, by omega, by omega, HN, by exact extX⟩
          case measure => simp only [intOf]; omega
        · have hd2 : decide (y < x) = false := by simpa using hxy
          have HUP := Lib.hid (show upAt xs = some p by rw [← hST.out.1, upGo_stop HX.out HY.out hxy])
          go_wp2_with fail
          go_quiet (fail)
          obtain ⟨wq, hwq⟩ : ∃ wq, wq = wr.drewN nq := ⟨_, rfl⟩
          have hEq : Ext w wq := by rw [hwq]; exact hE.drewN _
          rw [← hwq]
          clear hwq
          obtain ⟨k0, a0, b0, hN⟩ := nextI HOK.out HUP.out
          have ha0 : x = a0 := by have := hN.ha; rw [HX.out] at this; exact Option.some.inj this
          subst ha0
          have HNX := Lib.hid hN.nx
          have HNV := Lib.hid (nextV_some HOK.out HUP.out hN)
          have HNB := Lib.hid (nextB_some HOK.out HUP.out)
          have hx0 : 0 ≤ x := ((permOk_iff.1 HOK.out).2.1 x (List.mem_of_getElem? HX.out)).1
          have HT := Lib.hid (RI.takeU (RI.ext HA.out hEq) (show p ≤ n by omega))
          have hpc : (p : Int) ≤ (c : Int) := by omega
          have hsq := sz_of hEq
          clear hN
          go_wp2_with (at_builtin; go_loud (refine wpList_append_new rfl (.tmp 35) (.tmp 38) 22 rfl i0 Try.underlying22 hii hiz his hib (D := w.heap.size) rfl (OwI.none0 hsq) rfl (RI.ext HT.out (by exact extX)) (by go_size) ?_))
          intro A2 c2 w2 hO2 hg2 hat2
          have HO2 := Lib.hid hO2
          have hE2 : Ext w w2 := Ext.grown (Ext.alloc hEq _) hg2 (fun k hk => by cases hk; exact hsq)
          clear hO2 hg2 hat2
          go_wp2_with fail
          go_loopw [6, 7] (fun mv iv wr => ∃ q : Nat, iv = .int .i64 q ∧ p + 1 ≤ q ∧ q ≤ n ∧ (∃ m, mv = .int .i64 m ∧ Hid (leastTo xs x p q m)) ∧ Ext w2 wr) (fun _ iv _ => n - (intOf iv).toNat)
          case atStart => exact ⟨p + 1, by go_num, by omega, by omega, ⟨-1, rfl, Lib.hid (leastTo_start xs x p)⟩, Ext.refl _⟩
          case round =>
            obtain ⟨q, rfl, hpq, hq, ⟨m, rfl, hm⟩, hE3⟩ := hrel
            obtain ⟨wo, rfl⟩ : ∃ wo : World, wo = wr := ⟨_, rfl⟩
            have hEw : Ext w wo := Ext.trans hE2 hE3
            by_cases hlt : q < n
            · obtain ⟨_, _, y2, e1, hy2, hcy2⟩ := RI.at_ (RI.ext HA.out hEw) hlt
              cases e1
              obtain ⟨_, _, x2, e1, hx2, hcx2⟩ := RI.at_ (RI.ext HA.out hEw) (show p < n by omega)
              cases e1
              rw [HX.out] at hx2; cases hx2
              have HY2 := Lib.hid hy2
              have hqi : (q : Int) < (n : Int) := by omega
              have hq0 : (0 : Int) ≤ (q : Int) := by omega
              clear hy2
              by_cases c1 : x < y2
              · have d1 : decide (x < y2) = true := by simpa using c1
                by_cases c2' : m < 0
                · have d2 : decide (m < 0) = true := by simpa using c2'
                  have HN := Lib.hid (leastTo_take hm.out (by omega) HY2.out ⟨c1, .inl c2'⟩ hx0)
                  go_wp2_with fail
                  go_quiet (fail)
                  go_wp2
                  go_roundw
                  case rel => exact ⟨q + 1, by go_num, by omega, by omega, ⟨_, rfl, HN⟩, by exact extX⟩
                  case measure => simp only [intOf]; omega
                · have d2 : decide (m < 0) = false := by simpa using c2'
                  by_cases c3 : y2 < m
                  · have d3 : decide (y2 < m) = true := by simpa using c3
                    have HN := Lib.hid (leastTo_take hm.out (by omega) HY2.out ⟨c1, .inr c3⟩ hx0)
                    go_wp2_with fail
                    go_quiet (fail)
                    go_wp2
                    go_roundw
                    case rel => exact ⟨q + 1, by go_num, by omega, by omega, ⟨_, rfl, HN⟩, by exact extX⟩
                    case measure => simp only [intOf]; omega
                  · have d3 : decide (y2 < m) = false := by simpa using c3
                    have HN := Lib.hid (leastTo_skip hm.out hx0 HY2.out (fun h => h.2.elim c2' c3))
                    go_wp2_with fail
                    go_quiet (fail)
                    go_wp2
                    go_roundw
                    case rel => exact ⟨q + 1, by go_num, by omega, by omega, ⟨_, rfl, HN⟩, by exact extX⟩
                    case measure => simp only [intOf]; omega
              · have d1 : decide (x < y2) = false := by simpa using c1
                have HN := Lib.hid (leastTo_skip hm.out hx0 HY2.out (fun h => c1 h.1))
                go_wp2_with fail
                go_quiet (fail)
                go_wp2
                go_roundw
                case rel => exact ⟨q + 1, by go_num, by omega, by omega, ⟨_, rfl, HN⟩, by exact extX⟩
                case measure => simp only [intOf]; omega
            · have hqn : q = n := by omega
              subst hqn
              have hmb : m = b0 := by
                have h1 := HNX.out
                have h2 : (xs.take p).length = p := by rw [List.length_take, HL.out]; omega
                exact leastTo_end h1 (by rw [h2, HL.out]; exact hm.out)
              subst hmb
              have HO3 := Lib.hid (HO2.out.ext hE3)
              go_wp2_with (at_builtin; go_loud (refine wpList_append_lies _ rfl (.tmp 73) (.tmp 75) 22 rfl w.heap.size 2 i0 (.int .i64 0) 1 8 Try.underlying22 hii hiz his hib rfl (by decide) _ _ _ rfl (OwI.alloc HO3.out _).2 ⟨wo.heap.size, 0, none⟩ 1 1 [.int .i64 m] rfl rfl (one_cells _ _ _) (one_one _) (by decide) (by unfold maxLen; omega) (by omega) (by have := sz_of hEw; go_size) _ rfl ?_))
              intro g4 cap4 w4 hown4 hg4 hat4 hltg4
              have HO4 := Lib.hid (show OwI w4 w.heap.size (some ⟨g4, 0, none⟩) (p + 1) cap4 (xs.take p ++ [m]) from ⟨by omega, by simpa using hown4⟩)
              have hob := OwI.ob2 HO3.out
              have hE4 : Ext w w4 := Ext.grown (hEw.alloc _) hg4 (fun b hb => (hob b hb).1)
              have hbl : (xs.take p ++ [m]).length ≤ 9 := by rw [List.length_append, List.length_take]; simp; omega
              clear hown4 hg4 hat4 hob
              go_wp2_with fail
              go_loopw [5, 8] (fun ov iv wr => ∃ k : Nat, iv = .int .i64 k ∧ k ≤ q ∧ (∃ A6 n6 c6, ov = .slice A6 n6 c6 ∧ n6 ≤ 9 + k ∧ Hid (OwI wr w.heap.size A6 n6 c6 (fillTo (xs.take p ++ [m]) k))) ∧ Ext w wr) (fun _ iv _ => q - (intOf iv).toNat)
              case atStart => exact ⟨0, rfl, Nat.zero_le _, ⟨_, _, _, rfl, by omega, Lib.hid (by rw [fillTo_zero]; exact HO4.out)⟩, hE4⟩
              case round =>
                obtain ⟨k, rfl, hk2, ⟨A6, n6, c6, rfl, hn6, hO6⟩, hE6⟩ := hrel
                by_cases hlt2 : k < q
                · have hki : (k : Int) < (q : Int) := by omega
                  by_cases hin : (k : Int) ∈ xs.take p ++ [m]
                  · have HM := Lib.hid (show decide ((k : Int) ∈ fillTo (xs.take p ++ [m]) k) = true by simp only [decide_eq_true_eq]; exact fillTo_mem.2 hin)
                    have HF := Lib.hid (fillTo_in hin)
                    clear hin
                    go_wp2_with fail
                    (with_reducible refine (l1Has_isN HM.out (RdI.mk hO6.out.ri)).mono ?_)
                    rintro e w7 ⟨rfl, rfl⟩
                    go_wp2
                    go_roundw
                    case rel => exact ⟨k + 1, by go_num, by omega, ⟨_, _, _, rfl, by omega, Lib.hid (by rw [HF.out]; exact hO6.out)⟩, hE6⟩
                    case measure => simp only [intOf]; omega
                  · have HM := Lib.hid (show decide ((k : Int) ∈ fillTo (xs.take p ++ [m]) k) = false by simp only [decide_eq_false_iff_not]; exact fun h => hin (fillTo_mem.1 h))
                    have HF := Lib.hid (fillTo_new hin)
                    clear hin
                    go_wp2_with fail
                    (with_reducible refine (l1Has_isN HM.out (RdI.mk hO6.out.ri)).mono ?_)
                    rintro e w7 ⟨rfl, hw7⟩
                    subst hw7
                    go_wp2_with (at_builtin; go_loud (refine wpList_append_lies _ rfl (.tmp 87) (.tmp 89) 22 rfl w.heap.size 2 i0 (.int .i64 0) 1 8 Try.underlying22 hii hiz his hib rfl (by decide) _ _ _ rfl (OwI.alloc hO6.out _).2 ⟨w7.heap.size, 0, none⟩ 1 1 [.int .i64 (k : Int)] rfl rfl (one_cells _ _ _) (one_one _) (by decide) (by unfold maxLen; omega) (by omega) (by have := sz_of hE6; go_size) _ rfl ?_))
                    intro g8 cap8 w8 hown8 hg8 hat8 hltg8
                    have HO8 := Lib.hid (show OwI w8 w.heap.size (some ⟨g8, 0, none⟩) (n6 + 1) cap8 (fillTo (xs.take p ++ [m]) (k + 1)) from ⟨by omega, by rw [HF.out]; simpa using hown8⟩)
                    have hob := OwI.ob2 hO6.out
                    have hE8 : Ext w w8 := Ext.grown (hE6.alloc _) hg8 (fun b hb => (hob b hb).1)
                    clear hown8 hg8 hat8 hob
                    go_wp2
                    go_roundw
                    case rel => exact ⟨k + 1, by go_num, by omega, ⟨_, _, _, rfl, by omega, HO8⟩, hE8⟩
                    case measure => simp only [intOf]; omega
                · have hkq : k = q := by omega
                  subst hkq
                  have HF := Lib.hid (show fillTo (xs.take p ++ [m]) k = nextV xs by rw [HNV.out, ← HL.out]; exact next_same HOK.out HNX.out)
                  go_wp2
                  refine bodyPost_ret (v := .tuple #[.slice A6 n6 c6, .bool true]) (by simp [results, Try.results41, go_sem]) rfl ?_
                  exact ⟨_, _, _, by rw [HNB.out], hO6.out.cap, .inr (fun b o s e => (hO6.out.bd b o s e).1), by rw [← HF.out]; exact hO6.out.ri, hE6⟩
theorem c_sNextRank' {v0 : Value} {xs oo : List Int} {bb : Bool} {w : World} (hv : oo = nextV xs) (hb : bb = nextB xs) (h0 : RdIc w v0 xs) :
    Calls Try.prog 41 #[v0] w fun e w' => ∃ A n c, e = .returned (.tuple #[.slice A n c, .bool bb]) ∧ RI w' A n oo ∧ Ext w w' := by
  subst hv hb
  obtain ⟨A, n, c, rfl, hc, h1⟩ := h0
  exact (c_sNextRank h1 hc).mono fun e w' ⟨A, n, c, he, _, _, hr, hx⟩ => ⟨A, n, c, he, hr, hx⟩

end Go.Proofs.Ytjmdfjinicbkeaa
