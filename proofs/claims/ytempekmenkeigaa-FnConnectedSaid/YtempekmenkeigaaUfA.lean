/- The reference's: the number of variables; a term with other ones. -/
import Derived.Test.YtempekmenkeigaaMUf
import Derived.Test.YtempekmenkeigaaCopy
import Derived.Test.YtempekmenkeigaaTermOk
import Derived.Test.YtempekmenkeigaaCapO
namespace Go.Proofs.Ytempekmenkeigaa
open Go.RowKit
set_option linter.unusedSimpArgs false
set_option linter.unusedVariables false

theorem c_l1Max {a b : Int} {w : World} : Calls Try.prog 72 #[.int .i64 a, .int .i64 b] w fun e w' => e = .returned (.int .i64 (max a b)) ∧ w = w' := by
  by_cases h : b < a
  · have HM := Lib.hid (show max a b = a by omega)
    go_enter Try.func72, Try.ntmps72
    go_wp2
    go_ret
    exact ⟨ret_int HM.out.symm, rfl⟩
  · have HM := Lib.hid (show max a b = b by omega)
    go_enter Try.func72, Try.ntmps72
    go_wp2
    go_ret
    exact ⟨ret_int HM.out.symm, rfl⟩
set_option maxHeartbeats 1000000 in
theorem c_l5Behind {A : Option Addr} {n c : Nat} {t : List Int} {w : World} (h0 : RI w A n t) (hv : ∀ x ∈ t, -24 ≤ x ∧ x ≤ 1000) : Calls Try.prog 45 #[.slice A n c] w fun e w' => ∃ k : Int, e = .returned (.int .i64 k) ∧ (0 ≤ k ∧ k ≤ 24) ∧ w = w' := by
  have HA := Lib.hid h0
  have HV := Lib.hid hv
  have hn := h0.le
  clear h0 hv
  go_enter Try.func45, Try.ntmps45
  go_wp2_with fail
  go_loopw [3, 4] (fun kv iv wr => ∃ j : Nat, iv = .int .i64 j ∧ j ≤ n ∧ (∃ k : Int, kv = .int .i64 k ∧ 0 ≤ k ∧ k ≤ 24) ∧ wr = w) (fun _ iv _ => n - (intOf iv).toNat)
  case atStart => exact ⟨0, rfl, Nat.zero_le _, ⟨0, rfl, by omega, by omega⟩, rfl⟩
  case round =>
    obtain ⟨j, rfl, hj, ⟨k, rfl, hk0, hk⟩, rfl⟩ := hrel
    by_cases hlt : j < n
    · obtain ⟨b, o, x, rfl, hx, hcx⟩ := RI.at_ HA.out hlt
      have hx24 := HV.out x (List.mem_of_getElem? hx)
      have hji : (j : Int) < (n : Int) := by omega
      have hw1 : IntKind.i64.wrap (-x) = -x := IntWalk.i64_in _ (by omega)
      clear hx
      go_wp2_with fail
      (with_reducible refine (c_l1Max (a := k) (b := -x)).mono ?_)
      rintro e w2 ⟨rfl, rfl⟩
      go_wp2_with fail
      refine ⟨⟨j + 1, by go_num, by omega, ⟨_, rfl, by omega, by omega⟩, trivial⟩, by simp only [intOf]; omega⟩
    · go_wp2
      go_ret
      exact ⟨k, rfl, ⟨hk0, hk⟩, rfl⟩
/-- A list that may fail. -/
def NewSh (w : World) (k : Int) (t : List Int) (e : Ending) (w' : World) : Prop := ∃ A n c b, e = .returned (.tuple #[.slice A n c, .bool b]) ∧ (b = true → (RI w' A n (shL k t) ∧ (∀ x ∈ shL k t, -24 ≤ x))) ∧ Ext w w'
set_option maxRecDepth 100000 in
set_option maxHeartbeats 4000000 in
theorem c_Shifted {v0 : Value} {ar : List Int} {A : Option Addr} {n c : Nat} {t : List Int} {k : Int} {w : World} (h0 : RdSig w v0 ar) (h1 : RI w A n t) (ht : TermP ar t) (hk : 0 ≤ k ∧ k ≤ 24) (hv : ∀ x ∈ t, x ≤ 1000) : Calls Try.prog 44 #[v0, .slice A n c, .int .i64 k] w (NewSh w k t) := by
  obtain ⟨SA, sn, sc, rfl, hs⟩ := h0
  have HS := Lib.hid hs
  have HA := Lib.hid h1
  have HT := Lib.hid (termOk_iff.2 ht)
  have HV := Lib.hid (show ∀ x ∈ t, -24 ≤ x ∧ x ≤ 1000 from fun x hx => ⟨ht.2.2.1 x hx, hv x hx⟩)
  have HK := Lib.hid (show (0 : Int) ≤ k ∧ k ≤ 24 from hk)
  have hn := h1.le
  have HN := Lib.hid h1.len
  obtain ⟨hk0, hk1⟩ := hk
  obtain ⟨i0, hii, hiz, his, hib⟩ := info_parts int64_info
  clear hs h1 ht hv
  go_enter Try.func44, Try.ntmps44
  go_wp2_with fail
  (with_reducible refine (c_sTermOk' (t := t) HT.out (RdSig.mk (RI.ext HS.out (by exact extX))) (RdI.mk (RI.ext HA.out (by exact extX)))).mono ?_)
  rintro e w1 ⟨rfl, hE1⟩
  have HE1 := Lib.hid (show Ext w w1 by exact extX)
  clear hE1
  go_wp2_with (go_at_call 70; (with_reducible refine (c_l1In_t HK.out).mono ?_); rintro e w2 ⟨rfl, hE2⟩)
  have HE2 := Lib.hid (Ext.trans HE1.out hE2)
  have HO2 := Lib.hid (OwI.none0 (w := w2) (D := w2.heap.size) (Nat.le_refl _))
  have HE3 := Lib.hid (Ext.alloc (Ext.refl w2) (.cells #[] 2))
  clear hE2
  go_loopw [8, 9] (fun ov iv wr => ∃ j : Nat, iv = .int .i64 j ∧ j ≤ n ∧ (∃ A1 c1, ov = .slice A1 j c1 ∧ Hid (OwI wr w2.heap.size A1 j c1 ((shL k t).take j)) ∧ Hid (∀ x ∈ (shL k t).take j, -24 ≤ x)) ∧ Hid (Ext w2 wr)) (fun _ iv _ => n - (intOf iv).toNat)
  case atStart => exact ⟨0, rfl, Nat.zero_le _, ⟨_, 0, rfl, HO2, Lib.hid fun x hx => by simp at hx⟩, HE3⟩
  case round =>
    obtain ⟨j, rfl, hj, ⟨A1, c1, rfl, hO, hF⟩, hE⟩ := hrel
    have hshl : (shL k t).length = t.length := by unfold shL; simp
    by_cases hlt : j < n
    · obtain ⟨b, o, x, rfl, hx, hcx⟩ := RI.at_ (RI.ext HA.out (Ext.trans HE2.out hE.out)) hlt
      have hx24 := HV.out x (List.mem_of_getElem? hx)
      have hji : (j : Int) < (n : Int) := by omega
      have HT2 := Lib.hid (show (shL k t).take (j + 1) = (shL k t).take j ++ [shI k x] by
        obtain ⟨hk2, rfl⟩ := List.getElem?_eq_some_iff.1 hx
        rw [List.take_succ_eq_append_getElem (by rw [hshl]; exact hk2)]
        congr 1; unfold shL; simp)
      have hob := OwI.ob2 hO.out
      have hsz := hE.out.size
      clear hx hshl
      obtain ⟨y, hy⟩ : ∃ y, y = shI k x := ⟨_, rfl⟩
      rw [← hy] at HT2
      have hfin : -24 ≤ y → ∀ (w4 : World), True := fun _ _ => trivial
      by_cases h0 : x < 0
      · have hd : decide (x < 0) = true := by simpa using h0
        have hyx : y = x - k := by rw [hy]; unfold shI; rw [if_pos h0]
        have hw1 : IntKind.i64.wrap (x - k) = x - k := IntWalk.i64_in _ (by omega)
        rw [hyx] at HT2
        clear hy hyx hfin
        by_cases h24 : x - k < -24
        · have hd2 : decide (x - k < -24) = true := by simpa using h24
          go_wp2
          refine bodyPost_ret (v := .tuple #[.slice (some ⟨wr.heap.size, 0, none⟩) 0 0, .bool false]) (by simp [results, Try.results44, go_sem]) rfl ?_
          exact ⟨_, 0, 0, false, rfl, (fun h => by cases h), Ext.trans (Ext.trans HE2.out hE.out) (by exact extX)⟩
        · have hd2 : decide (x - k < -24) = false := by simpa using h24
          have HG := Lib.hid (show -24 ≤ x - k by omega)
          go_wp2_with (at_builtin; go_loud (refine wpList_append_lies _ rfl (.tmp 40) (.tmp 42) 22 rfl w2.heap.size 2 i0 (.int .i64 0) 1 8 Try.underlying22 hii hiz his hib rfl (by decide) _ _ _ rfl (OwI.alloc hO.out _).2 ⟨wr.heap.size, 0, none⟩ 1 1 [.int .i64 (x - k)] rfl rfl (one_cells _ _ _) (one_one _) (by decide) (by unfold maxLen; omega) (by omega) (by go_size) _ rfl ?_))
          intro g cap wx hown hg hat hltg
          have HO3 := Lib.hid (show OwI wx w2.heap.size (some ⟨g, 0, none⟩) (j + 1) cap ((shL k t).take (j + 1)) from ⟨by omega, by rw [HT2.out]; simpa using hown⟩)
          have HE4 := Lib.hid (show Ext w2 wx from Ext.grown (hE.out.alloc _) hg (fun b hb => (hob b hb).1))
          have HF4 := Lib.hid (show ∀ z ∈ (shL k t).take (j + 1), -24 ≤ z from fun z hz => by
            rw [HT2.out] at hz
            rcases List.mem_append.1 hz with hz | hz
            · exact hF.out z hz
            · simp at hz; have := HG.out; omega)
          clear hown hg hat
          go_wp2
          refine ⟨⟨j + 1, by go_num, by omega, ⟨_, _, rfl, HO3, HF4⟩, HE4⟩, by simp only [intOf]; omega⟩
      · have hd : decide (x < 0) = false := by simpa using h0
        have hyx : y = x := by rw [hy]; unfold shI; rw [if_neg h0]
        have hd2 : decide (x < -24) = false := by simp; omega
        rw [hyx] at HT2
        have HG := Lib.hid (show -24 ≤ x by omega)
        clear hy hyx hfin
        go_wp2_with (at_builtin; go_loud (refine wpList_append_lies _ rfl (.tmp 40) (.tmp 42) 22 rfl w2.heap.size 2 i0 (.int .i64 0) 1 8 Try.underlying22 hii hiz his hib rfl (by decide) _ _ _ rfl (OwI.alloc hO.out _).2 ⟨wr.heap.size, 0, none⟩ 1 1 [.int .i64 x] rfl rfl (one_cells _ _ _) (one_one _) (by decide) (by unfold maxLen; omega) (by omega) (by go_size) _ rfl ?_))
        intro g cap wx hown hg hat hltg
        have HO3 := Lib.hid (show OwI wx w2.heap.size (some ⟨g, 0, none⟩) (j + 1) cap ((shL k t).take (j + 1)) from ⟨by omega, by rw [HT2.out]; simpa using hown⟩)
        have HE4 := Lib.hid (show Ext w2 wx from Ext.grown (hE.out.alloc _) hg (fun b hb => (hob b hb).1))
        have HF4 := Lib.hid (show ∀ z ∈ (shL k t).take (j + 1), -24 ≤ z from fun z hz => by
            rw [HT2.out] at hz
            rcases List.mem_append.1 hz with hz | hz
            · exact hF.out z hz
            · simp at hz; have := HG.out; omega)
        clear hown hg hat
        go_wp2
        refine ⟨⟨j + 1, by go_num, by omega, ⟨_, _, rfl, HO3, HF4⟩, HE4⟩, by simp only [intOf]; omega⟩
    · have hjn : j = n := by omega
      have HFI := Lib.hid (show OwI wr w2.heap.size A1 j c1 (shL k t) ∧ ∀ x ∈ shL k t, -24 ≤ x by
        have h1 := hO.out
        have h2 := hF.out
        rw [List.take_of_length_le (by rw [hshl, HN.out]; omega)] at h1 h2
        exact ⟨h1, h2⟩)
      clear hshl
      go_wp2
      refine bodyPost_ret (v := .tuple #[.slice A1 j c1, .bool true]) (by simp [results, Try.results44, go_sem]) rfl ?_
      exact ⟨A1, j, c1, true, rfl, (fun _ => ⟨HFI.out.1.ri, HFI.out.2⟩), Ext.trans HE2.out hE.out⟩

end Go.Proofs.Ytempekmenkeigaa
