/- Small functions on forms. -/
import Derived.Test.YtljbjabgdalabaaPB
import Derived.Test.YtljbjabgdalabaaPoly
import Derived.Test.YtljbjabgdalabaaMForm
-- rd: RdPl
namespace Go.Proofs.Ytljbjabgdalabaa
open Go.RowKit
set_option linter.unusedSimpArgs false
set_option linter.unusedVariables false

theorem getD_at {xs : List Int} {k : Nat} {x : Int} (h : xs[k]? = some x) : nth xs k = x := by unfold nth; rw [List.getD_eq_getElem?_getD, h]; rfl
theorem getD_past {xs : List Int} {k : Nat} (h : xs.length ≤ k) : nth xs k = 0 := by unfold nth; rw [List.getD_eq_getElem?_getD, List.getElem?_eq_none h]; rfl
set_option maxHeartbeats 400000 in
theorem c_lineAt {A : Option Addr} {n c k : Nat} {p : Pl} {w : World} (h0 : RI w A n p.cf) (hk : k ≤ 4194304) :
    Calls Try.prog 67 #[.agg #[.int .i64 p.c, .slice A n c], .int .i64 (k : Int)] w fun e w' => e = .returned (.int .i64 (nth p.cf k)) ∧ Ext w w' := by
  have hn := h0.le
  have hl := h0.len
  by_cases hlt : k < n
  · obtain ⟨b, o, x, rfl, hx, hcx⟩ := RI.at_ h0 hlt
    have HX := Lib.hid (getD_at hx)
    have hbl : b < w.heap.size := World.block_lt_of_cell? w _ hcx
    have hki : (k : Int) < (n : Int) := by omega
    clear hx h0 hl
    go_enter Try.func67, Try.ntmps67
    go_wp2
    go_ret
    exact ⟨ret_int HX.out.symm, by exact extX⟩
  · have HX := Lib.hid (getD_past (xs := p.cf) (k := k) (by omega))
    have hki : ¬ (k : Int) < (n : Int) := by omega
    clear h0 hl
    go_enter Try.func67, Try.ntmps67
    go_wp2
    all_goals first
      | (exfalso; omega)
      | (go_ret; exact ⟨ret_int HX.out.symm, by exact extX⟩)
set_option maxHeartbeats 400000 in
theorem c_coef {A : Option Addr} {n c k : Nat} {p : Pl} {w : World} (h0 : RI w A n p.cf) (hk : k ≤ 4194304) :
    Calls Try.prog 35 #[.agg #[.int .i64 p.c, .slice A n c], .int .i64 (k : Int)] w fun e w' => e = .returned (.int .i64 (nth p.cf k)) ∧ Ext w w' := by
  have HA := Lib.hid h0
  clear h0
  go_enter Try.func35, Try.ntmps35
  go_wp2_with (go_at_call 67; (with_reducible refine (c_lineAt (p := p) (RI.ext HA.out (by exact extX)) hk).mono ?_); rintro e w1 ⟨rfl, hE1⟩; have hz1 := sz_of hE1; (try simp only [World.size_alloc, World.size_setCell, World.size_drew] at hz1); obtain ⟨hc1, hf1⟩ := bcell hE1; (try have hq1_0 : w.heap.size < w1.heap.size := by omega); (try have hq1_1 : w.heap.size + 1 < w1.heap.size := by omega); (try have hq1_2 : w.heap.size + 1 + 1 < w1.heap.size := by omega); (try have hq1_3 : w.heap.size + 1 + 1 + 1 < w1.heap.size := by omega); (try have hq1_4 : w.heap.size + 1 + 1 + 1 + 1 < w1.heap.size := by omega); (try have hq1_5 : w.heap.size + 1 + 1 + 1 + 1 + 1 < w1.heap.size := by omega))
  go_ret
  exact ⟨rfl, by exact extX⟩
set_option maxRecDepth 100000 in
set_option maxHeartbeats 1000000 in
theorem c_atMost {v0 v1 : Value} {a b : Pl} {w : World} (h0 : RdPl w v0 a) (h1 : RdPl w v1 b) :
    Calls Try.prog 73 #[v0, v1] w fun e w' => e = .returned (.tuple #[.bool (most a b && decide (a.c ≤ b.c)), .bool (most a b && decide (a.c < b.c))]) ∧ Ext w w' := by
  obtain ⟨A, n, c, rfl, ha⟩ := h0
  obtain ⟨B, m, d, rfl, hb⟩ := h1
  have hn := ha.le
  have HL := Lib.hid ha.len
  have HA := Lib.hid ha
  have HB := Lib.hid hb
  clear ha hb
  go_enter Try.func73, Try.ntmps73
  go_wp2_with fail
  obtain ⟨wo, hwo⟩ : ∃ wo, wo = (w.alloc (.cells #[.int .i64 a.c, .slice A n c] 38)).alloc (.cells #[.int .i64 b.c, .slice B m d] 38) := ⟨_, rfl⟩
  have hw0 : wo.cell? ⟨w.heap.size, 0, none⟩ = some (.int .i64 a.c) := by rw [hwo]; simp [go_sem]
  have hw2 : wo.cell? ⟨w.heap.size + 1, 0, none⟩ = some (.int .i64 b.c) := by rw [hwo]; simp [go_sem]
  have hw3 : wo.cell? ⟨w.heap.size + 1, 1, none⟩ = some (.slice B m d) := by rw [hwo]; simp [go_sem]
  have hEo : Ext w wo := by rw [hwo]; exact extX
  rw [← hwo]
  clear hwo
  go_loopw [11] (fun i wr => ∃ k : Nat, i = .int .i64 k ∧ k ≤ n ∧ Hid (∀ (j : Nat) (x : Int), j < k → a.cf[j]? = some x → x ≤ nth b.cf j) ∧ Ext wo wr) (fun i _ => n - (intOf i).toNat)
  case atStart => exact ⟨0, rfl, Nat.zero_le _, Lib.hid fun j x hj => by omega, Ext.refl _⟩
  case round =>
    obtain ⟨k, rfl, hk, hp, hE⟩ := hrel
    have hEw : Ext w wr := Ext.trans hEo hE
    have hr0 := Ext.keep hE hw0
    have hr2 := Ext.keep hE hw2
    have hr3 := Ext.keep hE hw3
    by_cases hlt : k < n
    · obtain ⟨b', o', x, rfl, hx, hcx⟩ := RI.at_ (RI.ext HA.out hEw) hlt
      have HX := Lib.hid hx
      clear hx
      have hlt' : (k : Int) < (n : Int) := by omega
      by_cases hxb : nth b.cf k < x
      · have HR := Lib.hid (most_f HX.out hxb)
        go_wp2_with (go_at_call 35; (with_reducible refine (c_coef (p := b) (k := k) (RI.ext HB.out (by exact extX)) (by omega)).mono ?_); rintro e w5 ⟨rfl, hE5⟩)
        go_ret2
        exact ⟨by rw [HR.out]; rfl, by exact extX⟩
      · have HP := Lib.hid (show ∀ (j : Nat) (y : Int), j < k + 1 → a.cf[j]? = some y → y ≤ nth b.cf j from fun j y hj e => by
          rcases Nat.lt_or_ge j k with h | h
          · exact hp.out j y h e
          · obtain rfl : j = k := by omega
            rw [HX.out] at e; cases e; omega)
        go_wp2_with (go_at_call 35; (with_reducible refine (c_coef (p := b) (k := k) (RI.ext HB.out (by exact extX)) (by omega)).mono ?_); rintro e w5 ⟨rfl, hE5⟩)
        go_roundw
        case rel => exact ⟨k + 1, by go_num, by omega, HP, by exact extX⟩
        case measure => simp only [intOf]; omega
    · have HR := Lib.hid (most_t (a := a) (b := b) fun j x hj e => hp.out j x (by rw [HL.out] at hj; omega) e)
      go_wp2_with fail
      go_quiet (fail)
      go_wp2
      go_ret2
      exact ⟨by rw [HR.out]; rfl, by exact extX⟩
set_option maxRecDepth 100000 in
set_option maxHeartbeats 1000000 in
theorem c_varForm {x : Int} {w : World} (hx : x < 0) (hx2 : -24 ≤ x) : Calls Try.prog 87 #[.int .i64 x] w (NewPl w (varPl x)) := by
  obtain ⟨m, rfl⟩ : ∃ m : Nat, x = -((m : Int) + 1) := ⟨(-x - 1).toNat, by omega⟩
  obtain ⟨i0, hi0, hz0, hz1, hz2⟩ := info_parts int64_info
  go_enter Try.func87, Try.ntmps87
  go_wp2_with (at_make; refine wpList_make_full _ rfl _ _ 27 rfl (w.heap.size + 1) 2 i0 _ 1 Try.underlying27 hi0 hz0 hz1 _ _ _ _ (m + 1) rfl rfl rfl rfl (by rw [hz2]; omega) (by simp only [maxLen]; omega) (by go_size) ?_)
  intro w1 hown0 hg
  rw [madeInts] at hown0
  have hown := OwI.made hown0 (by omega)
  have hE : Ext (w.alloc (.cells #[.int .i64 0, .slice none 0 0] 38)) w1 := Ext.grown (Ext.refl _) hg (fun k hk => by cases hk)
  have hEw : Ext w w1 := Ext.trans ((Ext.refl w).alloc _) hE
  have hb := (hown.bd _ _ _ rfl).2
  obtain ⟨z, hz, hcz, hfz⟩ := OwI.at_ hown (k := m) (by omega)
  have hr0 : w1.cell? ⟨w.heap.size, 0, none⟩ = some (.int .i64 0) := Ext.keep hE (by simp [go_sem])
  have hr1 : w1.cell? ⟨w.heap.size, 1, none⟩ = some (.slice none 0 0) := Ext.keep hE (by simp [go_sem])
  have hrf : ∀ j, w1.frozen? ⟨w.heap.size, j, none⟩ = false := fun j => (Below.frozen (p := ⟨w.heap.size, j, none⟩) hE (by simp [go_sem])).trans (by simp [go_sem])
  have HO := Lib.hid hown
  have HX := Lib.hid (show (List.replicate (m + 1) (0 : Int)).set m 1 = (varPl (-((m : Int) + 1))).cf from by
    rw [List.replicate_succ', List.set_append_right _ _ (by simp)]
    simp only [List.length_replicate, Nat.sub_self, List.set_cons_zero, varPl]
    rw [show (-(-((m : Int) + 1))).toNat - 1 = m by omega])
  clear hown hown0 hz hg
  have hm1 : (m : Int) < (m : Int) + 1 := by omega
  have hm0 : (0 : Int) ≤ (m : Int) := by omega
  have hidx : -1 + ((m : Int) + 1) = (m : Int) := by omega
  go_wp2
  refine bodyPost_ret (v := .agg #[.int .i64 0, .slice (some ⟨w.heap.size + 1, 0, none⟩) (m + 1) (m + 1)]) (by simp [results, Try.results87, go_sem, hr0, hr1, hrf]) rfl ⟨some ⟨w.heap.size + 1, 0, none⟩, m + 1, m + 1, rfl, ?_, ?_⟩
  · have h1 := HO.out.set m 1
    rw [HX.out] at h1
    have h2 : OwI _ w.heap.size _ _ _ _ := h1.lower (B' := w.heap.size) (by omega)
    (repeat' (first | (with_reducible exact h2) | (with_reducible refine OwI.setFar ?_ _ (fun g o s e => ?_)))) <;> (cases e; simp; try omega)
  · exact extX

end Go.Proofs.Ytljbjabgdalabaa
