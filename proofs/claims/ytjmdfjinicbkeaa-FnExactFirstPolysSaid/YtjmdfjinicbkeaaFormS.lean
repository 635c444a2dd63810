/- Forms, by the reference. -/
import Derived.Test.YtjmdfjinicbkeaaFormF
import Derived.Test.YtjmdfjinicbkeaaParts
-- rd: RdPl RdPs
namespace Go.Proofs.Ytjmdfjinicbkeaa
open Go.RowKit
set_option linter.unusedSimpArgs false
set_option linter.unusedVariables false

set_option maxRecDepth 100000 in
set_option maxHeartbeats 2000000 in
theorem c_l15Most {v0 v1 : Value} {a b : Pl} {w : World} (h0 : RdPl w v0 a) (h1 : RdPl w v1 b) (hnn : ∀ y ∈ b.cf, 0 ≤ y) :
    Calls Try.prog 116 #[v0, v1] w fun e w' => e = .returned (.bool (most a b)) ∧ Ext w w' := by
  obtain ⟨A, n, c, rfl, ha⟩ := h0
  obtain ⟨B, m, d, rfl, hb⟩ := h1
  have hn := ha.le
  have hm := hb.le
  have HL := Lib.hid ha.len
  have HM := Lib.hid hb.len
  have HA := Lib.hid ha
  have HB := Lib.hid hb
  have HNN := Lib.hid hnn
  clear ha hb hnn
  go_enter Try.func116, Try.ntmps116
  go_wp2_with fail
  obtain ⟨wo, hwo⟩ : ∃ wo, wo = (w.alloc (.cells #[.int .i64 a.c, .slice A n c] 90)).alloc (.cells #[.int .i64 b.c, .slice B m d] 90) := ⟨_, rfl⟩
  have hw1 : wo.cell? ⟨w.heap.size, 1, none⟩ = some (.slice A n c) := by rw [hwo]; simp [go_sem]
  have hw3 : wo.cell? ⟨w.heap.size + 1, 1, none⟩ = some (.slice B m d) := by rw [hwo]; simp [go_sem]
  have hEo : Ext w wo := by rw [hwo]; exact extX
  rw [← hwo]
  clear hwo
  go_loopw [5] (fun i wr => ∃ k : Nat, i = .int .i64 k ∧ k ≤ n ∧ Hid (∀ (j : Nat) (x : Int), j < k → a.cf[j]? = some x → x ≤ nth b.cf j) ∧ Ext wo wr) (fun i _ => n - (intOf i).toNat)
  case atStart => exact ⟨0, rfl, Nat.zero_le _, Lib.hid fun j x hj => by omega, Ext.refl _⟩
  case round =>
    obtain ⟨k, rfl, hk, hp, hE⟩ := hrel
    have hEw : Ext w wr := Ext.trans hEo hE
    have hr1 := Ext.keep hE hw1
    have hr3 := Ext.keep hE hw3
    by_cases hlt : k < n
    · obtain ⟨b', o', x, rfl, hx, hcx⟩ := RI.at_ (RI.ext HA.out hEw) hlt
      have HX := Lib.hid hx
      clear hx
      have hki : (k : Int) < (n : Int) := by omega
      have hk0 : (0 : Int) ≤ (k : Int) := by omega
      have hstep := fun (hxb : x ≤ nth b.cf k) => Lib.hid (show ∀ (j : Nat) (y : Int), j < k + 1 → a.cf[j]? = some y → y ≤ nth b.cf j from fun j y hj e => by
          rcases Nat.lt_or_ge j k with h | h
          · exact hp.out j y h e
          · obtain rfl : j = k := by omega
            rw [HX.out] at e; cases e; exact hxb)
      have HST := Lib.hid hstep
      clear hstep
      by_cases hx0 : 0 < x
      · have hd0 : decide (0 < x) = true := by simpa using hx0
        by_cases hkm : k < m
        · have hd1 : decide ((m : Int) ≤ (k : Int)) = false := by simp; omega
          obtain ⟨b2, o2, y, rfl, hy, hcy⟩ := RI.at_ (RI.ext HB.out hEw) hkm
          have HY := Lib.hid (getD_at hy)
          clear hy
          have hkmi : (k : Int) < (m : Int) := by omega
          by_cases hxy : y < x
          · have hd2 : decide (y < x) = true := by simpa using hxy
            have HR := Lib.hid (most_f (a := a) (b := b) HX.out (by rw [HY.out]; exact hxy))
            go_wp2_with fail
            go_quiet (fail)
            go_wp2
            go_ret
            exact ⟨ret_bool HR.out.symm, by exact extX⟩
          · have hd2 : decide (y < x) = false := by simpa using hxy
            have HP := HST.out (by rw [HY.out]; omega)
            go_wp2_with fail
            go_quiet (fail)
            go_wp2
            go_roundw
            case rel => exact ⟨k + 1, by go_num, by omega, HP, by exact extX⟩
            case measure => simp only [intOf]; omega
        · have hd1 : decide ((m : Int) ≤ (k : Int)) = true := by simp; omega
          have HR := Lib.hid (most_f (a := a) (b := b) HX.out (by rw [getD_past (by rw [HM.out]; omega)]; exact hx0))
          go_wp2_with fail
          go_quiet (fail)
          go_wp2
          go_ret
          exact ⟨ret_bool HR.out.symm, by exact extX⟩
      · have hd0 : decide (0 < x) = false := by simpa using hx0
        have HP := HST.out (by
          have : 0 ≤ nth b.cf k := by
            rcases hj : b.cf[k]? with _ | y
            · unfold nth; rw [List.getD_eq_getElem?_getD, hj]; simp
            · rw [getD_at hj]; exact HNN.out y (List.mem_of_getElem? hj)
          omega)
        go_wp2_with fail
        go_quiet (fail)
        go_wp2
        go_roundw
        case rel => exact ⟨k + 1, by go_num, by omega, HP, by exact extX⟩
        case measure => simp only [intOf]; omega
    · have HR := Lib.hid (most_t (a := a) (b := b) fun j x hj e => hp.out j x (by rw [HL.out] at hj; omega) e)
      go_wp2
      go_ret
      exact ⟨ret_bool HR.out.symm, by exact extX⟩

end Go.Proofs.Ytjmdfjinicbkeaa
