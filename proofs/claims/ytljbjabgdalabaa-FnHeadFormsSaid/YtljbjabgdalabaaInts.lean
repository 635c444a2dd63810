import Derived.Test.YtljbjabgdalabaaBase
import Derived.Test.YtljbjabgdalabaaRows
import Derived.Test.YtljbjabgdalabaaModel
import Derived.BigGuardPart
namespace Go.Proofs.Ytljbjabgdalabaa
open Go.RowKit
set_option linter.unusedSimpArgs false
set_option linter.unusedVariables false

theorem int64_info : (Try.prog.info? 2).map (fun i => (i.zero, i.size, i.bytes)) = some (some (.int .i64 0), 1, 8) := by kernel_rfl


set_option maxHeartbeats 400000 in
theorem c_SameTerm {v0 v1 : Value} {xs ys : List Int} {w : World} (h0 : RdI w v0 xs) (h1 : RdI w v1 ys) :
    Calls Try.prog 93 #[v0, v1] w fun e w' => e = .returned (.bool (xs == ys)) ∧ Ext w w' := by
  obtain ⟨A, n, c, rfl, ha⟩ := h0
  obtain ⟨B, m, d, rfl, hb⟩ := h1
  have hn := ha.le
  have hm := hb.le
  by_cases hnm : n = m
  · subst hnm
    have hnn : ((n : Int) != (n : Int)) = false := by simp
    have HA := Lib.hid ha
    have HB := Lib.hid hb
    go_enter Try.func93, Try.ntmps93
    go_wp2
    go_loopw [5] (fun i wr => ∃ k : Nat, i = .int .i64 k ∧ k ≤ n ∧ Hid (∀ j, j < k → xs[j]? = ys[j]?) ∧ Ext w wr) (fun i _ => n - (intOf i).toNat)
    case atStart => exact ⟨0, rfl, Nat.zero_le _, fun j hj => by omega, Ext.refl _⟩
    case round =>
      obtain ⟨k, rfl, hk, hp, hw⟩ := hrel
      by_cases hlt : k < n
      · obtain ⟨b, o, x, rfl, hx, hcx⟩ := RI.at_ (RI.ext HA.out hw) hlt
        obtain ⟨b', o', y, rfl, hy, hcy⟩ := RI.at_ (RI.ext HB.out hw) hlt
        have HX := Lib.hid hx
        have HY := Lib.hid hy
        clear hx hy
        have hlt' : (k : Int) < (n : Int) := by omega
        go_wp2
        go_quiet (fail)
        go_wp2
        · have hne : (x != y) = true := by assumption
          go_ret
          exact ⟨ret_bool (beq_false_get HX.out HY.out (by simpa using hne)).symm, Ext.drewN hw _⟩
        · have hne : (x != y) = false := by assumption
          refine ⟨⟨k + 1, by go_num, by omega, fun j hj => ?_, Ext.drewN hw _⟩, by simp [intOf]; omega⟩
          rcases Nat.lt_or_ge j k with h | h
          · exact hp.out j h
          · obtain rfl : j = k := by omega
            rw [HX.out, HY.out]; simpa using hne
      · go_wp2
        go_ret
        refine ⟨ret_bool (beq_of_get ?_ fun j hj => ?_).symm, hw⟩
        · rw [HA.out.len, HB.out.len]
        · rw [HA.out.len] at hj; exact hp.out j (by omega)
  · have hnn : ((n : Int) != (m : Int)) = true := by simp; omega
    go_enter Try.func93, Try.ntmps93
    go_wp2
    go_ret
    exact ⟨ret_bool (beq_false_len (by rw [ha.len, hb.len]; exact hnm)).symm, Ext.refl _⟩



/-- A signature: its arities. -/
def RdSig (w : World) (v : Value) (ar : List Int) : Prop := ∃ A n c, v = .agg #[.slice A n c] ∧ RI w A n ar
theorem RdSig.mk {w : World} {A : Option Addr} {n c : Nat} {xs : List Int} (h : RI w A n xs) : RdSig w (.agg #[.slice A n c]) xs := ⟨A, n, c, rfl, h⟩
theorem RdSig.ext {w w' : World} {v : Value} {xs : List Int} (h : RdSig w v xs) (k : Ext w w') : RdSig w' v xs := by
  obtain ⟨A, n, c, e, h1⟩ := h; exact ⟨A, n, c, e, h1.ext k⟩
def RawSig (w : World) (v : Value) (xs : List Int) : Prop := ∃ A n c, v = .agg #[.slice A n c] ∧ RJ w A n xs
theorem RawSig.mk {w : World} {A : Option Addr} {n c : Nat} {xs : List Int} (h : RJ w A n xs) : RawSig w (.agg #[.slice A n c]) xs := ⟨A, n, c, rfl, h⟩
def NewSig (w : World) (xs : List Int) (e : Ending) (w' : World) : Prop := ∃ A n c, e = .returned (.agg #[.slice A n c]) ∧ OwI w' w.heap.size A n c xs ∧ Ext w w'
theorem NewSig.out {w w' : World} {xs : List Int} {e : Ending} (h : NewSig w xs e w') : ∃ v, e = .returned v ∧ RdSig w' v xs ∧ Ext w w' := by
  obtain ⟨A, n, c, e, h1, h2⟩ := h; exact ⟨_, e, RdSig.mk h1.ri, h2⟩


end Go.Proofs.Ytljbjabgdalabaa
