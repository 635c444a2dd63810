import Derived.Test.YtknjfeoijcelgaaBase
import Derived.Test.YtknjfeoijcelgaaRows
import Derived.Test.YtknjfeoijcelgaaModel
import Derived.BigGuardPart
namespace Go.Proofs.Ytknjfeoijcelgaa
open Go.RowKit
set_option linter.unusedSimpArgs false
set_option linter.unusedVariables false

theorem int64_info : (Try.prog.info? 2).map (fun i => (i.zero, i.size, i.bytes)) = some (some (.int .i64 0), 1, 8) := by kernel_rfl

set_option maxHeartbeats 400000 in
theorem c_eqInt64S {A B : Option Addr} {n m c d : Nat} {xs ys : List Int} {w : World} (ha : RI w A n xs) (hb : RI w B m ys) :
    Calls Try.prog 26 #[.slice A n c, .slice B m d] w fun e w' => e = .returned (.bool (xs == ys)) ∧ Ext w w' := by
  have hn := ha.le
  have hm := hb.le
  by_cases hnm : n = m
  · subst hnm
    have hnn : ((n : Int) != (n : Int)) = false := by simp
    have HA := Lib.hid ha
    have HB := Lib.hid hb
    go_enter Try.func26, Try.ntmps26
    go_wp2
    go_loopw [5] (fun i wr => ∃ k : Nat, i = .int .i64 k ∧ k ≤ n ∧ Hid (∀ j, j < k → xs[j]? = ys[j]?) ∧ Ext w wr) (fun i _ => n - (intOf i).toNat)
    case atStart => exact ⟨0, rfl, Nat.zero_le _, fun j hj => by omega, Ext.refl _⟩
    case round =>
      obtain ⟨k, rfl, hk, hp, hw⟩ := hrel
      by_cases hlt : k < n
      · obtain ⟨b, o, x, rfl, hx, hcx⟩ := RI.at_ (RI.ext HA.out hw) hlt
        obtain ⟨b', o', y, rfl, hy, hcy⟩ := RI.at_ (RI.ext HB.out hw) hlt
        have HX := Lib.hid hx
        have HY := Lib.hid hy
        clear hx hy
        have hlt' : (k : Int) < (n : Int) := by omega
        go_wp2
        go_quiet (fail)
        go_wp2
        · have hne : (x != y) = true := by assumption
          go_ret
          exact ⟨ret_bool (beq_false_get HX.out HY.out (by simpa using hne)).symm, Ext.drewN hw _⟩
        · have hne : (x != y) = false := by assumption
          refine ⟨⟨k + 1, by go_num, by omega, fun j hj => ?_, Ext.drewN hw _⟩, by simp [intOf]; omega⟩
          rcases Nat.lt_or_ge j k with h | h
          · exact hp.out j h
          · obtain rfl : j = k := by omega
            rw [HX.out, HY.out]; simpa using hne
      · go_wp2
        go_ret
        refine ⟨ret_bool (beq_of_get ?_ fun j hj => ?_).symm, hw⟩
        · rw [HA.out.len, HB.out.len]
        · rw [HA.out.len] at hj; exact hp.out j (by omega)
  · have hnn : ((n : Int) != (m : Int)) = true := by simp; omega
    go_enter Try.func26, Try.ntmps26
    go_wp2
    go_ret
    exact ⟨ret_bool (beq_false_len (by rw [ha.len, hb.len]; exact hnm)).symm, Ext.refl _⟩

/-- A copy of the call's own. -/
def NewI (w : World) (n : Nat) (xs : List Int) (e : Ending) (w' : World) : Prop := ∃ A c, e = .returned (.slice A n c) ∧ OwI w' w.heap.size A n c xs ∧ Ext w w'

set_option maxHeartbeats 400000 in
theorem c_toInt64S {A : Option Addr} {n c : Nat} {xs : List Int} {w : World} (ha : RI w A n xs) :
    Calls Try.prog 23 #[.slice A n c] w (NewI w n xs) := by
  have hn := ha.le
  obtain ⟨i0, hi0, hz0, hz1, hz2⟩ := info_parts int64_info
  have HA := Lib.hid ha
  go_enter Try.func23, Try.ntmps23
  go_wp2_with (at_make; refine wpList_make_full _ rfl _ _ 22 rfl w.heap.size 2 i0 _ 1 Try.underlying22 hi0 hz0 hz1 _ _ _ _ n rfl rfl rfl rfl (by rw [hz2]; omega) (by simp only [maxLen]; omega) (Nat.le_refl _) ?_)
  intro w1 hown0 hg
  rw [madeInts] at hown0
  have hown := OwI.made hown0 hn
  have hE : Ext w w1 := Ext.grown (Ext.refl _) hg (fun k hk => by cases hk)
  have hgl : w.heap.size < w1.heap.size := by
    rcases OwI.form hown with ⟨h0, _⟩ | ⟨g, hA, _, hlt⟩
    · cases h0
    · cases hA; exact hlt
  go_wp2
  go_loopw [4] (fun i wr => ∃ k : Nat, i = .int .i64 k ∧ k ≤ n ∧ OwI wr w.heap.size (some ⟨w.heap.size, 0, none⟩) n n (xs.take k ++ List.replicate (n - k) 0) ∧ Ext w wr) (fun i _ => n - (intOf i).toNat)
  case atStart => exact ⟨0, rfl, Nat.zero_le _, by rw [List.take_zero, List.nil_append, Nat.sub_zero]; exact hown, hE⟩
  case round =>
    obtain ⟨k, rfl, hk, hO, hw⟩ := hrel
    by_cases hlt : k < n
    · obtain ⟨b, o, x, rfl, hx, hcx⟩ := RI.at_ (RI.ext HA.out hw) hlt
      have HX := Lib.hid hx
      clear hx
      obtain ⟨z, hz, hcz, hfz⟩ := OwI.at_ hO hlt
      have HO := Lib.hid hO
      clear hz hO
      go_wp2
      refine ⟨⟨k + 1, by go_num, by omega, ?_, ?_⟩, by simp [intOf]; omega⟩
      · have := OwI.set HO.out k x
        rw [set_take HA.out.len HX.out] at this
        exact this
      · exact Ext.set hw (Nat.le_refl _) _
    · go_wp2
      go_ret
      have hkn : k = n := by omega
      subst hkn
      have e : xs.take k ++ List.replicate (k - k) 0 = xs := by rw [Nat.sub_self, List.take_of_length_le (by rw [HA.out.len]; exact Nat.le_refl _)]; simp
      rw [e] at hO
      exact ⟨_, _, rfl, hO, hw⟩

set_option maxHeartbeats 400000 in
theorem c_szInt64S {A : Option Addr} {n c : Nat} {left : Int} {w : World} (hl : -1 ≤ left) (hl2 : left ≤ 1048576) (hn : n ≤ 9223372036854775807) :
    Calls Try.prog 65 #[.slice A n c, .int .i64 left] w fun e w' => e = .returned (.int .i64 (szI left n)) ∧ Ext w w' := by
  by_cases h : left - n < 0
  · go_enter Try.func65, Try.ntmps65
    go_wp2
    go_ret
    exact ⟨ret_int (szI_m1 h).symm, Ext.refl _⟩
  · go_enter Try.func65, Try.ntmps65
    go_wp2
    go_ret
    exact ⟨ret_int (szI_sub (by omega)).symm, Ext.refl _⟩

end Go.Proofs.Ytknjfeoijcelgaa
