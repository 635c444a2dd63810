import Derived.Test.YtempekmenkeigaaBase
import Derived.Test.YtempekmenkeigaaRows
import Derived.Test.YtempekmenkeigaaMgA
import Derived.BigGuardPart
namespace Go.Proofs.Ytempekmenkeigaa
open Go.RowKit
set_option linter.unusedSimpArgs false
set_option linter.unusedVariables false

theorem int64_info : (Try.prog.info? 2).map (fun i => (i.zero, i.size, i.bytes)) = some (some (.int .i64 0), 1, 8) := by kernel_rfl

set_option maxHeartbeats 400000 in
theorem c_eqInt64S {v0 v1 : Value} {xs ys : List Int} {w : World} (h0 : RdI w v0 xs) (h1 : RdI w v1 ys) :
    Calls Try.prog 29 #[v0, v1] w fun e w' => e = .returned (.bool (xs == ys)) ∧ Ext w w' := by
  obtain ⟨A, n, c, rfl, ha⟩ := h0
  obtain ⟨B, m, d, rfl, hb⟩ := h1
  have hn := ha.le
  have hm := hb.le
  by_cases hnm : n = m
  · subst hnm
    have hnn : ((n : Int) != (n : Int)) = false := by simp
    have HA := Lib.hid ha
    have HB := Lib.hid hb
    go_enter Try.func29, Try.ntmps29
    go_wp2
    go_loopw [5] (fun i wr => ∃ k : Nat, i = .int .i64 k ∧ k ≤ n ∧ Hid (∀ j, j < k → xs[j]? = ys[j]?) ∧ Ext w wr) (fun i _ => n - (intOf i).toNat)
    case atStart => exact ⟨0, rfl, Nat.zero_le _, fun j hj => by omega, Ext.refl _⟩
    case round =>
      obtain ⟨k, rfl, hk, hp, hw⟩ := hrel
      by_cases hlt : k < n
      · obtain ⟨b, o, x, rfl, hx, hcx⟩ := RI.at_ (RI.ext HA.out hw) hlt
        obtain ⟨b', o', y, rfl, hy, hcy⟩ := RI.at_ (RI.ext HB.out hw) hlt
        have HX := Lib.hid hx
        have HY := Lib.hid hy
        clear hx hy
        have hlt' : (k : Int) < (n : Int) := by omega
        go_wp2
        go_quiet (fail)
        go_wp2
        · have hne : (x != y) = true := by assumption
          go_ret
          exact ⟨ret_bool (beq_false_get HX.out HY.out (by simpa using hne)).symm, Ext.drewN hw _⟩
        · have hne : (x != y) = false := by assumption
          refine ⟨⟨k + 1, by go_num, by omega, fun j hj => ?_, Ext.drewN hw _⟩, by simp [intOf]; omega⟩
          rcases Nat.lt_or_ge j k with h | h
          · exact hp.out j h
          · obtain rfl : j = k := by omega
            rw [HX.out, HY.out]; simpa using hne
      · go_wp2
        go_ret
        refine ⟨ret_bool (beq_of_get ?_ fun j hj => ?_).symm, hw⟩
        · rw [HA.out.len, HB.out.len]
        · rw [HA.out.len] at hj; exact hp.out j (by omega)
  · have hnn : ((n : Int) != (m : Int)) = true := by simp; omega
    go_enter Try.func29, Try.ntmps29
    go_wp2
    go_ret
    exact ⟨ret_bool (beq_false_len (by rw [ha.len, hb.len]; exact hnm)).symm, Ext.refl _⟩
theorem c_eqInt64S_self {v0 v1 : Value} {xs : List Int} {w : World} (h0 : RdI w v0 xs) (h1 : RdI w v1 xs) :
    Calls Try.prog 29 #[v0, v1] w fun e w' => e = .returned (.bool true) ∧ Ext w w' :=
  (c_eqInt64S h0 h1).mono fun _ _ ⟨he, hw⟩ => ⟨he.trans (ret_bool (by simp)), hw⟩

set_option maxHeartbeats 400000 in
theorem c_SameTerm {v0 v1 : Value} {xs ys : List Int} {w : World} (h0 : RdI w v0 xs) (h1 : RdI w v1 ys) :
    Calls Try.prog 82 #[v0, v1] w fun e w' => e = .returned (.bool (xs == ys)) ∧ Ext w w' := by
  obtain ⟨A, n, c, rfl, ha⟩ := h0
  obtain ⟨B, m, d, rfl, hb⟩ := h1
  have hn := ha.le
  have hm := hb.le
  by_cases hnm : n = m
  · subst hnm
    have hnn : ((n : Int) != (n : Int)) = false := by simp
    have HA := Lib.hid ha
    have HB := Lib.hid hb
    go_enter Try.func82, Try.ntmps82
    go_wp2
    go_loopw [5] (fun i wr => ∃ k : Nat, i = .int .i64 k ∧ k ≤ n ∧ Hid (∀ j, j < k → xs[j]? = ys[j]?) ∧ Ext w wr) (fun i _ => n - (intOf i).toNat)
    case atStart => exact ⟨0, rfl, Nat.zero_le _, fun j hj => by omega, Ext.refl _⟩
    case round =>
      obtain ⟨k, rfl, hk, hp, hw⟩ := hrel
      by_cases hlt : k < n
      · obtain ⟨b, o, x, rfl, hx, hcx⟩ := RI.at_ (RI.ext HA.out hw) hlt
        obtain ⟨b', o', y, rfl, hy, hcy⟩ := RI.at_ (RI.ext HB.out hw) hlt
        have HX := Lib.hid hx
        have HY := Lib.hid hy
        clear hx hy
        have hlt' : (k : Int) < (n : Int) := by omega
        go_wp2
        go_quiet (fail)
        go_wp2
        · have hne : (x != y) = true := by assumption
          go_ret
          exact ⟨ret_bool (beq_false_get HX.out HY.out (by simpa using hne)).symm, Ext.drewN hw _⟩
        · have hne : (x != y) = false := by assumption
          refine ⟨⟨k + 1, by go_num, by omega, fun j hj => ?_, Ext.drewN hw _⟩, by simp [intOf]; omega⟩
          rcases Nat.lt_or_ge j k with h | h
          · exact hp.out j h
          · obtain rfl : j = k := by omega
            rw [HX.out, HY.out]; simpa using hne
      · go_wp2
        go_ret
        refine ⟨ret_bool (beq_of_get ?_ fun j hj => ?_).symm, hw⟩
        · rw [HA.out.len, HB.out.len]
        · rw [HA.out.len] at hj; exact hp.out j (by omega)
  · have hnn : ((n : Int) != (m : Int)) = true := by simp; omega
    go_enter Try.func82, Try.ntmps82
    go_wp2
    go_ret
    exact ⟨ret_bool (beq_false_len (by rw [ha.len, hb.len]; exact hnm)).symm, Ext.refl _⟩
set_option maxHeartbeats 400000 in
theorem c_slicesEqual {v0 v1 : Value} {xs ys : List Int} {w : World} (h0 : RdI w v0 xs) (h1 : RdI w v1 ys) :
    Calls Try.prog 47 #[v0, v1] w fun e w' => e = .returned (.bool (xs == ys)) ∧ Ext w w' := by
  obtain ⟨A, n, c, rfl, ha⟩ := h0
  obtain ⟨B, m, d, rfl, hb⟩ := h1
  have hn := ha.le
  have hm := hb.le
  by_cases hnm : n = m
  · subst hnm
    have hnn : ((n : Int) != (n : Int)) = false := by simp
    have HA := Lib.hid ha
    have HB := Lib.hid hb
    go_enter Try.func47, Try.ntmps47
    go_wp2
    go_loopw [13] (fun i wr => ∃ k : Nat, i = .int .i64 k ∧ k ≤ n ∧ Hid (∀ j, j < k → xs[j]? = ys[j]?) ∧ Ext w wr) (fun i _ => n - (intOf i).toNat)
    case atStart => exact ⟨0, rfl, Nat.zero_le _, fun j hj => by omega, Ext.refl _⟩
    case round =>
      obtain ⟨k, rfl, hk, hp, hw⟩ := hrel
      by_cases hlt : k < n
      · obtain ⟨b, o, x, rfl, hx, hcx⟩ := RI.at_ (RI.ext HA.out hw) hlt
        obtain ⟨b', o', y, rfl, hy, hcy⟩ := RI.at_ (RI.ext HB.out hw) hlt
        have HX := Lib.hid hx
        have HY := Lib.hid hy
        clear hx hy
        have hlt' : (k : Int) < (n : Int) := by omega
        go_wp2
        go_quiet (fail)
        go_wp2
        · have hne : (x != y) = true := by assumption
          go_ret
          exact ⟨ret_bool (beq_false_get HX.out HY.out (by simpa using hne)).symm, Ext.drewN hw _⟩
        · have hne : (x != y) = false := by assumption
          refine ⟨⟨k + 1, by go_num, by omega, fun j hj => ?_, Ext.drewN hw _⟩, by simp [intOf]; omega⟩
          rcases Nat.lt_or_ge j k with h | h
          · exact hp.out j h
          · obtain rfl : j = k := by omega
            rw [HX.out, HY.out]; simpa using hne
      · go_wp2
        go_ret
        refine ⟨ret_bool (beq_of_get ?_ fun j hj => ?_).symm, hw⟩
        · rw [HA.out.len, HB.out.len]
        · rw [HA.out.len] at hj; exact hp.out j (by omega)
  · have hnn : ((n : Int) != (m : Int)) = true := by simp; omega
    go_enter Try.func47, Try.ntmps47
    go_wp2
    go_ret
    exact ⟨ret_bool (beq_false_len (by rw [ha.len, hb.len]; exact hnm)).symm, Ext.refl _⟩

set_option maxHeartbeats 400000 in
theorem c_toInt64S {v : Value} {xs : List Int} {w : World} (h0 : RdI w v xs) : Calls Try.prog 51 #[v] w (NewI w xs) := by
  obtain ⟨A, n, c, rfl, ha⟩ := h0
  have hn := ha.le
  obtain ⟨i0, hi0, hz0, hz1, hz2⟩ := info_parts int64_info
  have HA := Lib.hid ha
  go_enter Try.func51, Try.ntmps51
  go_wp2_with (at_make; refine wpList_make_full _ rfl _ _ 22 rfl w.heap.size 2 i0 _ 1 Try.underlying22 hi0 hz0 hz1 _ _ _ _ n rfl rfl rfl rfl (by rw [hz2]; omega) (by simp only [maxLen]; omega) (Nat.le_refl _) ?_)
  intro w1 hown0 hg
  rw [madeInts] at hown0
  have hown := OwI.made hown0 hn
  have hE : Ext w w1 := Ext.grown (Ext.refl _) hg (fun k hk => by cases hk)
  have hgl : w.heap.size < w1.heap.size := by
    rcases OwI.form hown with ⟨h0, _⟩ | ⟨g, hA, _, hlt⟩
    · cases h0
    · cases hA; exact hlt
  go_wp2
  go_loopw [4] (fun i wr => ∃ k : Nat, i = .int .i64 k ∧ k ≤ n ∧ OwI wr w.heap.size (some ⟨w.heap.size, 0, none⟩) n n (xs.take k ++ List.replicate (n - k) 0) ∧ Ext w wr) (fun i _ => n - (intOf i).toNat)
  case atStart => exact ⟨0, rfl, Nat.zero_le _, by rw [List.take_zero, List.nil_append, Nat.sub_zero]; exact hown, hE⟩
  case round =>
    obtain ⟨k, rfl, hk, hO, hw⟩ := hrel
    by_cases hlt : k < n
    · obtain ⟨b, o, x, rfl, hx, hcx⟩ := RI.at_ (RI.ext HA.out hw) hlt
      have HX := Lib.hid hx
      clear hx
      obtain ⟨z, hz, hcz, hfz⟩ := OwI.at_ hO hlt
      have HO := Lib.hid hO
      clear hz hO
      go_wp2
      refine ⟨⟨k + 1, by go_num, by omega, ?_, ?_⟩, by simp [intOf]; omega⟩
      · have := OwI.set HO.out k x
        rw [set_take HA.out.len HX.out] at this
        exact this
      · exact Ext.set hw (Nat.le_refl _) _
    · go_wp2
      go_ret
      have hkn : k = n := by omega
      subst hkn
      have e : xs.take k ++ List.replicate (k - k) 0 = xs := by rw [Nat.sub_self, List.take_of_length_le (by rw [HA.out.len]; exact Nat.le_refl _)]; simp
      rw [e] at hO
      exact ⟨_, _, _, rfl, hO, hw⟩

set_option maxHeartbeats 400000 in
theorem c_szInt64S {v : Value} {xs : List Int} {left : Int} {w : World} (h0 : RawI w v xs) (hl : -1 ≤ left) (hl2 : left ≤ 1048576) :
    Calls Try.prog 48 #[v, .int .i64 left] w fun e w' => e = .returned (.int .i64 (szI left xs.length)) ∧ Ext w w' := by
  obtain ⟨A, n, c, rfl, ha⟩ := h0
  have hn := ha.le
  rw [ha.1.1]
  by_cases h : left - n < 0
  · go_enter Try.func48, Try.ntmps48
    go_wp2
    go_ret
    exact ⟨ret_int (szI_m1 h).symm, Ext.refl _⟩
  · go_enter Try.func48, Try.ntmps48
    go_wp2
    go_ret
    exact ⟨ret_int (szI_sub (by omega)).symm, Ext.refl _⟩

/-- A signature: its arities. -/
def RdSig (w : World) (v : Value) (ar : List Int) : Prop := ∃ A n c, v = .agg #[.slice A n c] ∧ RI w A n ar
theorem RdSig.mk {w : World} {A : Option Addr} {n c : Nat} {xs : List Int} (h : RI w A n xs) : RdSig w (.agg #[.slice A n c]) xs := ⟨A, n, c, rfl, h⟩
theorem RdSig.ext {w w' : World} {v : Value} {xs : List Int} (h : RdSig w v xs) (k : Ext w w') : RdSig w' v xs := by
  obtain ⟨A, n, c, e, h1⟩ := h; exact ⟨A, n, c, e, h1.ext k⟩
def RawSig (w : World) (v : Value) (xs : List Int) : Prop := ∃ A n c, v = .agg #[.slice A n c] ∧ RJ w A n xs
theorem RawSig.mk {w : World} {A : Option Addr} {n c : Nat} {xs : List Int} (h : RJ w A n xs) : RawSig w (.agg #[.slice A n c]) xs := ⟨A, n, c, rfl, h⟩
def NewSig (w : World) (xs : List Int) (e : Ending) (w' : World) : Prop := ∃ A n c, e = .returned (.agg #[.slice A n c]) ∧ OwI w' w.heap.size A n c xs ∧ Ext w w'
theorem NewSig.out {w w' : World} {xs : List Int} {e : Ending} (h : NewSig w xs e w') : ∃ v, e = .returned v ∧ RdSig w' v xs ∧ Ext w w' := by
  obtain ⟨A, n, c, e, h1, h2⟩ := h; exact ⟨_, e, RdSig.mk h1.ri, h2⟩

set_option maxHeartbeats 400000 in
theorem c_toSig {v : Value} {ar : List Int} {w : World} (h0 : RdSig w v ar) : Calls Try.prog 25 #[v] w (NewSig w ar) := by
  obtain ⟨A, n, c, rfl, ha⟩ := h0
  have HA := Lib.hid ha
  clear ha
  go_enter Try.func25, Try.ntmps25
  go_wp2_with (go_at_call 51; (with_reducible refine (c_toInt64S (by (first | (with_reducible exact RdI.mk (RI.ext (Hid.out (by with_reducible assumption)) (by exact extX))) | (with_reducible exact RdI.ext (by with_reducible assumption) (by exact extX))))).mono ?_); rintro e w1 ⟨A1, n1, c1, rfl, hO1, hE1⟩; have HA1 := Lib.hid (OwI.bd hO1); have HR1 := Lib.hid (OwI.ri hO1); have HO1 := Lib.hid (OwI.lower (B' := w.heap.size) hO1 (by go_size)); clear hO1; have hz1 := sz_of hE1; (try simp only [World.size_alloc, World.size_setCell, World.size_drew] at hz1); obtain ⟨hc1, hf1⟩ := bcell hE1; (try have hq1_0 : w.heap.size < w1.heap.size := by omega); (try have hq1_1 : w.heap.size + 1 < w1.heap.size := by omega); (try have hq1_2 : w.heap.size + 1 + 1 < w1.heap.size := by omega); (try have hq1_3 : w.heap.size + 1 + 1 + 1 < w1.heap.size := by omega); (try have hq1_4 : w.heap.size + 1 + 1 + 1 + 1 < w1.heap.size := by omega); (try have hq1_5 : w.heap.size + 1 + 1 + 1 + 1 + 1 < w1.heap.size := by omega))
  refine bodyPost_ret (v := .agg #[.slice A1 n1 c1]) (by simp [results, Try.results25, go_sem, hc1, hq1_0, hq1_1, hq1_2]) rfl ⟨A1, n1, c1, rfl, ?_, ?_⟩
  · (repeat' (first | (with_reducible refine OwI.setFar ?_ _ (far_lt HA1.out ?_)) | (with_reducible refine OwI.alloc ?_ _) | (with_reducible refine OwI.drewN ?_ _) | (with_reducible exact HO1.out) | (with_reducible refine OwI.ext ?_ (by with_reducible assumption)) | (left; go_size) | (right; go_size)))
  · exact extX
set_option maxHeartbeats 400000 in
theorem c_eqSig {v0 v1 : Value} {xs ys : List Int} {w : World} (h0 : RdSig w v0 xs) (h1 : RdSig w v1 ys) :
    Calls Try.prog 30 #[v0, v1] w fun e w' => e = .returned (.bool (xs == ys)) ∧ Ext w w' := by
  obtain ⟨A, n, c, rfl, ha⟩ := h0
  obtain ⟨B, m, d, rfl, hb⟩ := h1
  have HA := Lib.hid ha
  have HB := Lib.hid hb
  clear ha hb
  go_enter Try.func30, Try.ntmps30
  go_wp2_with (go_at_call 29; (with_reducible refine (c_eqInt64S (xs := xs) (ys := ys) (by (first | (with_reducible exact RdI.mk (RI.ext (Hid.out (by with_reducible assumption)) (by exact extX))) | (with_reducible exact RdI.ext (by with_reducible assumption) (by exact extX)))) (by (first | (with_reducible exact RdI.mk (RI.ext (Hid.out (by with_reducible assumption)) (by exact extX))) | (with_reducible exact RdI.ext (by with_reducible assumption) (by exact extX))))).mono ?_); rintro e w1 ⟨rfl, hE1⟩; have hz1 := sz_of hE1; (try simp only [World.size_alloc, World.size_setCell, World.size_drew] at hz1); obtain ⟨hc1, hf1⟩ := bcell hE1; (try have hq1_0 : w.heap.size < w1.heap.size := by omega); (try have hq1_1 : w.heap.size + 1 < w1.heap.size := by omega); (try have hq1_2 : w.heap.size + 1 + 1 < w1.heap.size := by omega); (try have hq1_3 : w.heap.size + 1 + 1 + 1 < w1.heap.size := by omega); (try have hq1_4 : w.heap.size + 1 + 1 + 1 + 1 < w1.heap.size := by omega); (try have hq1_5 : w.heap.size + 1 + 1 + 1 + 1 + 1 < w1.heap.size := by omega))
  · have h : (!xs == ys) = true := by assumption
    go_ret
    exact ⟨ret_bool (by simpa using h), by exact extX⟩
  · have h : (!xs == ys) = false := by assumption
    go_ret
    exact ⟨ret_bool (by simpa using h), by exact extX⟩
theorem c_eqSig_self {v0 v1 : Value} {xs : List Int} {w : World} (h0 : RdSig w v0 xs) (h1 : RdSig w v1 xs) :
    Calls Try.prog 30 #[v0, v1] w fun e w' => e = .returned (.bool true) ∧ Ext w w' :=
  (c_eqSig h0 h1).mono fun _ _ ⟨he, hw⟩ => ⟨he.trans (ret_bool (by simp)), hw⟩
set_option maxHeartbeats 400000 in
theorem c_szSig {v : Value} {xs : List Int} {left : Int} {w : World} (h0 : RawSig w v xs) (hl : -1 ≤ left) (hl2 : left ≤ 1048576) :
    Calls Try.prog 22 #[v, .int .i64 left] w fun e w' => e = .returned (.int .i64 (szI left xs.length)) ∧ Ext w w' := by
  obtain ⟨A, n, c, rfl, ha⟩ := h0
  have h1 := szI_lo left xs.length
  have HA := Lib.hid ha
  clear ha
  go_enter Try.func22, Try.ntmps22
  go_wp2_with (go_at_call 48; (with_reducible refine (c_szInt64S (xs := xs) (by (first | (with_reducible exact RawI.mk (RJ.ext (Hid.out (by with_reducible assumption)) (by exact extX))))) hl hl2).mono ?_); rintro e w1 ⟨rfl, hE1⟩; have hz1 := sz_of hE1; (try simp only [World.size_alloc, World.size_setCell, World.size_drew] at hz1); obtain ⟨hc1, hf1⟩ := bcell hE1; (try have hq1_0 : w.heap.size < w1.heap.size := by omega); (try have hq1_1 : w.heap.size + 1 < w1.heap.size := by omega); (try have hq1_2 : w.heap.size + 1 + 1 < w1.heap.size := by omega); (try have hq1_3 : w.heap.size + 1 + 1 + 1 < w1.heap.size := by omega); (try have hq1_4 : w.heap.size + 1 + 1 + 1 + 1 < w1.heap.size := by omega); (try have hq1_5 : w.heap.size + 1 + 1 + 1 + 1 + 1 < w1.heap.size := by omega))
  · have h : szI left xs.length < 0 := by assumption
    go_ret
    exact ⟨ret_int (by omega), by exact extX⟩
  · go_ret
    exact ⟨rfl, by exact extX⟩

end Go.Proofs.Ytempekmenkeigaa
