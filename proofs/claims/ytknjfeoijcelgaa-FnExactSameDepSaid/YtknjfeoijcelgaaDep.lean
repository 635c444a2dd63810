import Derived.Test.YtknjfeoijcelgaaInts
namespace Go.Proofs.Ytknjfeoijcelgaa
open Go.RowKit
set_option linter.unusedSimpArgs false
set_option linter.unusedVariables false

set_option maxHeartbeats 400000 in
theorem c_szDepPair {A B : Option Addr} {n c m d : Nat} {x y left : Int} {w : World} (hl : -1 ≤ left) (hl2 : left ≤ 1048576) (hn : n ≤ 9223372036854775807) (hm : m ≤ 9223372036854775807) :
    Calls Try.prog 15 #[.agg #[.slice A n c, .slice B m d, .int .i64 x, .int .i64 y], .int .i64 left] w fun e w' => e = .returned (.int .i64 (szI (szI left n) m)) ∧ Ext w w' := by
  have h1 := szI_lo left n
  have h2 := szI_le left n hl
  have h3 := szI_lo (szI left n) m
  go_enter Try.func15, Try.ntmps15
  go_wp2_with (first
    | (go_at_call 65; (with_reducible refine (c_szInt64S (n := n) hl hl2 hn).mono ?_); rintro e w1 ⟨rfl, hE1⟩; have hz1 := sz_of hE1; (try simp only [World.size_alloc, World.size_setCell, World.size_drew] at hz1); obtain ⟨hc1, hf1⟩ := bcell hE1; (try have hq1_0 : w.heap.size < w1.heap.size := by omega); (try have hq1_1 : w.heap.size + 1 < w1.heap.size := by omega); (try have hq1_2 : w.heap.size + 1 + 1 < w1.heap.size := by omega); (try have hq1_3 : w.heap.size + 1 + 1 + 1 < w1.heap.size := by omega); (try have hq1_4 : w.heap.size + 1 + 1 + 1 + 1 < w1.heap.size := by omega); (try have hq1_5 : w.heap.size + 1 + 1 + 1 + 1 + 1 < w1.heap.size := by omega))
    | (go_at_call 65; (with_reducible refine (c_szInt64S (n := m) h1 (by omega) hm).mono ?_); rintro e w2 ⟨rfl, hE2⟩; have hz2 := sz_of hE2; (try simp only [World.size_alloc, World.size_setCell, World.size_drew] at hz2); obtain ⟨hc2, hf2⟩ := bcell hE2; (try have hq2_0 : w.heap.size < w2.heap.size := by omega); (try have hq2_1 : w.heap.size + 1 < w2.heap.size := by omega); (try have hq2_2 : w.heap.size + 1 + 1 < w2.heap.size := by omega); (try have hq2_3 : w.heap.size + 1 + 1 + 1 < w2.heap.size := by omega); (try have hq2_4 : w.heap.size + 1 + 1 + 1 + 1 < w2.heap.size := by omega); (try have hq2_5 : w.heap.size + 1 + 1 + 1 + 1 + 1 < w2.heap.size := by omega); (try have hx2_1 : w1.heap.size < w2.heap.size := by omega)))
  · have hneg : szI left n < 0 := by assumption
    go_ret
    exact ⟨ret_int (szI_neg hneg).symm, by (repeat' (first | (with_reducible exact Ext.refl _) | (with_reducible assumption) | (with_reducible refine Ext.alloc ?_ _) | (with_reducible refine Ext.set ?_ ?_ _) | (with_reducible refine Ext.drewN ?_ _) | (with_reducible refine Ext.drew ?_) | (with_reducible refine Ext.trans ?_ (by with_reducible assumption)) | go_size))⟩
  · have hneg : szI (szI left n) m < 0 := by assumption
    go_ret
    exact ⟨ret_int (by omega), by (repeat' (first | (with_reducible exact Ext.refl _) | (with_reducible assumption) | (with_reducible refine Ext.alloc ?_ _) | (with_reducible refine Ext.set ?_ ?_ _) | (with_reducible refine Ext.drewN ?_ _) | (with_reducible refine Ext.drew ?_) | (with_reducible refine Ext.trans ?_ (by with_reducible assumption)) | go_size))⟩
  · go_ret
    exact ⟨rfl, by (repeat' (first | (with_reducible exact Ext.refl _) | (with_reducible assumption) | (with_reducible refine Ext.alloc ?_ _) | (with_reducible refine Ext.set ?_ ?_ _) | (with_reducible refine Ext.drewN ?_ _) | (with_reducible refine Ext.drew ?_) | (with_reducible refine Ext.trans ?_ (by with_reducible assumption)) | go_size))⟩

set_option maxHeartbeats 400000 in
/-- 'x == y' on two slices, by a loop. -/
theorem c_SameTerm {A B : Option Addr} {n m c d : Nat} {xs ys : List Int} {w : World} (ha : RI w A n xs) (hb : RI w B m ys) :
    Calls Try.prog 66 #[.slice A n c, .slice B m d] w fun e w' => e = .returned (.bool (xs == ys)) ∧ Ext w w' := by
  have hn := ha.le
  have hm := hb.le
  by_cases hnm : n = m
  · subst hnm
    have hnn : ((n : Int) != (n : Int)) = false := by simp
    have HA := Lib.hid ha
    have HB := Lib.hid hb
    go_enter Try.func66, Try.ntmps66
    go_wp2
    go_loopw [5] (fun i wr => ∃ k : Nat, i = .int .i64 k ∧ k ≤ n ∧ Hid (∀ j, j < k → xs[j]? = ys[j]?) ∧ Ext w wr) (fun i _ => n - (intOf i).toNat)
    case atStart => exact ⟨0, rfl, Nat.zero_le _, fun j hj => by omega, Ext.refl _⟩
    case round =>
      obtain ⟨k, rfl, hk, hp, hw⟩ := hrel
      by_cases hlt : k < n
      · obtain ⟨b, o, x, rfl, hx, hcx⟩ := RI.at_ (RI.ext HA.out hw) hlt
        obtain ⟨b', o', y, rfl, hy, hcy⟩ := RI.at_ (RI.ext HB.out hw) hlt
        have HX := Lib.hid hx
        have HY := Lib.hid hy
        clear hx hy
        have hlt' : (k : Int) < (n : Int) := by omega
        go_wp2
        go_quiet (fail)
        go_wp2
        · have hne : (x != y) = true := by assumption
          go_ret
          exact ⟨ret_bool (beq_false_get HX.out HY.out (by simpa using hne)).symm, Ext.drewN hw _⟩
        · have hne : (x != y) = false := by assumption
          refine ⟨⟨k + 1, by go_num, by omega, fun j hj => ?_, Ext.drewN hw _⟩, by simp [intOf]; omega⟩
          rcases Nat.lt_or_ge j k with h | h
          · exact hp.out j h
          · obtain rfl : j = k := by omega
            rw [HX.out, HY.out]; simpa using hne
      · go_wp2
        go_ret
        refine ⟨ret_bool (beq_of_get ?_ fun j hj => ?_).symm, hw⟩
        · rw [HA.out.len, HB.out.len]
        · rw [HA.out.len] at hj; exact hp.out j (by omega)
  · have hnn : ((n : Int) != (m : Int)) = true := by simp; omega
    go_enter Try.func66, Try.ntmps66
    go_wp2
    go_ret
    exact ⟨ret_bool (beq_false_len (by rw [ha.len, hb.len]; exact hnm)).symm, Ext.refl _⟩
set_option maxHeartbeats 400000 in
theorem c_slicesEqual {A B : Option Addr} {n m c d : Nat} {xs ys : List Int} {w : World} (ha : RI w A n xs) (hb : RI w B m ys) :
    Calls Try.prog 67 #[.slice A n c, .slice B m d] w fun e w' => e = .returned (.bool (xs == ys)) ∧ Ext w w' := by
  have hn := ha.le
  have hm := hb.le
  by_cases hnm : n = m
  · subst hnm
    have hnn : ((n : Int) != (n : Int)) = false := by simp
    have HA := Lib.hid ha
    have HB := Lib.hid hb
    go_enter Try.func67, Try.ntmps67
    go_wp2
    go_loopw [13] (fun i wr => ∃ k : Nat, i = .int .i64 k ∧ k ≤ n ∧ Hid (∀ j, j < k → xs[j]? = ys[j]?) ∧ Ext w wr) (fun i _ => n - (intOf i).toNat)
    case atStart => exact ⟨0, rfl, Nat.zero_le _, fun j hj => by omega, Ext.refl _⟩
    case round =>
      obtain ⟨k, rfl, hk, hp, hw⟩ := hrel
      by_cases hlt : k < n
      · obtain ⟨b, o, x, rfl, hx, hcx⟩ := RI.at_ (RI.ext HA.out hw) hlt
        obtain ⟨b', o', y, rfl, hy, hcy⟩ := RI.at_ (RI.ext HB.out hw) hlt
        have HX := Lib.hid hx
        have HY := Lib.hid hy
        clear hx hy
        have hlt' : (k : Int) < (n : Int) := by omega
        go_wp2
        go_quiet (fail)
        go_wp2
        · have hne : (x != y) = true := by assumption
          go_ret
          exact ⟨ret_bool (beq_false_get HX.out HY.out (by simpa using hne)).symm, Ext.drewN hw _⟩
        · have hne : (x != y) = false := by assumption
          refine ⟨⟨k + 1, by go_num, by omega, fun j hj => ?_, Ext.drewN hw _⟩, by simp [intOf]; omega⟩
          rcases Nat.lt_or_ge j k with h | h
          · exact hp.out j h
          · obtain rfl : j = k := by omega
            rw [HX.out, HY.out]; simpa using hne
      · go_wp2
        go_ret
        refine ⟨ret_bool (beq_of_get ?_ fun j hj => ?_).symm, hw⟩
        · rw [HA.out.len, HB.out.len]
        · rw [HA.out.len] at hj; exact hp.out j (by omega)
  · have hnn : ((n : Int) != (m : Int)) = true := by simp; omega
    go_enter Try.func67, Try.ntmps67
    go_wp2
    go_ret
    exact ⟨ret_bool (beq_false_len (by rw [ha.len, hb.len]; exact hnm)).symm, Ext.refl _⟩

/-- A pair of the call's own. -/
def NewDep (w : World) (p : DepP) (e : Ending) (w' : World) : Prop :=
  ∃ A n c B m d, e = .returned (.agg #[.slice A n c, .slice B m d, .int .i64 p.rule, .int .i64 p.at_]) ∧ OwI w' w.heap.size A n c p.l ∧ OwI w' w.heap.size B m d p.r ∧ Ext w w'

set_option maxHeartbeats 600000 in
theorem c_toDepPair {A B : Option Addr} {n m c d : Nat} {p : DepP} {w : World} (ha : RI w A n p.l) (hb : RI w B m p.r) :
    Calls Try.prog 17 #[.agg #[.slice A n c, .slice B m d, .int .i64 p.rule, .int .i64 p.at_]] w (NewDep w p) := by
  have HA := Lib.hid ha
  have HB := Lib.hid hb
  clear ha hb
  go_enter Try.func17, Try.ntmps17
  go_wp2_with (first
    | (go_at_call 23; (with_reducible refine (c_toInt64S (RI.ext HA.out (by (repeat' (first | (with_reducible exact Ext.refl _) | (with_reducible assumption) | (with_reducible refine Ext.alloc ?_ _) | (with_reducible refine Ext.set ?_ ?_ _) | (with_reducible refine Ext.drewN ?_ _) | (with_reducible refine Ext.drew ?_) | (with_reducible refine Ext.trans ?_ (by with_reducible assumption)) | go_size))))).mono ?_); rintro e w1 ⟨A1, c1, rfl, hO1, hE1⟩; have HA1 := Lib.hid (OwI.bd hO1); have HR1 := Lib.hid (OwI.ri hO1); have HO1 := Lib.hid (OwI.lower (B' := w.heap.size) hO1 (by go_size)); clear hO1; have hz1 := sz_of hE1; (try simp only [World.size_alloc, World.size_setCell, World.size_drew] at hz1); obtain ⟨hc1, hf1⟩ := bcell hE1; (try have hq1_0 : w.heap.size < w1.heap.size := by omega); (try have hq1_1 : w.heap.size + 1 < w1.heap.size := by omega); (try have hq1_2 : w.heap.size + 1 + 1 < w1.heap.size := by omega); (try have hq1_3 : w.heap.size + 1 + 1 + 1 < w1.heap.size := by omega); (try have hq1_4 : w.heap.size + 1 + 1 + 1 + 1 < w1.heap.size := by omega); (try have hq1_5 : w.heap.size + 1 + 1 + 1 + 1 + 1 < w1.heap.size := by omega))
    | (go_at_call 23; (with_reducible refine (c_toInt64S (RI.ext HB.out (by (repeat' (first | (with_reducible exact Ext.refl _) | (with_reducible assumption) | (with_reducible refine Ext.alloc ?_ _) | (with_reducible refine Ext.set ?_ ?_ _) | (with_reducible refine Ext.drewN ?_ _) | (with_reducible refine Ext.drew ?_) | (with_reducible refine Ext.trans ?_ (by with_reducible assumption)) | go_size))))).mono ?_); rintro e w2 ⟨A2, c2, rfl, hO2, hE2⟩; have HA2 := Lib.hid (OwI.bd hO2); have HR2 := Lib.hid (OwI.ri hO2); have HO2 := Lib.hid (OwI.lower (B' := w.heap.size) hO2 (by go_size)); clear hO2; have hz2 := sz_of hE2; (try simp only [World.size_alloc, World.size_setCell, World.size_drew] at hz2); obtain ⟨hc2, hf2⟩ := bcell hE2; (try have hq2_0 : w.heap.size < w2.heap.size := by omega); (try have hq2_1 : w.heap.size + 1 < w2.heap.size := by omega); (try have hq2_2 : w.heap.size + 1 + 1 < w2.heap.size := by omega); (try have hq2_3 : w.heap.size + 1 + 1 + 1 < w2.heap.size := by omega); (try have hq2_4 : w.heap.size + 1 + 1 + 1 + 1 < w2.heap.size := by omega); (try have hq2_5 : w.heap.size + 1 + 1 + 1 + 1 + 1 < w2.heap.size := by omega); (try have hx2_1 : w1.heap.size < w2.heap.size := by omega)))
  refine bodyPost_ret (v := .agg #[.slice A1 n c1, .slice A2 m c2, .int .i64 p.rule, .int .i64 p.at_]) (by simp [results, Try.results17, go_sem, hc1, hc2, hq1_0, hq1_1, hq1_2, hq2_0, hq2_1, hq2_2]) rfl ?_
  refine ⟨A1, n, c1, A2, m, c2, rfl, ?_, ?_, ?_⟩
  · (repeat' (first | (with_reducible refine OwI.setFar ?_ _ (far_lt HA1.out ?_)) | (with_reducible refine OwI.alloc ?_ _) | (with_reducible refine OwI.drewN ?_ _) | (with_reducible exact HO1.out) | (with_reducible refine OwI.ext ?_ (by with_reducible assumption)) | (left; go_size) | (right; go_size)))
  · (repeat' (first | (with_reducible refine OwI.setFar ?_ _ (far_lt HA2.out ?_)) | (with_reducible refine OwI.alloc ?_ _) | (with_reducible refine OwI.drewN ?_ _) | (with_reducible exact HO2.out) | (with_reducible refine OwI.ext ?_ (by with_reducible assumption)) | (left; go_size) | (right; go_size)))
  · (repeat' (first | (with_reducible exact Ext.refl _) | (with_reducible assumption) | (with_reducible refine Ext.alloc ?_ _) | (with_reducible refine Ext.set ?_ ?_ _) | (with_reducible refine Ext.drewN ?_ _) | (with_reducible refine Ext.drew ?_) | (with_reducible refine Ext.trans ?_ (by with_reducible assumption)) | go_size))

/-- A value that reads as a pair. -/
def RdDep (w : World) (v : Value) (p : DepP) : Prop := ∃ A n c B m d, v = .agg #[.slice A n c, .slice B m d, .int .i64 p.rule, .int .i64 p.at_] ∧ RI w A n p.l ∧ RI w B m p.r
theorem RdDep.mk {w : World} {A B : Option Addr} {n c m d : Nat} {p : DepP} (h1 : RI w A n p.l) (h2 : RI w B m p.r) : RdDep w (.agg #[.slice A n c, .slice B m d, .int .i64 p.rule, .int .i64 p.at_]) p :=
  ⟨A, n, c, B, m, d, rfl, h1, h2⟩
theorem RdDep.ext {w w' : World} {v : Value} {p : DepP} (h : RdDep w v p) (k : Ext w w') : RdDep w' v p := by
  obtain ⟨A, n, c, B, m, d, e, h1, h2⟩ := h
  exact ⟨A, n, c, B, m, d, e, h1.ext k, h2.ext k⟩

theorem NewDep.out {w w' : World} {p : DepP} {e : Ending} (h : NewDep w p e w') : ∃ v, e = .returned v ∧ RdDep w' v p ∧ Ext w w' := by
  obtain ⟨A, n, c, B, m, d, e, h1, h2, h3⟩ := h
  exact ⟨_, e, ⟨A, n, c, B, m, d, rfl, h1.ri, h2.ri⟩, h3⟩
theorem dep_f1 {p q : DepP} (h : (!p.l == q.l) = true) : false = p.same q := by simp at h; simp [DepP.same, h]
theorem dep_f2 {p q : DepP} (h : (!p.r == q.r) = true) : false = p.same q := by simp at h; simp [DepP.same, h]
theorem dep_f3 {p q : DepP} (h : (p.rule != q.rule) = true) : false = p.same q := by simp at h; simp [DepP.same, h]
theorem dep_f4 {p q : DepP} (h : (p.at_ != q.at_) = true) : false = p.same q := by simp at h; simp [DepP.same, h]
theorem dep_t {p q : DepP} (h1 : (!p.l == q.l) = false) (h2 : (!p.r == q.r) = false) (h3 : (p.rule != q.rule) = false) (h4 : (p.at_ != q.at_) = false) : true = p.same q := by
  simp at h1 h2 h3 h4; simp [DepP.same, h1, h2, h3, h4]

set_option maxHeartbeats 800000 in
theorem c_eqDepPair {v v' : Value} {p q : DepP} {w : World} (h0 : RdDep w v p) (h1 : RdDep w v' q) :
    Calls Try.prog 19 #[v, v'] w fun e w' => e = .returned (.bool (p.same q)) ∧ Ext w w' := by
  obtain ⟨A, n, c, B, m, d, rfl, ha, hb⟩ := h0
  obtain ⟨A', n', c', B', m', d', rfl, ha', hb'⟩ := h1
  have HA := Lib.hid ha
  have HB := Lib.hid hb
  have HA' := Lib.hid ha'
  have HB' := Lib.hid hb'
  clear ha hb ha' hb'
  go_enter Try.func19, Try.ntmps19
  go_wp2_with (first
    | (go_at_call 26; (with_reducible refine (c_eqInt64S (RI.ext HA.out (by (repeat' (first | (with_reducible exact Ext.refl _) | (with_reducible assumption) | (with_reducible refine Ext.alloc ?_ _) | (with_reducible refine Ext.set ?_ ?_ _) | (with_reducible refine Ext.drewN ?_ _) | (with_reducible refine Ext.drew ?_) | (with_reducible refine Ext.trans ?_ (by with_reducible assumption)) | go_size)))) (RI.ext HA'.out (by (repeat' (first | (with_reducible exact Ext.refl _) | (with_reducible assumption) | (with_reducible refine Ext.alloc ?_ _) | (with_reducible refine Ext.set ?_ ?_ _) | (with_reducible refine Ext.drewN ?_ _) | (with_reducible refine Ext.drew ?_) | (with_reducible refine Ext.trans ?_ (by with_reducible assumption)) | go_size))))).mono ?_); rintro e w1 ⟨rfl, hE1⟩; have hz1 := sz_of hE1; (try simp only [World.size_alloc, World.size_setCell, World.size_drew] at hz1); obtain ⟨hc1, hf1⟩ := bcell hE1; (try have hq1_0 : w.heap.size < w1.heap.size := by omega); (try have hq1_1 : w.heap.size + 1 < w1.heap.size := by omega); (try have hq1_2 : w.heap.size + 1 + 1 < w1.heap.size := by omega); (try have hq1_3 : w.heap.size + 1 + 1 + 1 < w1.heap.size := by omega); (try have hq1_4 : w.heap.size + 1 + 1 + 1 + 1 < w1.heap.size := by omega); (try have hq1_5 : w.heap.size + 1 + 1 + 1 + 1 + 1 < w1.heap.size := by omega))
    | (go_at_call 26; (with_reducible refine (c_eqInt64S (RI.ext HB.out (by (repeat' (first | (with_reducible exact Ext.refl _) | (with_reducible assumption) | (with_reducible refine Ext.alloc ?_ _) | (with_reducible refine Ext.set ?_ ?_ _) | (with_reducible refine Ext.drewN ?_ _) | (with_reducible refine Ext.drew ?_) | (with_reducible refine Ext.trans ?_ (by with_reducible assumption)) | go_size)))) (RI.ext HB'.out (by (repeat' (first | (with_reducible exact Ext.refl _) | (with_reducible assumption) | (with_reducible refine Ext.alloc ?_ _) | (with_reducible refine Ext.set ?_ ?_ _) | (with_reducible refine Ext.drewN ?_ _) | (with_reducible refine Ext.drew ?_) | (with_reducible refine Ext.trans ?_ (by with_reducible assumption)) | go_size))))).mono ?_); rintro e w2 ⟨rfl, hE2⟩; have hz2 := sz_of hE2; (try simp only [World.size_alloc, World.size_setCell, World.size_drew] at hz2); obtain ⟨hc2, hf2⟩ := bcell hE2; (try have hq2_0 : w.heap.size < w2.heap.size := by omega); (try have hq2_1 : w.heap.size + 1 < w2.heap.size := by omega); (try have hq2_2 : w.heap.size + 1 + 1 < w2.heap.size := by omega); (try have hq2_3 : w.heap.size + 1 + 1 + 1 < w2.heap.size := by omega); (try have hq2_4 : w.heap.size + 1 + 1 + 1 + 1 < w2.heap.size := by omega); (try have hq2_5 : w.heap.size + 1 + 1 + 1 + 1 + 1 < w2.heap.size := by omega); (try have hx2_1 : w1.heap.size < w2.heap.size := by omega)))
  all_goals go_ret
  all_goals refine ⟨ret_bool ?_, by (repeat' (first | (with_reducible exact Ext.refl _) | (with_reducible assumption) | (with_reducible refine Ext.alloc ?_ _) | (with_reducible refine Ext.set ?_ ?_ _) | (with_reducible refine Ext.drewN ?_ _) | (with_reducible refine Ext.drew ?_) | (with_reducible refine Ext.trans ?_ (by with_reducible assumption)) | go_size))⟩
  all_goals first | exact dep_f1 (by with_reducible assumption) | exact dep_f2 (by with_reducible assumption) | exact dep_f3 (by with_reducible assumption) | exact dep_f4 (by with_reducible assumption) | exact dep_t (by with_reducible assumption) (by with_reducible assumption) (by with_reducible assumption) (by with_reducible assumption)

theorem dep_e {p q : DepP} {b1 b2 b3 b4 : Bool} (e1 : (p.l == q.l) = b1) (e2 : (p.r == q.r) = b2) (e3 : (p.rule == q.rule) = b3) (e4 : (p.at_ == q.at_) = b4) : p.same q = (b1 && b2 && b3 && b4) := by
  rw [DepP.same, e1, e2, e3, e4]
theorem same_ff {p q : DepP} (h : ¬ (p.l = q.l ∧ p.r = q.r ∧ p.rule = q.rule ∧ p.at_ = q.at_)) : false = p.same q := by
  simp [DepP.same]; intro a b c d; exact h ⟨a, b, c, d⟩
theorem same_at {p q : DepP} (h1 : p.l = q.l) (h2 : p.r = q.r) (h3 : p.rule = q.rule) : (p.at_ == q.at_) = p.same q := by simp [DepP.same, h1, h2, h3]
theorem same_r {p q : DepP} (h1 : p.l = q.l) (h2 : p.rule = q.rule) (h3 : p.at_ = q.at_) : (p.r == q.r) = p.same q := by simp [DepP.same, h1, h2, h3]

theorem c_eqDepPair_self {v v' : Value} {p : DepP} {w : World} (h0 : RdDep w v p) (h1 : RdDep w v' p) :
    Calls Try.prog 19 #[v, v'] w fun e w' => e = .returned (.bool true) ∧ Ext w w' :=
  (c_eqDepPair h0 h1).mono fun _ _ ⟨he, hw⟩ => ⟨he.trans (ret_bool (by simp [DepP.same])), hw⟩

set_option maxHeartbeats 800000 in
theorem c_iSameDep {v v' : Value} {p q : DepP} {w : World} (h0 : RdDep w v p) (h1 : RdDep w v' q) :
    Calls Try.prog 18 #[v, v'] w fun e w' => e = .returned (.bool (p.same q)) ∧ Ext w w' := by
  obtain ⟨A, n, c, B, m, d, rfl, ha, hb⟩ := h0
  obtain ⟨A', n', c', B', m', d', rfl, ha', hb'⟩ := h1
  have HA := Lib.hid ha
  have HB := Lib.hid hb
  have HA' := Lib.hid ha'
  have HB' := Lib.hid hb'
  clear ha hb ha' hb'
  go_enter Try.func18, Try.ntmps18
  go_wp2_with (first
    | (go_at_call 67; (with_reducible refine (c_slicesEqual (RI.ext HA.out (by (repeat' (first | (with_reducible exact Ext.refl _) | (with_reducible assumption) | (with_reducible refine Ext.alloc ?_ _) | (with_reducible refine Ext.set ?_ ?_ _) | (with_reducible refine Ext.drewN ?_ _) | (with_reducible refine Ext.drew ?_) | (with_reducible refine Ext.trans ?_ (by with_reducible assumption)) | go_size)))) (RI.ext HA'.out (by (repeat' (first | (with_reducible exact Ext.refl _) | (with_reducible assumption) | (with_reducible refine Ext.alloc ?_ _) | (with_reducible refine Ext.set ?_ ?_ _) | (with_reducible refine Ext.drewN ?_ _) | (with_reducible refine Ext.drew ?_) | (with_reducible refine Ext.trans ?_ (by with_reducible assumption)) | go_size))))).mono ?_); rintro e w1 ⟨rfl, hE1⟩; have hz1 := sz_of hE1; (try simp only [World.size_alloc, World.size_setCell, World.size_drew] at hz1); obtain ⟨hc1, hf1⟩ := bcell hE1; (try have hq1_0 : w.heap.size < w1.heap.size := by omega); (try have hq1_1 : w.heap.size + 1 < w1.heap.size := by omega); (try have hq1_2 : w.heap.size + 1 + 1 < w1.heap.size := by omega); (try have hq1_3 : w.heap.size + 1 + 1 + 1 < w1.heap.size := by omega); (try have hq1_4 : w.heap.size + 1 + 1 + 1 + 1 < w1.heap.size := by omega); (try have hq1_5 : w.heap.size + 1 + 1 + 1 + 1 + 1 < w1.heap.size := by omega))
    | (go_at_call 67; (with_reducible refine (c_slicesEqual (RI.ext HB.out (by (repeat' (first | (with_reducible exact Ext.refl _) | (with_reducible assumption) | (with_reducible refine Ext.alloc ?_ _) | (with_reducible refine Ext.set ?_ ?_ _) | (with_reducible refine Ext.drewN ?_ _) | (with_reducible refine Ext.drew ?_) | (with_reducible refine Ext.trans ?_ (by with_reducible assumption)) | go_size)))) (RI.ext HB'.out (by (repeat' (first | (with_reducible exact Ext.refl _) | (with_reducible assumption) | (with_reducible refine Ext.alloc ?_ _) | (with_reducible refine Ext.set ?_ ?_ _) | (with_reducible refine Ext.drewN ?_ _) | (with_reducible refine Ext.drew ?_) | (with_reducible refine Ext.trans ?_ (by with_reducible assumption)) | go_size))))).mono ?_); rintro e w2 ⟨rfl, hE2⟩; have hz2 := sz_of hE2; (try simp only [World.size_alloc, World.size_setCell, World.size_drew] at hz2); obtain ⟨hc2, hf2⟩ := bcell hE2; (try have hq2_0 : w.heap.size < w2.heap.size := by omega); (try have hq2_1 : w.heap.size + 1 < w2.heap.size := by omega); (try have hq2_2 : w.heap.size + 1 + 1 < w2.heap.size := by omega); (try have hq2_3 : w.heap.size + 1 + 1 + 1 < w2.heap.size := by omega); (try have hq2_4 : w.heap.size + 1 + 1 + 1 + 1 < w2.heap.size := by omega); (try have hq2_5 : w.heap.size + 1 + 1 + 1 + 1 + 1 < w2.heap.size := by omega); (try have hx2_1 : w1.heap.size < w2.heap.size := by omega)))
  all_goals go_ret
  all_goals refine ⟨ret_bool ?_, by (repeat' (first | (with_reducible exact Ext.refl _) | (with_reducible assumption) | (with_reducible refine Ext.alloc ?_ _) | (with_reducible refine Ext.set ?_ ?_ _) | (with_reducible refine Ext.drewN ?_ _) | (with_reducible refine Ext.drew ?_) | (with_reducible refine Ext.trans ?_ (by with_reducible assumption)) | go_size))⟩
  all_goals first | exact same_at (by with_reducible assumption) (by with_reducible assumption) (by with_reducible assumption) | exact same_r (by with_reducible assumption) (by with_reducible assumption) (by with_reducible assumption) | (refine same_ff ?_; rintro ⟨a, b, c, d⟩; contradiction)

set_option maxHeartbeats 800000 in
theorem c_sSameDep {v v' : Value} {p q : DepP} {w : World} (h0 : RdDep w v p) (h1 : RdDep w v' q) :
    Calls Try.prog 16 #[v, v'] w fun e w' => e = .returned (.bool (p.same q)) ∧ Ext w w' := by
  obtain ⟨A, n, c, B, m, d, rfl, ha, hb⟩ := h0
  obtain ⟨A', n', c', B', m', d', rfl, ha', hb'⟩ := h1
  have HA := Lib.hid ha
  have HB := Lib.hid hb
  have HA' := Lib.hid ha'
  have HB' := Lib.hid hb'
  clear ha hb ha' hb'
  go_enter Try.func16, Try.ntmps16
  go_wp2_with (first
    | (go_at_call 66; (with_reducible refine (c_SameTerm (RI.ext HA.out (by (repeat' (first | (with_reducible exact Ext.refl _) | (with_reducible assumption) | (with_reducible refine Ext.alloc ?_ _) | (with_reducible refine Ext.set ?_ ?_ _) | (with_reducible refine Ext.drewN ?_ _) | (with_reducible refine Ext.drew ?_) | (with_reducible refine Ext.trans ?_ (by with_reducible assumption)) | go_size)))) (RI.ext HA'.out (by (repeat' (first | (with_reducible exact Ext.refl _) | (with_reducible assumption) | (with_reducible refine Ext.alloc ?_ _) | (with_reducible refine Ext.set ?_ ?_ _) | (with_reducible refine Ext.drewN ?_ _) | (with_reducible refine Ext.drew ?_) | (with_reducible refine Ext.trans ?_ (by with_reducible assumption)) | go_size))))).mono ?_); rintro e w1 ⟨rfl, hE1⟩; have hz1 := sz_of hE1; (try simp only [World.size_alloc, World.size_setCell, World.size_drew] at hz1); obtain ⟨hc1, hf1⟩ := bcell hE1; (try have hq1_0 : w.heap.size < w1.heap.size := by omega); (try have hq1_1 : w.heap.size + 1 < w1.heap.size := by omega); (try have hq1_2 : w.heap.size + 1 + 1 < w1.heap.size := by omega); (try have hq1_3 : w.heap.size + 1 + 1 + 1 < w1.heap.size := by omega); (try have hq1_4 : w.heap.size + 1 + 1 + 1 + 1 < w1.heap.size := by omega); (try have hq1_5 : w.heap.size + 1 + 1 + 1 + 1 + 1 < w1.heap.size := by omega))
    | (go_at_call 66; (with_reducible refine (c_SameTerm (RI.ext HB.out (by (repeat' (first | (with_reducible exact Ext.refl _) | (with_reducible assumption) | (with_reducible refine Ext.alloc ?_ _) | (with_reducible refine Ext.set ?_ ?_ _) | (with_reducible refine Ext.drewN ?_ _) | (with_reducible refine Ext.drew ?_) | (with_reducible refine Ext.trans ?_ (by with_reducible assumption)) | go_size)))) (RI.ext HB'.out (by (repeat' (first | (with_reducible exact Ext.refl _) | (with_reducible assumption) | (with_reducible refine Ext.alloc ?_ _) | (with_reducible refine Ext.set ?_ ?_ _) | (with_reducible refine Ext.drewN ?_ _) | (with_reducible refine Ext.drew ?_) | (with_reducible refine Ext.trans ?_ (by with_reducible assumption)) | go_size))))).mono ?_); rintro e w2 ⟨rfl, hE2⟩; have hz2 := sz_of hE2; (try simp only [World.size_alloc, World.size_setCell, World.size_drew] at hz2); obtain ⟨hc2, hf2⟩ := bcell hE2; (try have hq2_0 : w.heap.size < w2.heap.size := by omega); (try have hq2_1 : w.heap.size + 1 < w2.heap.size := by omega); (try have hq2_2 : w.heap.size + 1 + 1 < w2.heap.size := by omega); (try have hq2_3 : w.heap.size + 1 + 1 + 1 < w2.heap.size := by omega); (try have hq2_4 : w.heap.size + 1 + 1 + 1 + 1 < w2.heap.size := by omega); (try have hq2_5 : w.heap.size + 1 + 1 + 1 + 1 + 1 < w2.heap.size := by omega); (try have hx2_1 : w1.heap.size < w2.heap.size := by omega)))
  all_goals go_ret
  all_goals refine ⟨ret_bool ?_, by (repeat' (first | (with_reducible exact Ext.refl _) | (with_reducible assumption) | (with_reducible refine Ext.alloc ?_ _) | (with_reducible refine Ext.set ?_ ?_ _) | (with_reducible refine Ext.drewN ?_ _) | (with_reducible refine Ext.drew ?_) | (with_reducible refine Ext.trans ?_ (by with_reducible assumption)) | go_size))⟩
  all_goals first | exact same_at (by with_reducible assumption) (by with_reducible assumption) (by with_reducible assumption) | exact same_r (by with_reducible assumption) (by with_reducible assumption) (by with_reducible assumption) | (refine same_ff ?_; rintro ⟨a, b, c, d⟩; contradiction)

end Go.Proofs.Ytknjfeoijcelgaa
