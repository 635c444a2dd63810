/- The reference: linear terms; instances. -/
import Derived.Test.YtdkiejhimmkocaaStp
import Derived.Test.YtdkiejhimmkocaaMCapW
namespace Go.Proofs.Ytdkiejhimmkocaa
open Go.RowKit
set_option linter.unusedSimpArgs false
set_option linter.unusedVariables false

theorem lin_count {t : List Int} {x : Int} (h : Lin t) (hx : x < 0) : t.count x ≤ 1 := by
  have h1 := List.nodup_iff_count.1 h x
  rwa [List.count_filter (by simpa using hx)] at h1
set_option maxRecDepth 100000 in
set_option maxHeartbeats 2000000 in
theorem c_l1Count {v0 : Value} {xs : List Int} {a : Int} {k : Nat} {w : World} (hk : xs.count a = k) (h0 : RdI w v0 xs) :
    Calls Try.prog 46 #[v0, .int .i64 a] w fun e w' => e = .returned (.int .i64 (k : Int)) ∧ Ext w w' := by
  obtain ⟨A, n, c, rfl, ha⟩ := h0
  have HA := Lib.hid ha
  have hn := ha.le
  have HLN := Lib.hid ha.len
  have HK := Lib.hid hk
  clear ha hk
  go_enter Try.func46, Try.ntmps46
  go_wp2_with fail
  go_loopw [5, 6] (fun cv iv wr => ∃ i : Nat, iv = .int .i64 i ∧ i ≤ n ∧ (∃ q : Nat, cv = .int .i64 (q : Int) ∧ q ≤ i ∧ Hid (q = (xs.take i).count a)) ∧ Ext w wr) (fun _ iv _ => n - (intOf iv).toNat)
  case atStart => exact ⟨0, rfl, Nat.zero_le _, ⟨0, rfl, Nat.le_refl _, Lib.hid (by simp)⟩, Ext.refl _⟩
  case round =>
    obtain ⟨i, rfl, hi, ⟨q, rfl, hq, hqc⟩, hE⟩ := hrel
    by_cases hlt : i < n
    · obtain ⟨b, o, x, rfl, hx, hcx⟩ := RI.at_ (RI.ext HA.out hE) hlt
      have hii : (i : Int) < (n : Int) := by omega
      have hi0 : (0 : Int) ≤ (i : Int) := by omega
      have HX := Lib.hid hx
      clear hx
      by_cases hxa : x = a
      · subst hxa
        have he : (x == x) = true := by simp
        have HN := Lib.hid (show q + 1 = (xs.take (i + 1)).count x by rw [take_snoc HX.out, List.count_append, ← hqc.out]; simp)
        go_wp2_with fail
        go_roundw
        case rel => exact ⟨i + 1, by go_num, by omega, ⟨q + 1, by go_num, by omega, HN⟩, hE⟩
        case measure => simp only [intOf]; omega
      · have he : (x == a) = false := by simpa using hxa
        have HN := Lib.hid (show q = (xs.take (i + 1)).count a by rw [take_snoc HX.out, List.count_append, ← hqc.out]; simp [List.count_cons, he])
        go_wp2_with fail
        go_roundw
        case rel => exact ⟨i + 1, by go_num, by omega, ⟨q, rfl, by omega, HN⟩, hE⟩
        case measure => simp only [intOf]; omega
    · have hqk : q = k := by
        have := hqc.out
        rw [List.take_of_length_le (by have := HLN.out; omega), HK.out] at this
        exact this
      subst hqk
      go_wp2_with fail
      go_ret
      exact ⟨rfl, hE⟩
set_option maxRecDepth 100000 in
set_option maxHeartbeats 2000000 in
theorem c_l2LinearT {v0 : Value} {t : List Int} {w : World} (hl : Lin t) (h0 : RdI w v0 t) :
    Calls Try.prog 25 #[v0] w fun e w' => e = .returned (.bool true) ∧ Ext w w' := by
  obtain ⟨A, n, c, rfl, ha⟩ := h0
  have HA := Lib.hid ha
  have hn := ha.le
  have HL := Lib.hid hl
  clear ha hl
  go_enter Try.func25, Try.ntmps25
  go_wp2_with fail
  go_loopw [3] (fun iv wr => ∃ i : Nat, iv = .int .i64 i ∧ i ≤ n ∧ Ext w wr) (fun iv _ => n - (intOf iv).toNat)
  case atStart => exact ⟨0, rfl, Nat.zero_le _, Ext.refl _⟩
  case round =>
    obtain ⟨i, rfl, hi, hE⟩ := hrel
    by_cases hlt : i < n
    · obtain ⟨b, o, x, rfl, hx, hcx⟩ := RI.at_ (RI.ext HA.out hE) hlt
      have hii : (i : Int) < (n : Int) := by omega
      have hi0 : (0 : Int) ≤ (i : Int) := by omega
      by_cases h0 : x < 0
      · have hd : decide (x < 0) = true := by simpa using h0
        obtain ⟨k, hk⟩ : ∃ k, t.count x = k := ⟨_, rfl⟩
        have hk1 : k ≤ 1 := by rw [← hk]; exact lin_count HL.out h0
        have HK := Lib.hid hk
        have hg : decide ((k : Int) > 1) = false := by simp; omega
        have hg2 : ¬ ((k : Int) > 1) := by omega
        clear hx hk
        go_wp2_with fail
        (with_reducible refine (c_l1Count HK.out (RdI.mk (RI.ext HA.out hE))).mono ?_)
        rintro e w2 ⟨rfl, hE2⟩
        go_wp2_with fail
        go_roundw
        case rel => exact ⟨i + 1, by go_num, by omega, Ext.trans hE hE2⟩
        case measure => simp only [intOf]; omega
      · have hd : decide (x < 0) = false := by simpa using h0
        clear hx
        go_wp2_with fail
        go_roundw
        case rel => exact ⟨i + 1, by go_num, by omega, hE⟩
        case measure => simp only [intOf]; omega
    · go_wp2_with fail
      go_ret
      exact ⟨rfl, hE⟩
theorem c_sTermOkI {v0 v1 : Value} {ar t : List Int} {w : World} (hb : termOk ar t = true) (h0 : RdSig w v0 ar) (h1 : RdI w v1 t) :
    Calls Try.prog 24 #[v0, v1] w fun e w' => e = .returned (.bool true) ∧ Ext w w' := by rw [← hb]; exact c_sTermOk h0 h1
set_option maxRecDepth 100000 in
set_option maxHeartbeats 2000000 in
theorem c_LinearT {v0 v1 : Value} {ar t : List Int} {w : World} (hl : Lin t) (ht : TermP ar t) (h0 : RdSig w v0 ar) (h1 : RdI w v1 t) :
    Calls Try.prog 10 #[v0, v1] w fun e w' => e = .returned (.bool true) ∧ Ext w w' := by
  obtain ⟨D, q, l, rfl, hd⟩ := h0
  obtain ⟨A, n, c, rfl, ha⟩ := h1
  have HD := Lib.hid hd
  have HA := Lib.hid ha
  have HL := Lib.hid hl
  have HT := Lib.hid (termOk_iff.2 ht)
  clear hd ha hl ht
  go_enter Try.func10, Try.ntmps10
  go_wp2_with fail
  (with_reducible refine (c_sTermOkI HT.out (RdSig.mk (RI.ext HD.out (by (repeat' (first | (with_reducible exact Ext.refl _) | (with_reducible assumption) | (with_reducible refine Ext.alloc ?_ _) | (with_reducible refine Ext.set ?_ ?_ _) | (with_reducible refine Ext.drewN ?_ _) | (with_reducible refine Ext.drew ?_) | (with_reducible refine Ext.trans ?_ (by with_reducible assumption)) | go_size))))) (RdI.mk (RI.ext HA.out (by (repeat' (first | (with_reducible exact Ext.refl _) | (with_reducible assumption) | (with_reducible refine Ext.alloc ?_ _) | (with_reducible refine Ext.set ?_ ?_ _) | (with_reducible refine Ext.drewN ?_ _) | (with_reducible refine Ext.drew ?_) | (with_reducible refine Ext.trans ?_ (by with_reducible assumption)) | go_size)))))).mono ?_)
  rintro e w2 ⟨rfl, hE2⟩
  go_wp2_with fail
  (with_reducible refine (c_l2LinearT HL.out (RdI.mk (RI.ext HA.out (by (repeat' (first | (with_reducible exact Ext.refl _) | (with_reducible assumption) | (with_reducible refine Ext.alloc ?_ _) | (with_reducible refine Ext.set ?_ ?_ _) | (with_reducible refine Ext.drewN ?_ _) | (with_reducible refine Ext.drew ?_) | (with_reducible refine Ext.trans ?_ (by with_reducible assumption)) | go_size)))))).mono ?_)
  rintro e w3 ⟨rfl, hE3⟩
  go_wp2_with fail
  go_ret
  exact ⟨rfl, by (repeat' (first | (with_reducible exact Ext.refl _) | (with_reducible assumption) | (with_reducible refine Ext.alloc ?_ _) | (with_reducible refine Ext.set ?_ ?_ _) | (with_reducible refine Ext.drewN ?_ _) | (with_reducible refine Ext.drew ?_) | (with_reducible refine Ext.trans ?_ (by with_reducible assumption)) | go_size))⟩
set_option maxRecDepth 100000 in
set_option maxHeartbeats 2000000 in
theorem c_MatchedT {v0 v1 : Value} {ar p t : List Int} {A : Option Addr} {n c : Nat} {w : World} (hi : InstP ar p t) (hp : TermP ar p) (ht : TermP ar t) (h0 : RdSig w v0 ar) (h1 : RdI w v1 p) (h2 : RI w A n t) (hc : n ≤ c ∧ c ≤ 9223372036854775807) :
    Calls Try.prog 26 #[v0, v1, .slice A n c] w fun e w' => ∃ A' n' c', e = .returned (.tuple #[.agg #[.slice A' n' c'], .bool true]) ∧ Ext w w' := by
  obtain ⟨D, q, l, rfl, hd⟩ := h0
  obtain ⟨B, m, d, rfl, hb⟩ := h1
  have HD := Lib.hid hd
  have HB := Lib.hid hb
  have HA := Lib.hid h2
  have HI := Lib.hid hi
  have HP := Lib.hid hp
  have HT := Lib.hid ht
  have HPo := Lib.hid (termOk_iff.2 hp)
  have HTo := Lib.hid (termOk_iff.2 ht)
  clear hd hb h2 hi hp ht
  go_enter Try.func26, Try.ntmps26
  go_wp2_with fail
  obtain ⟨w1, hw1⟩ : ∃ w1, w1 = (w.alloc (.cells #[.slice D q l] 29)).alloc (.cells #[.slice none 0 0] 52) := ⟨_, rfl⟩
  have hb1 : w1.cell? ⟨w.heap.size, 0, none⟩ = some (.slice D q l) := by rw [hw1]; simp [go_sem]
  have hb2 : w1.cell? ⟨w.heap.size + 1, 0, none⟩ = some (.slice none 0 0) := by rw [hw1]; simp [go_sem]
  have hf2 : ∀ j, w1.frozen? ⟨w.heap.size + 1, j, none⟩ = false := by intro j; rw [hw1]; simp [go_sem]
  have hE1 : Ext w w1 := by rw [hw1]; (repeat' (first | (with_reducible exact Ext.refl _) | (with_reducible assumption) | (with_reducible refine Ext.alloc ?_ _) | (with_reducible refine Ext.set ?_ ?_ _) | (with_reducible refine Ext.drewN ?_ _) | (with_reducible refine Ext.drew ?_) | (with_reducible refine Ext.trans ?_ (by with_reducible assumption)) | go_size))
  have hz1 : w.heap.size + 1 < w1.heap.size := by rw [hw1]; simp [go_sem]
  rw [← hw1]
  clear hw1
  (with_reducible refine (c_sTermOkI HPo.out (RdSig.mk (RI.ext HD.out hE1)) (RdI.mk (RI.ext HB.out hE1))).mono ?_)
  rintro e w2 ⟨rfl, hE2⟩
  have hE12 := Ext.trans hE1 hE2
  have hb12 := Ext.keep hE2 hb1
  go_wp2_with fail
  (with_reducible refine (c_sTermOkI HTo.out (RdSig.mk (RI.ext HD.out hE12)) (RdI.mk (RI.ext HA.out hE12))).mono ?_)
  rintro e w3 ⟨rfl, hE3⟩
  have hE13 := Ext.trans hE12 hE3
  have hb13 := Ext.keep hE3 hb12
  go_wp2_with fail
  (with_reducible refine (c_l4Match (RdSig.mk (RI.ext HD.out hE13)) (RdI.mk (RI.ext HB.out hE13)) (RI.ext HA.out hE13) hc HP.out HT.out).mono ?_)
  rintro e w4 ⟨A', n', c', σ, bb, rfl, hR4, hM4, hE4⟩
  have hbb : bb = true := by
    cases bb with
    | true => rfl
    | false => exact absurd HI.out (hM4.2 rfl)
  subst hbb
  have hE24 := Ext.trans hE2 (Ext.trans hE3 hE4)
  have hE14 := Ext.trans hE13 hE4
  have hb24 := Ext.keep hE24 hb2
  have hf24 : ∀ j, w4.frozen? ⟨w.heap.size + 1, j, none⟩ = false := fun j => (Below.frozen (p := ⟨w.heap.size + 1, j, none⟩) hE24 hz1).trans (hf2 j)
  clear hR4 hM4
  go_wp2_with fail
  have hb5 : (w4.setCell ⟨w.heap.size + 1, 0, none⟩ (.slice A' n' c')).cell? ⟨w.heap.size + 1, 0, none⟩ = some (.slice A' n' c') := World.cell?_setCell_same _ _ _ hb24
  refine bodyPost_ret (v := .tuple #[.agg #[.slice A' n' c'], .bool true]) (by simp [results, Try.results26, go_sem, hb5, hb24, hf24]) rfl ?_
  exact ⟨A', n', c', rfl, by first | exact Ext.set (Ext.set hE14 (by show w.heap.size ≤ w.heap.size + 1; omega) _) (by show w.heap.size ≤ w.heap.size + 1; omega) _ | exact Ext.set hE14 (by show w.heap.size ≤ w.heap.size + 1; omega) _⟩
set_option maxRecDepth 100000 in
set_option maxHeartbeats 2000000 in
theorem c_InstanceT {v0 v1 : Value} {ar p t : List Int} {A : Option Addr} {n c : Nat} {w : World} (hi : InstP ar p t) (hp : TermP ar p) (ht : TermP ar t) (h0 : RdSig w v0 ar) (h1 : RdI w v1 p) (h2 : RI w A n t) (hc : n ≤ c ∧ c ≤ 9223372036854775807) :
    Calls Try.prog 11 #[v0, v1, .slice A n c] w fun e w' => e = .returned (.bool true) ∧ Ext w w' := by
  obtain ⟨D, q, l, rfl, hd⟩ := h0
  obtain ⟨B, m, d, rfl, hb⟩ := h1
  have HD := Lib.hid hd
  have HB := Lib.hid hb
  have HA := Lib.hid h2
  have HI := Lib.hid hi
  have HP := Lib.hid hp
  have HT := Lib.hid ht
  clear hd hb h2 hi hp ht
  go_enter Try.func11, Try.ntmps11
  go_wp2_with fail
  (with_reducible refine (c_MatchedT HI.out HP.out HT.out (RdSig.mk (RI.ext HD.out (by (repeat' (first | (with_reducible exact Ext.refl _) | (with_reducible assumption) | (with_reducible refine Ext.alloc ?_ _) | (with_reducible refine Ext.set ?_ ?_ _) | (with_reducible refine Ext.drewN ?_ _) | (with_reducible refine Ext.drew ?_) | (with_reducible refine Ext.trans ?_ (by with_reducible assumption)) | go_size))))) (RdI.mk (RI.ext HB.out (by (repeat' (first | (with_reducible exact Ext.refl _) | (with_reducible assumption) | (with_reducible refine Ext.alloc ?_ _) | (with_reducible refine Ext.set ?_ ?_ _) | (with_reducible refine Ext.drewN ?_ _) | (with_reducible refine Ext.drew ?_) | (with_reducible refine Ext.trans ?_ (by with_reducible assumption)) | go_size))))) (RI.ext HA.out (by (repeat' (first | (with_reducible exact Ext.refl _) | (with_reducible assumption) | (with_reducible refine Ext.alloc ?_ _) | (with_reducible refine Ext.set ?_ ?_ _) | (with_reducible refine Ext.drewN ?_ _) | (with_reducible refine Ext.drew ?_) | (with_reducible refine Ext.trans ?_ (by with_reducible assumption)) | go_size)))) hc).mono ?_)
  rintro e w2 ⟨A', n', c', rfl, hE2⟩
  go_wp2_with fail
  go_ret
  exact ⟨rfl, by (repeat' (first | (with_reducible exact Ext.refl _) | (with_reducible assumption) | (with_reducible refine Ext.alloc ?_ _) | (with_reducible refine Ext.set ?_ ?_ _) | (with_reducible refine Ext.drewN ?_ _) | (with_reducible refine Ext.drew ?_) | (with_reducible refine Ext.trans ?_ (by with_reducible assumption)) | go_size))⟩

end Go.Proofs.Ytdkiejhimmkocaa
