/- Pairs of rules, by the program. -/
import Derived.Test.YtempekmenkeigaaDepT
import Derived.Test.YtempekmenkeigaaMgA
import Derived.Test.YtempekmenkeigaaSysOk
import Derived.Test.YtempekmenkeigaaWraps
import Derived.Test.YtempekmenkeigaaPG
import Derived.Test.YtempekmenkeigaaHeld
import Derived.Test.YtempekmenkeigaaCopy
import Derived.StillTailTactics
-- rd: RdSyK RdDp RdDq
namespace Go.Proofs.Ytempekmenkeigaa
open Go.RowKit
set_option linter.unusedSimpArgs false
set_option linter.unusedVariables false

set_option maxHeartbeats 1000000 in
theorem c_isDefined1 {A B : Option Addr} {n c m d g : Nat} {r : Ru} {x y : Int} {w : World} (h0 : RI w A n r.l) (hy : r.l[0]? = some y) (hg : w.cell? ⟨g, 0, none⟩ = some (.int .i64 x)) :
    Calls Try.prog 103 #[.agg #[.slice A n c, .slice B m d], .pointer (some ⟨g, 0, none⟩)] w fun e w' => e = .returned (.bool (y == x)) ∧ Ext w w' := by
  have hl := h0.len
  have h1 : 0 < n := by have := (List.getElem?_eq_some_iff.1 hy).1; omega
  obtain ⟨b, o, z, rfl, hz, hcz⟩ := RI.at_ h0 h1
  rw [hy] at hz; cases hz
  rw [Nat.add_zero] at hcz
  have hbl : b < w.heap.size := World.block_lt_of_cell? w _ hcz
  have hgl : g < w.heap.size := World.block_lt_of_cell? w _ hg
  have hni : (0 : Int) < (n : Int) := by omega
  have hn0 : n ≠ 0 := by omega
  clear h0
  go_enter Try.func103, Try.ntmps103
  go_wp2_with fail
  go_quiet (fail)
  go_wp2
  go_ret
  exact ⟨rfl, by exact extX⟩
set_option maxRecDepth 100000 in
set_option maxHeartbeats 1000000 in
theorem c_indexR {A : Option Addr} {n c g : Nat} {s : Sy} {x : Int} {w : World} (h0 : RR true w A n s.rs) (hs : SysP s) (hg : w.cell? ⟨g, 0, none⟩ = some (.int .i64 x)) :
    Calls Try.prog 110 #[.slice A n c, .func (.func 103) #[] #[.pointer (some ⟨g, 0, none⟩)]] w fun e w' => (∃ y, e = .returned (.int .i64 y) ∧ Hid (decide (0 ≤ y) = dfd s x)) ∧ Ext w w' := by
  have hn := h0.le
  have hl := h0.len
  have HA := Lib.hid h0
  have HL := Lib.hid hl
  have HS := Lib.hid hs
  clear h0 hl hs
  go_enter Try.func110, Try.ntmps110
  go_wp2
  go_loopw [8] (fun i wr => ∃ k : Nat, i = .int .i64 k ∧ k ≤ n ∧ Hid (∀ (j : Nat) (r : Ru), j < k → s.rs[j]? = some r → ¬ r.l[0]? = some x) ∧ Ext w wr) (fun i _ => n - (intOf i).toNat)
  case atStart => exact ⟨0, rfl, Nat.zero_le _, Lib.hid (fun j p hj => by omega), by exact extX⟩
  case round =>
    obtain ⟨k, rfl, hk, hp, hE⟩ := hrel
    by_cases hlt : k < n
    · obtain ⟨b, o, r, A1, m1, c1, A2, m2, c2, rfl, hx, hd1, hd2, hr1, hr5, hcap1, hcap2⟩ := RR.at_ (RR.ext HA.out hE) hlt
      have hlr : 1 ≤ r.l.length := (HS.out.2.2 k r hx).1.2.1.1
      obtain ⟨y, hy⟩ : ∃ y, r.l[0]? = some y := ⟨r.l[0]'(by omega), List.getElem?_eq_getElem (by omega)⟩
      have HY := Lib.hid hy
      have HX := Lib.hid hx
      have HR1 := Lib.hid hr1
      have hgr := Ext.keep hE hg
      clear hx hr1 hr5 hcap1 hcap2 hy
      by_cases hyx : y = x
      · have HR := Lib.hid (dfd_t HX.out (by rw [HY.out, hyx]))
        have hD : (y == x) = true := by simpa using hyx
        go_wp2_with fail
        (with_reducible refine (c_isDefined1 (r := r) (y := y) (x := x) HR1.out HY.out hgr).mono ?_); rw [hD]; rintro e w1 ⟨rfl, hE1⟩; have hz1 := sz_of hE1; (try simp only [World.size_alloc, World.size_setCell, World.size_drew] at hz1); obtain ⟨hc1, hf1⟩ := bcell hE1; (try have hq1_0 : w.heap.size < w1.heap.size := by omega); (try have hq1_1 : w.heap.size + 1 < w1.heap.size := by omega); (try have hq1_2 : w.heap.size + 1 + 1 < w1.heap.size := by omega); (try have hq1_3 : w.heap.size + 1 + 1 + 1 < w1.heap.size := by omega); (try have hq1_4 : w.heap.size + 1 + 1 + 1 + 1 < w1.heap.size := by omega); (try have hq1_5 : w.heap.size + 1 + 1 + 1 + 1 + 1 < w1.heap.size := by omega)
        go_wp2
        go_ret
        exact ⟨⟨_, rfl, Lib.hid (by rw [HR.out]; simp)⟩, by exact extX⟩
      · have HR := Lib.hid (show ∀ (j : Nat) (r : Ru), j < k + 1 → s.rs[j]? = some r → ¬ r.l[0]? = some x from fun j q hj e => by
          rcases Nat.lt_or_ge j k with h | h
          · exact hp.out j q h e
          · obtain rfl : j = k := by omega
            rw [HX.out] at e; cases e
            rw [HY.out]; intro e2; cases e2; exact hyx rfl)
        have hD : (y == x) = false := by simpa using hyx
        go_wp2_with fail
        (with_reducible refine (c_isDefined1 (r := r) (y := y) (x := x) HR1.out HY.out hgr).mono ?_); rw [hD]; rintro e w1 ⟨rfl, hE1⟩; have hz1 := sz_of hE1; (try simp only [World.size_alloc, World.size_setCell, World.size_drew] at hz1); obtain ⟨hc1, hf1⟩ := bcell hE1; (try have hq1_0 : w.heap.size < w1.heap.size := by omega); (try have hq1_1 : w.heap.size + 1 < w1.heap.size := by omega); (try have hq1_2 : w.heap.size + 1 + 1 < w1.heap.size := by omega); (try have hq1_3 : w.heap.size + 1 + 1 + 1 < w1.heap.size := by omega); (try have hq1_4 : w.heap.size + 1 + 1 + 1 + 1 < w1.heap.size := by omega); (try have hq1_5 : w.heap.size + 1 + 1 + 1 + 1 + 1 < w1.heap.size := by omega)
        go_wp2
        go_roundw
        case rel => exact ⟨k + 1, by go_num, by omega, HR, by exact extX⟩
        case measure => simp only [intOf]; omega
    · go_wp2
      go_ret
      exact ⟨⟨_, rfl, Lib.hid (by rw [dfd_f fun j r hj e => hp.out j r (by rw [HL.out] at hj; omega) e]; simp)⟩, by exact extX⟩
set_option maxHeartbeats 400000 in
theorem c_containsR {A : Option Addr} {n c g : Nat} {s : Sy} {x : Int} {w : World} (h0 : RR true w A n s.rs) (hs : SysP s) (hg : w.cell? ⟨g, 0, none⟩ = some (.int .i64 x)) :
    Calls Try.prog 102 #[.slice A n c, .func (.func 103) #[] #[.pointer (some ⟨g, 0, none⟩)]] w fun e w' => e = .returned (.bool (dfd s x)) ∧ Ext w w' := by
  have HA := Lib.hid h0
  have HS := Lib.hid hs
  clear h0 hs
  go_enter Try.func102, Try.ntmps102
  go_wp2_with (go_at_call 110; (with_reducible refine (c_indexR (s := s) (x := x) HA.out HS.out hg).mono ?_); rintro e w1 ⟨⟨y, rfl, hy⟩, hE1⟩; have hz1 := sz_of hE1; (try simp only [World.size_alloc, World.size_setCell, World.size_drew] at hz1); obtain ⟨hc1, hf1⟩ := bcell hE1; (try have hq1_0 : w.heap.size < w1.heap.size := by omega); (try have hq1_1 : w.heap.size + 1 < w1.heap.size := by omega); (try have hq1_2 : w.heap.size + 1 + 1 < w1.heap.size := by omega); (try have hq1_3 : w.heap.size + 1 + 1 + 1 < w1.heap.size := by omega); (try have hq1_4 : w.heap.size + 1 + 1 + 1 + 1 < w1.heap.size := by omega); (try have hq1_5 : w.heap.size + 1 + 1 + 1 + 1 + 1 < w1.heap.size := by omega))
  go_ret
  exact ⟨ret_bool (by first | exact hy.out | (rw [← hy.out]; simp)), by exact extX⟩
set_option maxHeartbeats 1000000 in
theorem c_isDefined {v0 : Value} {s : Sy} {x : Int} {w : World} (h0 : RdSyC w v0 s) (hs : SysP s) :
    Calls Try.prog 83 #[v0, .int .i64 x] w fun e w' => e = .returned (.bool (dfd s x)) ∧ Ext w w' := by
  obtain ⟨A, n, c, B, m, d, rfl, ha, hb⟩ := h0
  have HB := Lib.hid hb
  have HS := Lib.hid hs
  clear ha hb hs
  go_enter Try.func83, Try.ntmps83
  go_wp2_with (go_at_call 102; (with_reducible refine (c_containsR (s := s) (x := x) (g := w.heap.size + 1) (RR.ext HB.out (by exact extX)) HS.out (by simp [go_sem])).mono ?_); rintro e w1 ⟨rfl, hE1⟩; have hz1 := sz_of hE1; (try simp only [World.size_alloc, World.size_setCell, World.size_drew] at hz1); obtain ⟨hc1, hf1⟩ := bcell hE1; (try have hq1_0 : w.heap.size < w1.heap.size := by omega); (try have hq1_1 : w.heap.size + 1 < w1.heap.size := by omega); (try have hq1_2 : w.heap.size + 1 + 1 < w1.heap.size := by omega); (try have hq1_3 : w.heap.size + 1 + 1 + 1 < w1.heap.size := by omega); (try have hq1_4 : w.heap.size + 1 + 1 + 1 + 1 < w1.heap.size := by omega); (try have hq1_5 : w.heap.size + 1 + 1 + 1 + 1 + 1 < w1.heap.size := by omega))
  go_ret
  exact ⟨rfl, by exact extX⟩
theorem c_isDefined' {v0 : Value} {s : Sy} {x : Int} {w : World} {b : Bool} (hb : dfd s x = b) (h0 : RdSyC w v0 s) (hs : SysP s) :
    Calls Try.prog 83 #[v0, .int .i64 x] w fun e w' => e = .returned (.bool b) ∧ Ext w w' :=
  (c_isDefined h0 hs).mono fun _ _ ⟨he, hw⟩ => ⟨he.trans (ret_bool hb), hw⟩
set_option maxRecDepth 100000 in
set_option maxHeartbeats 2000000 in
theorem c_hasSub {v0 v1 v2 : Value} {ar t u : List Int} {w : World} (h0 : RdSig w v0 ar) (h1 : RdIc w v1 t) (h2 : RdI w v2 u) (ht : TermP ar t) :
    Calls Try.prog 85 #[v0, v1, .int .i64 1, v2] w fun e w' => e = .returned (.bool (has ar t u)) ∧ Ext w w' := by
  obtain ⟨A, n, c, rfl, ha⟩ := h0
  obtain ⟨B, m, d, rfl, hcap, hb⟩ := h1
  obtain ⟨D, q, l, rfl, hd⟩ := h2
  have hm := hb.le
  have hml := hb.len
  have HA := Lib.hid ha
  have HB := Lib.hid hb
  have HD := Lib.hid hd
  have HCP := Lib.hid hcap
  have HML := Lib.hid hml
  have HT := Lib.hid ht
  have hm1 : 1 ≤ m := by rw [← hml]; exact ht.2.1.1
  have HSG := Lib.hid (show SigP ar from ht.1)
  clear ha hb hd hcap hml ht
  go_enter Try.func85, Try.ntmps85
  go_wp2_with fail
  obtain ⟨wo, hwo⟩ : ∃ wo, wo = w.alloc (.cells #[.slice A n c] 31) := ⟨_, rfl⟩
  have hw0 : wo.cell? ⟨w.heap.size, 0, none⟩ = some (.slice A n c) := by rw [hwo]; simp [go_sem]
  have hEo : Ext w wo := by rw [hwo]; exact extX
  rw [← hwo]
  clear hwo
  go_loopw [9] (fun i wr => ∃ k : Nat, i = .int .i64 k ∧ 1 ≤ k ∧ k ≤ m ∧ Hid (∀ p, 1 ≤ p → p < k → ¬ (subT ar t p).flat = u) ∧ Ext wo wr) (fun i _ => m - (intOf i).toNat)
  case atStart => exact ⟨1, rfl, Nat.le_refl _, hm1, Lib.hid fun p h1 h2 => by omega, Ext.refl _⟩
  case round =>
    obtain ⟨k, rfl, hk1, hk, hp, hE⟩ := hrel
    have hEw : Ext w wr := Ext.trans hEo hE
    have hr0 := Ext.keep hE hw0
    by_cases hlt : k < m
    · obtain ⟨hok, rest, hdr⟩ := subT_ok HT.out (show k < t.length by rw [HML.out]; exact hlt)
      have HOK := Lib.hid hok
      have HDR := Lib.hid hdr
      clear hok hdr
      have hki : (k : Int) < (m : Int) := by omega
      have hk0 : (0 : Int) ≤ (k : Int) := by omega
      by_cases he : (subT ar t k).flat = u
      · have HR := Lib.hid (has_t hk1 (by rw [HML.out]; exact hlt) he)
        have HEQ := Lib.hid (show ((subT ar t k).flat == u) = true by simpa using he)
        clear he
        go_wp2_with fail
        (with_reducible refine (c_subAt (u := subT ar t k) (p := k) (RdSig.mk (RI.ext HA.out hEw)) (RdIc.mk HCP.out (RI.ext HB.out hEw)) HSG.out HOK.out HDR.out).mono ?_)
        rintro e2 w2 ⟨A2, n2, c2, rfl, hcap2, hr2, hE2⟩
        have HR2 := Lib.hid hr2
        have hEw2 := Ext.trans hEw hE2
        clear hr2
        go_wp2_with fail
        (with_reducible refine (c_slicesEqual (xs := (subT ar t k).flat) (ys := u) (RdI.mk HR2.out) (RdI.mk (RI.ext HD.out hEw2))).mono ?_); rw [HEQ.out]; rintro e3 w3 ⟨rfl, hE3⟩
        go_wp2
        go_ret
        exact ⟨ret_bool HR.out.symm, by exact extX⟩
      · have HR := Lib.hid (show ∀ p, 1 ≤ p → p < k + 1 → ¬ (subT ar t p).flat = u from fun p h1 h2 => by
          rcases Nat.lt_or_ge p k with h | h
          · exact hp.out p h1 h
          · obtain rfl : p = k := by omega
            exact he)
        have HEQ := Lib.hid (show ((subT ar t k).flat == u) = false by simpa using he)
        clear he
        go_wp2_with fail
        (with_reducible refine (c_subAt (u := subT ar t k) (p := k) (RdSig.mk (RI.ext HA.out hEw)) (RdIc.mk HCP.out (RI.ext HB.out hEw)) HSG.out HOK.out HDR.out).mono ?_)
        rintro e2 w2 ⟨A2, n2, c2, rfl, hcap2, hr2, hE2⟩
        have HR2 := Lib.hid hr2
        have hEw2 := Ext.trans hEw hE2
        clear hr2
        go_wp2_with fail
        (with_reducible refine (c_slicesEqual (xs := (subT ar t k).flat) (ys := u) (RdI.mk HR2.out) (RdI.mk (RI.ext HD.out hEw2))).mono ?_); rw [HEQ.out]; rintro e3 w3 ⟨rfl, hE3⟩
        go_wp2
        go_roundw
        case rel => exact ⟨k + 1, by go_num, by omega, by omega, HR, Ext.trans hE (Ext.trans hE2 hE3)⟩
        case measure => simp only [intOf]; omega
    · have HR := Lib.hid (has_f (ar := ar) (t := t) (u := u) fun p h1 h2 => hp.out p h1 (by rw [HML.out] at h2; omega))
      go_wp2
      go_ret
      exact ⟨ret_bool HR.out.symm, by exact extX⟩
/-- A pair, or none. -/
def NewDo (w : World) (o : Option DepP) (e : Ending) (w' : World) : Prop := ∃ (A : Option Addr) (n c : Nat) (B : Option Addr) (m d : Nat) (k a : Int), e = .returned (.tuple #[.agg #[.slice A n c, .slice B m d, .int .i64 k, .int .i64 a], .bool o.isSome]) ∧ (∀ q, o = some q → k = q.rule ∧ a = q.at_ ∧ RI w' A n q.l ∧ RI w' B m q.r) ∧ Ext w w'
theorem same_e {p q : DepP} {b1 b2 b3 b4 : Bool} (e1 : (p.l == q.l) = b1) (e2 : (p.r == q.r) = b2) (e3 : (p.rule == q.rule) = b3) (e4 : (p.at_ == q.at_) = b4) : p.same q = (b1 && b2 && b3 && b4) := by
  rw [DepP.same, e1, e2, e3, e4]
set_option maxHeartbeats 1000000 in
theorem c_iSameDep {v v' : Value} {p q : DepP} {w : World} (h0 : RdDq w v p) (h1 : RdDq w v' q) :
    Calls Try.prog 21 #[v, v'] w fun e w' => e = .returned (.bool (p.same q)) ∧ Ext w w' := by
  obtain ⟨A, n, c, B, m, d, rfl, ha, hb⟩ := h0
  obtain ⟨A', n', c', B', m', d', rfl, ha', hb'⟩ := h1
  have HA := Lib.hid ha
  have HB := Lib.hid hb
  have HA' := Lib.hid ha'
  have HB' := Lib.hid hb'
  clear ha hb ha' hb'
  cases e1 : (p.l == q.l) with
  | false =>
    have HR := Lib.hid (show p.same q = false by rw [DepP.same, e1]; rfl)
    have E1 := Lib.hid e1
    go_enter Try.func21, Try.ntmps21
    go_wp2_with (go_at_call 47; (with_reducible refine (c_slicesEqual (xs := p.l) (ys := q.l) (RdI.mk (RI.ext HA.out (by exact extX))) (RdI.mk (RI.ext HA'.out (by exact extX)))).mono ?_); rw [E1.out]; rintro e w1 ⟨rfl, hE1⟩; have hz1 := sz_of hE1; (try simp only [World.size_alloc, World.size_setCell, World.size_drew] at hz1); obtain ⟨hc1, hf1⟩ := bcell hE1; (try have hq1_0 : w.heap.size < w1.heap.size := by omega); (try have hq1_1 : w.heap.size + 1 < w1.heap.size := by omega); (try have hq1_2 : w.heap.size + 1 + 1 < w1.heap.size := by omega); (try have hq1_3 : w.heap.size + 1 + 1 + 1 < w1.heap.size := by omega); (try have hq1_4 : w.heap.size + 1 + 1 + 1 + 1 < w1.heap.size := by omega); (try have hq1_5 : w.heap.size + 1 + 1 + 1 + 1 + 1 < w1.heap.size := by omega))
    go_ret
    exact ⟨ret_bool HR.out.symm, by exact extX⟩
  | true =>
    cases e2 : (p.r == q.r) with
    | false =>
      have HR := Lib.hid (show p.same q = false by rw [DepP.same, e1, e2]; rfl)
      have E1 := Lib.hid e1
      have E2 := Lib.hid e2
      go_enter Try.func21, Try.ntmps21
      go_wp2_with fail
      (with_reducible refine (c_slicesEqual (xs := p.l) (ys := q.l) (RdI.mk (RI.ext HA.out (by exact extX))) (RdI.mk (RI.ext HA'.out (by exact extX)))).mono ?_); rw [E1.out]; rintro e w1 ⟨rfl, hE1⟩; have hz1 := sz_of hE1; (try simp only [World.size_alloc, World.size_setCell, World.size_drew] at hz1); obtain ⟨hc1, hf1⟩ := bcell hE1; (try have hq1_0 : w.heap.size < w1.heap.size := by omega); (try have hq1_1 : w.heap.size + 1 < w1.heap.size := by omega); (try have hq1_2 : w.heap.size + 1 + 1 < w1.heap.size := by omega); (try have hq1_3 : w.heap.size + 1 + 1 + 1 < w1.heap.size := by omega); (try have hq1_4 : w.heap.size + 1 + 1 + 1 + 1 < w1.heap.size := by omega); (try have hq1_5 : w.heap.size + 1 + 1 + 1 + 1 + 1 < w1.heap.size := by omega)
      go_wp2_with fail
      (with_reducible refine (c_slicesEqual (xs := p.r) (ys := q.r) (RdI.mk (RI.ext HB.out (by exact extX))) (RdI.mk (RI.ext HB'.out (by exact extX)))).mono ?_); rw [E2.out]; rintro e w2 ⟨rfl, hE2⟩; have hz2 := sz_of hE2; (try simp only [World.size_alloc, World.size_setCell, World.size_drew] at hz2); obtain ⟨hc2, hf2⟩ := bcell hE2; (try have hq2_0 : w.heap.size < w2.heap.size := by omega); (try have hq2_1 : w.heap.size + 1 < w2.heap.size := by omega); (try have hq2_2 : w.heap.size + 1 + 1 < w2.heap.size := by omega); (try have hq2_3 : w.heap.size + 1 + 1 + 1 < w2.heap.size := by omega); (try have hq2_4 : w.heap.size + 1 + 1 + 1 + 1 < w2.heap.size := by omega); (try have hq2_5 : w.heap.size + 1 + 1 + 1 + 1 + 1 < w2.heap.size := by omega); (try have hx2_1 : w1.heap.size < w2.heap.size := by omega)
      go_wp2
      go_ret
      exact ⟨ret_bool HR.out.symm, by exact extX⟩
    | true =>
      have HR := Lib.hid (show p.same q = (p.rule == q.rule && p.at_ == q.at_) by rw [DepP.same, e1, e2]; rfl)
      have E1 := Lib.hid e1
      have E2 := Lib.hid e2
      cases e3 : (p.rule == q.rule) with
      | false =>
        go_enter Try.func21, Try.ntmps21
        go_wp2_with fail
        (with_reducible refine (c_slicesEqual (xs := p.l) (ys := q.l) (RdI.mk (RI.ext HA.out (by exact extX))) (RdI.mk (RI.ext HA'.out (by exact extX)))).mono ?_); rw [E1.out]; rintro e w1 ⟨rfl, hE1⟩; have hz1 := sz_of hE1; (try simp only [World.size_alloc, World.size_setCell, World.size_drew] at hz1); obtain ⟨hc1, hf1⟩ := bcell hE1; (try have hq1_0 : w.heap.size < w1.heap.size := by omega); (try have hq1_1 : w.heap.size + 1 < w1.heap.size := by omega); (try have hq1_2 : w.heap.size + 1 + 1 < w1.heap.size := by omega); (try have hq1_3 : w.heap.size + 1 + 1 + 1 < w1.heap.size := by omega); (try have hq1_4 : w.heap.size + 1 + 1 + 1 + 1 < w1.heap.size := by omega); (try have hq1_5 : w.heap.size + 1 + 1 + 1 + 1 + 1 < w1.heap.size := by omega)
        go_wp2_with fail
        (with_reducible refine (c_slicesEqual (xs := p.r) (ys := q.r) (RdI.mk (RI.ext HB.out (by exact extX))) (RdI.mk (RI.ext HB'.out (by exact extX)))).mono ?_); rw [E2.out]; rintro e w2 ⟨rfl, hE2⟩; have hz2 := sz_of hE2; (try simp only [World.size_alloc, World.size_setCell, World.size_drew] at hz2); obtain ⟨hc2, hf2⟩ := bcell hE2; (try have hq2_0 : w.heap.size < w2.heap.size := by omega); (try have hq2_1 : w.heap.size + 1 < w2.heap.size := by omega); (try have hq2_2 : w.heap.size + 1 + 1 < w2.heap.size := by omega); (try have hq2_3 : w.heap.size + 1 + 1 + 1 < w2.heap.size := by omega); (try have hq2_4 : w.heap.size + 1 + 1 + 1 + 1 < w2.heap.size := by omega); (try have hq2_5 : w.heap.size + 1 + 1 + 1 + 1 + 1 < w2.heap.size := by omega); (try have hx2_1 : w1.heap.size < w2.heap.size := by omega)
        go_wp2
        go_ret
        exact ⟨ret_bool (by rw [HR.out, e3]; rfl), by exact extX⟩
      | true =>
        go_enter Try.func21, Try.ntmps21
        go_wp2_with fail
        (with_reducible refine (c_slicesEqual (xs := p.l) (ys := q.l) (RdI.mk (RI.ext HA.out (by exact extX))) (RdI.mk (RI.ext HA'.out (by exact extX)))).mono ?_); rw [E1.out]; rintro e w1 ⟨rfl, hE1⟩; have hz1 := sz_of hE1; (try simp only [World.size_alloc, World.size_setCell, World.size_drew] at hz1); obtain ⟨hc1, hf1⟩ := bcell hE1; (try have hq1_0 : w.heap.size < w1.heap.size := by omega); (try have hq1_1 : w.heap.size + 1 < w1.heap.size := by omega); (try have hq1_2 : w.heap.size + 1 + 1 < w1.heap.size := by omega); (try have hq1_3 : w.heap.size + 1 + 1 + 1 < w1.heap.size := by omega); (try have hq1_4 : w.heap.size + 1 + 1 + 1 + 1 < w1.heap.size := by omega); (try have hq1_5 : w.heap.size + 1 + 1 + 1 + 1 + 1 < w1.heap.size := by omega)
        go_wp2_with fail
        (with_reducible refine (c_slicesEqual (xs := p.r) (ys := q.r) (RdI.mk (RI.ext HB.out (by exact extX))) (RdI.mk (RI.ext HB'.out (by exact extX)))).mono ?_); rw [E2.out]; rintro e w2 ⟨rfl, hE2⟩; have hz2 := sz_of hE2; (try simp only [World.size_alloc, World.size_setCell, World.size_drew] at hz2); obtain ⟨hc2, hf2⟩ := bcell hE2; (try have hq2_0 : w.heap.size < w2.heap.size := by omega); (try have hq2_1 : w.heap.size + 1 < w2.heap.size := by omega); (try have hq2_2 : w.heap.size + 1 + 1 < w2.heap.size := by omega); (try have hq2_3 : w.heap.size + 1 + 1 + 1 < w2.heap.size := by omega); (try have hq2_4 : w.heap.size + 1 + 1 + 1 + 1 < w2.heap.size := by omega); (try have hq2_5 : w.heap.size + 1 + 1 + 1 + 1 + 1 < w2.heap.size := by omega); (try have hx2_1 : w1.heap.size < w2.heap.size := by omega)
        go_wp2
        go_ret
        exact ⟨ret_bool (by rw [HR.out, e3]; rfl), by exact extX⟩
set_option maxRecDepth 100000 in
set_option maxHeartbeats 4000000 in
theorem c_pairAt {v0 : Value} {s : Sy} {k a : Nat} {r : Ru} {x : Int} {w : World} (h0 : RdSyC w v0 s) (hs : SysP s) (hr : s.rs[k]? = some r) (hx : r.r[a]? = some x) :
    Calls Try.prog 66 #[v0, .int .i64 (k : Int), .int .i64 (a : Int)] w (NewDo w (depOf s r k a x)) := by
  obtain ⟨A, n, c, B, m, d, rfl, ha, hb⟩ := h0
  have hkm : k < m := by have := (List.getElem?_eq_some_iff.1 hr).1; rw [hb.len] at this; exact this
  obtain ⟨b, o, r', A1, m1, c1, A2, m2, c2, rfl, hx', hd1, hd2, hr1, hr2, hcap1, hcap2⟩ := RR.at_ hb hkm
  rw [hr] at hx'; cases hx'
  have hrp := hs.2.2 k r hr
  have ham : a < m2 := by have := (List.getElem?_eq_some_iff.1 hx).1; rw [hr2.len] at this; exact this
  obtain ⟨b2, o2, x', rfl, hxx, hcx⟩ := RI.at_ hr2 ham
  rw [hx] at hxx; cases hxx
  obtain ⟨hok, rest, hdr⟩ := subT_ok hrp.2.1 (show a < r.r.length from (List.getElem?_eq_some_iff.1 hx).1)
  have HA := Lib.hid ha
  have HB := Lib.hid hb
  have HS := Lib.hid hs
  have HSG := Lib.hid (show SigP s.ar from hs.1)
  have HR1 := Lib.hid hr1
  have HR2 := Lib.hid hr2
  have HC1 := Lib.hid (hcap1 rfl)
  have HC2 := Lib.hid (hcap2 rfl)
  have HTL := Lib.hid hrp.1
  have HOK := Lib.hid hok
  have HDR := Lib.hid hdr
  have hki : (k : Int) < (m : Int) := by omega
  have hk0 : (0 : Int) ≤ (k : Int) := by omega
  have hai : (a : Int) < (m2 : Int) := by omega
  have ha0 : (0 : Int) ≤ (a : Int) := by omega
  have hbl : b < w.heap.size := World.block_lt_of_cell? w _ hd1
  have hbl2 : b2 < w.heap.size := World.block_lt_of_cell? w _ hcx
  clear ha hb hs hr1 hr2 hcap1 hcap2 hrp hok hdr
  go_enter Try.func66, Try.ntmps66
  go_wp2_with fail
  obtain ⟨w1, hw1⟩ : ∃ w1, w1 = ((w.alloc (.cells #[.slice A n c, .slice (some ⟨b, o, none⟩) m d] 34)).alloc (.cells #[.slice none 0 0, .slice none 0 0, .int .i64 0, .int .i64 0] 51)).alloc (.cells #[.slice A1 m1 c1, .slice (some ⟨b2, o2, none⟩) m2 c2] 75) := ⟨_, rfl⟩
  have hs0 : w1.cell? ⟨w.heap.size, 0, none⟩ = some (.slice A n c) := by rw [hw1]; simp [go_sem]
  have hs1 : w1.cell? ⟨w.heap.size, 1, none⟩ = some (.slice (some ⟨b, o, none⟩) m d) := by rw [hw1]; simp [go_sem]
  have hp0 : w1.cell? ⟨w.heap.size + 1, 0, none⟩ = some (.slice none 0 0) := by rw [hw1]; simp [go_sem]
  have hp1 : w1.cell? ⟨w.heap.size + 1, 1, none⟩ = some (.slice none 0 0) := by rw [hw1]; simp [go_sem]
  have hp2 : w1.cell? ⟨w.heap.size + 1, 2, none⟩ = some (.int .i64 0) := by rw [hw1]; simp [go_sem]
  have hp3 : w1.cell? ⟨w.heap.size + 1, 3, none⟩ = some (.int .i64 0) := by rw [hw1]; simp [go_sem]
  have hpf : ∀ j, w1.frozen? ⟨w.heap.size + 1, j, none⟩ = false := by intro j; rw [hw1]; simp [go_sem]
  have hq0 : w1.cell? ⟨w.heap.size + 1 + 1, 0, none⟩ = some (.slice A1 m1 c1) := by rw [hw1]; simp [go_sem]
  have hq1 : w1.cell? ⟨w.heap.size + 1 + 1, 1, none⟩ = some (.slice (some ⟨b2, o2, none⟩) m2 c2) := by rw [hw1]; simp [go_sem]
  have hE1 : Ext w w1 := by rw [hw1]; exact extX
  rw [← hw1]
  clear hw1
  have hcx1 := Ext.keep hE1 hcx
  by_cases hx0 : x < 0
  · have HR := Lib.hid (show depOf s r k a x = none by unfold depOf; rw [if_pos hx0])
    go_quiet (fail)
    go_wp2
    refine bodyPost_ret (v := .tuple #[.agg #[.slice none 0 0, .slice none 0 0, .int .i64 0, .int .i64 0], .bool false]) (by simp [results, Try.results66, go_sem, hp0, hp1, hp2, hp3, hpf]) rfl ?_
    rw [HR.out]
    exact ⟨none, 0, 0, none, 0, 0, 0, 0, rfl, (fun q e => by cases e), by exact extX⟩
  · have hd0 : decide (x < 0) = false := by simpa using hx0
    cases hdf : dfd s x with
    | false =>
      have HR := Lib.hid (show depOf s r k a x = none by unfold depOf; rw [if_neg hx0, if_pos hdf])
      have HD := Lib.hid hdf
      clear hdf
      refine wp_region_held_drew (S := (fun w' => w'.cell? ⟨w.heap.size, 0, none⟩ = some (.slice A n c) ∧ w'.cell? ⟨w.heap.size, 1, none⟩ = some (.slice (some ⟨b, o, none⟩) m d) ∧ w'.cell? ⟨w.heap.size + 1 + 1, 1, none⟩ = some (.slice (some ⟨b2, o2, none⟩) m2 c2) ∧ w'.cell? ⟨b2, o2 + a, none⟩ = some (.int .i64 x) ∧ Ext w1 w')) (by kernel_rfl) ?_ (fun hH => ?_)
      · exact ⟨hs0, hs1, hq1, hcx1, (Ext.refl w1).drew⟩
      refine wpAnyH_take_dst (i := 0) (v := .pointer (some ⟨w.heap.size + 1 + 1, 1, none⟩)) (d := some 15) rfl rfl (by kernel_rfl) (by kernel_rfl) (by kernel_rfl) (fun _ _ _ h => h) (Or.inl ⟨by rfl, ?_⟩) hH ?_
      · (intro w hSw; (try dsimp only at hSw); go_split_ands; go_simp; try with_reducible rfl)
      try simp only [Act.put, List.setIfInBounds_toArray, List.set_cons_zero, List.set_cons_succ]
      refine wpAnyH_take_dst (i := 1) (v := .slice (some ⟨b2, o2, none⟩) m2 c2) (d := some 16) rfl rfl (by kernel_rfl) (by kernel_rfl) (by kernel_rfl) (fun _ _ _ h => h) (Or.inl ⟨by rfl, ?_⟩) hH ?_
      · (intro w hSw; (try dsimp only at hSw); go_split_ands; go_simp; try with_reducible rfl)
      try simp only [Act.put, List.setIfInBounds_toArray, List.set_cons_zero, List.set_cons_succ]
      refine wpAnyH_take_dst (i := 2) (v := .int .i64 (a : Int)) (d := some 17) rfl rfl (by kernel_rfl) (by kernel_rfl) (by kernel_rfl) (fun _ _ _ h => h) (Or.inl ⟨by rfl, ?_⟩) hH ?_
      · (intro w hSw; (try dsimp only at hSw); go_split_ands; go_simp; try with_reducible rfl)
      try simp only [Act.put, List.setIfInBounds_toArray, List.set_cons_zero, List.set_cons_succ]
      refine wpAnyH_take_dst (i := 3) (v := .pointer (some ⟨b2, o2 + a, none⟩)) (d := some 18) rfl rfl (by kernel_rfl) (by kernel_rfl) (by kernel_rfl) (fun _ _ _ h => h) (Or.inl ⟨by rfl, ?_⟩) hH ?_
      · (intro w hSw; (try dsimp only at hSw); go_split_ands; go_simp; try with_reducible rfl)
      try simp only [Act.put, List.setIfInBounds_toArray, List.set_cons_zero, List.set_cons_succ]
      refine wpAnyH_take_dst (i := 4) (v := .int .i64 x) (d := some 19) rfl rfl (by kernel_rfl) (by kernel_rfl) (by kernel_rfl) (fun _ _ _ h => h) (Or.inl ⟨by rfl, ?_⟩) hH ?_
      · (intro w hSw; (try dsimp only at hSw); go_split_ands; go_simp; try with_reducible rfl)
      try simp only [Act.put, List.setIfInBounds_toArray, List.set_cons_zero, List.set_cons_succ]
      refine wpAnyH_take_dst (i := 5) (v := .bool false) (d := some 20) rfl rfl (by kernel_rfl) (by kernel_rfl) (by kernel_rfl) (fun _ _ _ h => h) (Or.inl ⟨by rfl, ?_⟩) hH ?_
      · (intro w hSw; (try dsimp only at hSw); go_split_ands; go_simp; try with_reducible rfl)
      try simp only [Act.put, List.setIfInBounds_toArray, List.set_cons_zero, List.set_cons_succ]
      refine wpAnyH_take_dst (i := 6) (v := .bool false) (d := some 21) rfl rfl (by kernel_rfl) (by kernel_rfl) (by kernel_rfl) (fun _ _ _ h => h) (Or.inl ⟨by rfl, ?_⟩) hH ?_
      · (intro w hSw; (try dsimp only at hSw); go_split_ands; go_simp; try with_reducible rfl)
      try simp only [Act.put, List.setIfInBounds_toArray, List.set_cons_zero, List.set_cons_succ]
      refine wpAnyH_take_dst (i := 7) (v := .agg #[.slice A n c, .slice (some ⟨b, o, none⟩) m d]) (d := some 22) rfl rfl (by kernel_rfl) (by kernel_rfl) (by kernel_rfl) (fun _ _ _ h => h) (Or.inl ⟨by rfl, ?_⟩) hH ?_
      · (intro w hSw; (try dsimp only at hSw); go_split_ands; go_simp; try with_reducible rfl)
      try simp only [Act.put, List.setIfInBounds_toArray, List.set_cons_zero, List.set_cons_succ]
      refine wpAnyH_take_dst (i := 8) (v := .pointer (some ⟨w.heap.size + 1 + 1, 1, none⟩)) (d := some 23) rfl rfl (by kernel_rfl) (by kernel_rfl) (by kernel_rfl) (fun _ _ _ h => h) (Or.inl ⟨by rfl, ?_⟩) hH ?_
      · (intro w hSw; (try dsimp only at hSw); go_split_ands; go_simp; try with_reducible rfl)
      try simp only [Act.put, List.setIfInBounds_toArray, List.set_cons_zero, List.set_cons_succ]
      refine wpAnyH_take_dst (i := 9) (v := .slice (some ⟨b2, o2, none⟩) m2 c2) (d := some 24) rfl rfl (by kernel_rfl) (by kernel_rfl) (by kernel_rfl) (fun _ _ _ h => h) (Or.inl ⟨by rfl, ?_⟩) hH ?_
      · (intro w hSw; (try dsimp only at hSw); go_split_ands; go_simp; try with_reducible rfl)
      try simp only [Act.put, List.setIfInBounds_toArray, List.set_cons_zero, List.set_cons_succ]
      refine wpAnyH_take_dst (i := 10) (v := .int .i64 (a : Int)) (d := some 25) rfl rfl (by kernel_rfl) (by kernel_rfl) (by kernel_rfl) (fun _ _ _ h => h) (Or.inl ⟨by rfl, ?_⟩) hH ?_
      · (intro w hSw; (try dsimp only at hSw); go_split_ands; go_simp; try with_reducible rfl)
      try simp only [Act.put, List.setIfInBounds_toArray, List.set_cons_zero, List.set_cons_succ]
      refine wpAnyH_take_dst (i := 11) (v := .pointer (some ⟨b2, o2 + a, none⟩)) (d := some 26) rfl rfl (by kernel_rfl) (by kernel_rfl) (by kernel_rfl) (fun _ _ _ h => h) (Or.inl ⟨by rfl, ?_⟩) hH ?_
      · (intro w hSw; (try dsimp only at hSw); go_split_ands; go_simp; try with_reducible rfl)
      try simp only [Act.put, List.setIfInBounds_toArray, List.set_cons_zero, List.set_cons_succ]
      refine wpAnyH_take_dst (i := 12) (v := .int .i64 x) (d := some 27) rfl rfl (by kernel_rfl) (by kernel_rfl) (by kernel_rfl) (fun _ _ _ h => h) (Or.inl ⟨by rfl, ?_⟩) hH ?_
      · (intro w hSw; (try dsimp only at hSw); go_split_ands; go_simp; try with_reducible rfl)
      try simp only [Act.put, List.setIfInBounds_toArray, List.set_cons_zero, List.set_cons_succ]
      refine wpAnyH_ready (rs := [13]) (by kernel_rfl) (by simp) ?_
      refine AllReadyH.cons rfl (fun K hK => ?_) AllReadyH.nil
      rw [if_pos (by rfl)]
      go_wp2_with (go_at_call 83; (with_reducible refine ((c_isDefined' HD.out (RdSyK.mk (RI.ext HA.out (Ext.trans hE1 hH.2.2.2.2)) (RR.ext HB.out (Ext.trans hE1 hH.2.2.2.2))) HS.out)).mono ?_); rintro e w9 ⟨rfl, hE9⟩)
      refine hK.out _ _ ⟨Ext.keep hE9 hH.1, Ext.keep hE9 hH.2.1, Ext.keep hE9 hH.2.2.1, Ext.keep hE9 hH.2.2.2.1, Ext.trans hH.2.2.2.2 hE9⟩ (fun hH9 => ?_)
      clear hK hH; have hH := hH9; clear hH9
      try simp only [Act.put, List.setIfInBounds_toArray, List.set_cons_zero, List.set_cons_succ]
      refine wpAnyH_take_dst (i := 14) (v := .bool true) (d := some 29) rfl rfl (by kernel_rfl) (by kernel_rfl) (by kernel_rfl) (fun _ _ _ h => h) (Or.inl ⟨by rfl, ?_⟩) hH ?_
      · (intro w hSw; (try dsimp only at hSw); go_split_ands; go_simp; try with_reducible rfl)
      try simp only [Act.put, List.setIfInBounds_toArray, List.set_cons_zero, List.set_cons_succ]
      refine wpAnyH_take_dst (i := 15) (v := .bool true) (d := some 30) rfl rfl (by kernel_rfl) (by kernel_rfl) (by kernel_rfl) (fun _ _ _ h => h) (Or.inl ⟨by rfl, ?_⟩) hH ?_
      · (intro w hSw; (try dsimp only at hSw); go_split_ands; go_simp; try with_reducible rfl)
      try simp only [Act.put, List.setIfInBounds_toArray, List.set_cons_zero, List.set_cons_succ]
      refine wpAnyH_done (by kernel_rfl) ?_ _
      have hE9 := hH.2.2.2.2
      obtain ⟨k0, k1, k2, k3, kf⟩ : w9.cell? ⟨w.heap.size + 1, 0, none⟩ = some (.slice none 0 0) ∧ w9.cell? ⟨w.heap.size + 1, 1, none⟩ = some (.slice none 0 0) ∧ w9.cell? ⟨w.heap.size + 1, 2, none⟩ = some (.int .i64 0) ∧ w9.cell? ⟨w.heap.size + 1, 3, none⟩ = some (.int .i64 0) ∧ ∀ j, w9.frozen? ⟨w.heap.size + 1, j, none⟩ = false :=
        ⟨Ext.keep hE9 hp0, Ext.keep hE9 hp1, Ext.keep hE9 hp2, Ext.keep hE9 hp3, fun j => (Below.frozen (p := ⟨w.heap.size + 1, j, none⟩) hE9 (by have := World.block_lt_of_cell? w1 _ hp0; exact this)).trans (hpf j)⟩
      have hEw9 : Ext w w9 := Ext.trans hE1 hE9
      clear hH
      go_wp2
      refine bodyPost_ret (v := .tuple #[.agg #[.slice none 0 0, .slice none 0 0, .int .i64 0, .int .i64 0], .bool false]) (by simp [results, Try.results66, go_sem, k0, k1, k2, k3, kf]) rfl ?_
      rw [HR.out]
      exact ⟨none, 0, 0, none, 0, 0, 0, 0, rfl, (fun q e => by cases e), by exact extX⟩
    | true =>
      have HD := Lib.hid hdf
      refine wp_region_held_drew (S := (fun w' => w'.cell? ⟨w.heap.size, 0, none⟩ = some (.slice A n c) ∧ w'.cell? ⟨w.heap.size, 1, none⟩ = some (.slice (some ⟨b, o, none⟩) m d) ∧ w'.cell? ⟨w.heap.size + 1 + 1, 1, none⟩ = some (.slice (some ⟨b2, o2, none⟩) m2 c2) ∧ w'.cell? ⟨b2, o2 + a, none⟩ = some (.int .i64 x) ∧ Ext w1 w')) (by kernel_rfl) ?_ (fun hH => ?_)
      · exact ⟨hs0, hs1, hq1, hcx1, (Ext.refl w1).drew⟩
      refine wpAnyH_take_dst (i := 0) (v := .pointer (some ⟨w.heap.size + 1 + 1, 1, none⟩)) (d := some 15) rfl rfl (by kernel_rfl) (by kernel_rfl) (by kernel_rfl) (fun _ _ _ h => h) (Or.inl ⟨by rfl, ?_⟩) hH ?_
      · (intro w hSw; (try dsimp only at hSw); go_split_ands; go_simp; try with_reducible rfl)
      try simp only [Act.put, List.setIfInBounds_toArray, List.set_cons_zero, List.set_cons_succ]
      refine wpAnyH_take_dst (i := 1) (v := .slice (some ⟨b2, o2, none⟩) m2 c2) (d := some 16) rfl rfl (by kernel_rfl) (by kernel_rfl) (by kernel_rfl) (fun _ _ _ h => h) (Or.inl ⟨by rfl, ?_⟩) hH ?_
      · (intro w hSw; (try dsimp only at hSw); go_split_ands; go_simp; try with_reducible rfl)
      try simp only [Act.put, List.setIfInBounds_toArray, List.set_cons_zero, List.set_cons_succ]
      refine wpAnyH_take_dst (i := 2) (v := .int .i64 (a : Int)) (d := some 17) rfl rfl (by kernel_rfl) (by kernel_rfl) (by kernel_rfl) (fun _ _ _ h => h) (Or.inl ⟨by rfl, ?_⟩) hH ?_
      · (intro w hSw; (try dsimp only at hSw); go_split_ands; go_simp; try with_reducible rfl)
      try simp only [Act.put, List.setIfInBounds_toArray, List.set_cons_zero, List.set_cons_succ]
      refine wpAnyH_take_dst (i := 3) (v := .pointer (some ⟨b2, o2 + a, none⟩)) (d := some 18) rfl rfl (by kernel_rfl) (by kernel_rfl) (by kernel_rfl) (fun _ _ _ h => h) (Or.inl ⟨by rfl, ?_⟩) hH ?_
      · (intro w hSw; (try dsimp only at hSw); go_split_ands; go_simp; try with_reducible rfl)
      try simp only [Act.put, List.setIfInBounds_toArray, List.set_cons_zero, List.set_cons_succ]
      refine wpAnyH_take_dst (i := 4) (v := .int .i64 x) (d := some 19) rfl rfl (by kernel_rfl) (by kernel_rfl) (by kernel_rfl) (fun _ _ _ h => h) (Or.inl ⟨by rfl, ?_⟩) hH ?_
      · (intro w hSw; (try dsimp only at hSw); go_split_ands; go_simp; try with_reducible rfl)
      try simp only [Act.put, List.setIfInBounds_toArray, List.set_cons_zero, List.set_cons_succ]
      refine wpAnyH_take_dst (i := 5) (v := .bool false) (d := some 20) rfl rfl (by kernel_rfl) (by kernel_rfl) (by kernel_rfl) (fun _ _ _ h => h) (Or.inl ⟨by rfl, ?_⟩) hH ?_
      · (intro w hSw; (try dsimp only at hSw); go_split_ands; go_simp; try with_reducible rfl)
      try simp only [Act.put, List.setIfInBounds_toArray, List.set_cons_zero, List.set_cons_succ]
      refine wpAnyH_take_dst (i := 6) (v := .bool false) (d := some 21) rfl rfl (by kernel_rfl) (by kernel_rfl) (by kernel_rfl) (fun _ _ _ h => h) (Or.inl ⟨by rfl, ?_⟩) hH ?_
      · (intro w hSw; (try dsimp only at hSw); go_split_ands; go_simp; try with_reducible rfl)
      try simp only [Act.put, List.setIfInBounds_toArray, List.set_cons_zero, List.set_cons_succ]
      refine wpAnyH_take_dst (i := 7) (v := .agg #[.slice A n c, .slice (some ⟨b, o, none⟩) m d]) (d := some 22) rfl rfl (by kernel_rfl) (by kernel_rfl) (by kernel_rfl) (fun _ _ _ h => h) (Or.inl ⟨by rfl, ?_⟩) hH ?_
      · (intro w hSw; (try dsimp only at hSw); go_split_ands; go_simp; try with_reducible rfl)
      try simp only [Act.put, List.setIfInBounds_toArray, List.set_cons_zero, List.set_cons_succ]
      refine wpAnyH_take_dst (i := 8) (v := .pointer (some ⟨w.heap.size + 1 + 1, 1, none⟩)) (d := some 23) rfl rfl (by kernel_rfl) (by kernel_rfl) (by kernel_rfl) (fun _ _ _ h => h) (Or.inl ⟨by rfl, ?_⟩) hH ?_
      · (intro w hSw; (try dsimp only at hSw); go_split_ands; go_simp; try with_reducible rfl)
      try simp only [Act.put, List.setIfInBounds_toArray, List.set_cons_zero, List.set_cons_succ]
      refine wpAnyH_take_dst (i := 9) (v := .slice (some ⟨b2, o2, none⟩) m2 c2) (d := some 24) rfl rfl (by kernel_rfl) (by kernel_rfl) (by kernel_rfl) (fun _ _ _ h => h) (Or.inl ⟨by rfl, ?_⟩) hH ?_
      · (intro w hSw; (try dsimp only at hSw); go_split_ands; go_simp; try with_reducible rfl)
      try simp only [Act.put, List.setIfInBounds_toArray, List.set_cons_zero, List.set_cons_succ]
      refine wpAnyH_take_dst (i := 10) (v := .int .i64 (a : Int)) (d := some 25) rfl rfl (by kernel_rfl) (by kernel_rfl) (by kernel_rfl) (fun _ _ _ h => h) (Or.inl ⟨by rfl, ?_⟩) hH ?_
      · (intro w hSw; (try dsimp only at hSw); go_split_ands; go_simp; try with_reducible rfl)
      try simp only [Act.put, List.setIfInBounds_toArray, List.set_cons_zero, List.set_cons_succ]
      refine wpAnyH_take_dst (i := 11) (v := .pointer (some ⟨b2, o2 + a, none⟩)) (d := some 26) rfl rfl (by kernel_rfl) (by kernel_rfl) (by kernel_rfl) (fun _ _ _ h => h) (Or.inl ⟨by rfl, ?_⟩) hH ?_
      · (intro w hSw; (try dsimp only at hSw); go_split_ands; go_simp; try with_reducible rfl)
      try simp only [Act.put, List.setIfInBounds_toArray, List.set_cons_zero, List.set_cons_succ]
      refine wpAnyH_take_dst (i := 12) (v := .int .i64 x) (d := some 27) rfl rfl (by kernel_rfl) (by kernel_rfl) (by kernel_rfl) (fun _ _ _ h => h) (Or.inl ⟨by rfl, ?_⟩) hH ?_
      · (intro w hSw; (try dsimp only at hSw); go_split_ands; go_simp; try with_reducible rfl)
      try simp only [Act.put, List.setIfInBounds_toArray, List.set_cons_zero, List.set_cons_succ]
      refine wpAnyH_ready (rs := [13]) (by kernel_rfl) (by simp) ?_
      refine AllReadyH.cons rfl (fun K hK => ?_) AllReadyH.nil
      rw [if_pos (by rfl)]
      go_wp2_with (go_at_call 83; (with_reducible refine ((c_isDefined' HD.out (RdSyK.mk (RI.ext HA.out (Ext.trans hE1 hH.2.2.2.2)) (RR.ext HB.out (Ext.trans hE1 hH.2.2.2.2))) HS.out)).mono ?_); rintro e w9 ⟨rfl, hE9⟩)
      refine hK.out _ _ ⟨Ext.keep hE9 hH.1, Ext.keep hE9 hH.2.1, Ext.keep hE9 hH.2.2.1, Ext.keep hE9 hH.2.2.2.1, Ext.trans hH.2.2.2.2 hE9⟩ (fun hH9 => ?_)
      clear hK hH; have hH := hH9; clear hH9
      try simp only [Act.put, List.setIfInBounds_toArray, List.set_cons_zero, List.set_cons_succ]
      refine wpAnyH_take_dst (i := 14) (v := .bool false) (d := some 29) rfl rfl (by kernel_rfl) (by kernel_rfl) (by kernel_rfl) (fun _ _ _ h => h) (Or.inl ⟨by rfl, ?_⟩) hH ?_
      · (intro w hSw; (try dsimp only at hSw); go_split_ands; go_simp; try with_reducible rfl)
      try simp only [Act.put, List.setIfInBounds_toArray, List.set_cons_zero, List.set_cons_succ]
      refine wpAnyH_take_dst (i := 15) (v := .bool false) (d := some 30) rfl rfl (by kernel_rfl) (by kernel_rfl) (by kernel_rfl) (fun _ _ _ h => h) (Or.inl ⟨by rfl, ?_⟩) hH ?_
      · (intro w hSw; (try dsimp only at hSw); go_split_ands; go_simp; try with_reducible rfl)
      try simp only [Act.put, List.setIfInBounds_toArray, List.set_cons_zero, List.set_cons_succ]
      refine wpAnyH_done (by kernel_rfl) ?_ _
      have hE9 := hH.2.2.2.2
      obtain ⟨k0, k1, k2, k3, kf⟩ : w9.cell? ⟨w.heap.size + 1, 0, none⟩ = some (.slice none 0 0) ∧ w9.cell? ⟨w.heap.size + 1, 1, none⟩ = some (.slice none 0 0) ∧ w9.cell? ⟨w.heap.size + 1, 2, none⟩ = some (.int .i64 0) ∧ w9.cell? ⟨w.heap.size + 1, 3, none⟩ = some (.int .i64 0) ∧ ∀ j, w9.frozen? ⟨w.heap.size + 1, j, none⟩ = false :=
        ⟨Ext.keep hE9 hp0, Ext.keep hE9 hp1, Ext.keep hE9 hp2, Ext.keep hE9 hp3, fun j => (Below.frozen (p := ⟨w.heap.size + 1, j, none⟩) hE9 (by have := World.block_lt_of_cell? w1 _ hp0; exact this)).trans (hpf j)⟩
      have m0 := hH.1
      have m1' := hH.2.2.1
      have m2' := Ext.keep hE9 hq0
      have hEw9 : Ext w w9 := Ext.trans hE1 hE9
      clear hH
      go_wp2_with fail
      (with_reducible refine (c_subAt (u := subT s.ar r.r a) (p := a) (RdSig.mk (RI.ext HA.out hEw9)) (RdIc.mk HC2.out (RI.ext HR2.out hEw9)) HSG.out HOK.out HDR.out).mono ?_)
      rintro e3 w3 ⟨A5, n5, c5, rfl, hcap5, hr5, hE3⟩
      have HR5 := Lib.hid hr5
      have j0 := Ext.keep hE3 m0
      have j1 := Ext.keep hE3 m2'
      have hEw3 := Ext.trans hEw9 hE3
      clear hr5 hcap5
      go_wp2_with fail
      (with_reducible refine (c_hasSub (u := (subT s.ar r.r a).flat) (RdSig.mk (RI.ext HA.out hEw3)) (RdIc.mk HC1.out (RI.ext HR1.out hEw3)) (RdI.mk HR5.out) HTL.out).mono ?_)
      cases hha : has s.ar r.l (subT s.ar r.r a).flat with
      | true =>
        have HR := Lib.hid (show depOf s r k a x = none by unfold depOf; rw [if_neg (by omega), if_neg (by rw [hdf]; simp), if_pos hha])
        rintro e4 w4 ⟨rfl, hE4⟩
        have hE94 := Ext.trans hE3 hE4
        obtain ⟨k0, k1, k2, k3, kf⟩ : w4.cell? ⟨w.heap.size + 1, 0, none⟩ = some (.slice none 0 0) ∧ w4.cell? ⟨w.heap.size + 1, 1, none⟩ = some (.slice none 0 0) ∧ w4.cell? ⟨w.heap.size + 1, 2, none⟩ = some (.int .i64 0) ∧ w4.cell? ⟨w.heap.size + 1, 3, none⟩ = some (.int .i64 0) ∧ ∀ j, w4.frozen? ⟨w.heap.size + 1, j, none⟩ = false :=
          ⟨Ext.keep hE94 k0, Ext.keep hE94 k1, Ext.keep hE94 k2, Ext.keep hE94 k3, fun j => (Below.frozen (p := ⟨w.heap.size + 1, j, none⟩) hE94 (by have := World.block_lt_of_cell? w9 _ k0; exact this)).trans (kf j)⟩
        have hEw4 := Ext.trans hEw3 hE4
        go_wp2
        refine bodyPost_ret (v := .tuple #[.agg #[.slice none 0 0, .slice none 0 0, .int .i64 0, .int .i64 0], .bool false]) (by simp [results, Try.results66, go_sem, k0, k1, k2, k3, kf]) rfl ?_
        rw [HR.out]
        exact ⟨none, 0, 0, none, 0, 0, 0, 0, rfl, (fun q e => by cases e), by exact extX⟩
      | false =>
        have HR := Lib.hid (show depOf s r k a x = some ⟨r.l, (subT s.ar r.r a).flat, k, a⟩ by unfold depOf; rw [if_neg (by omega), if_neg (by rw [hdf]; simp), if_neg (by rw [hha]; simp)])
        rintro e4 w4 ⟨rfl, hE4⟩
        have i1 := Ext.keep hE4 j1
        have hEw4 := Ext.trans hEw3 hE4
        go_wp2_with fail
        (with_reducible refine (c_clone (RI.ext HR1.out hEw4)).mono ?_)
        rintro e5 w5 ⟨A6, n6, c6, rfl, hO6, hE5⟩
        have HR6 := Lib.hid hO6.ri
        have hbd6 := hO6.bd
        have hEw5 := Ext.trans hEw4 hE5
        clear hO6
        go_wp2_with fail
        (with_reducible refine (c_clone (RI.ext HR5.out (Ext.trans hE4 hE5))).mono ?_)
        rintro e6 w6 ⟨A7, n7, c7, rfl, hO7, hE6⟩
        have HR7 := Lib.hid hO7.ri
        have hbd7 := hO7.bd
        have hEw6 := Ext.trans hEw5 hE6
        have hE96 := Ext.trans hE3 (Ext.trans hE4 (Ext.trans hE5 hE6))
        obtain ⟨k0, k1, k2, k3, kf⟩ : w6.cell? ⟨w.heap.size + 1, 0, none⟩ = some (.slice none 0 0) ∧ w6.cell? ⟨w.heap.size + 1, 1, none⟩ = some (.slice none 0 0) ∧ w6.cell? ⟨w.heap.size + 1, 2, none⟩ = some (.int .i64 0) ∧ w6.cell? ⟨w.heap.size + 1, 3, none⟩ = some (.int .i64 0) ∧ ∀ j, w6.frozen? ⟨w.heap.size + 1, j, none⟩ = false :=
          ⟨Ext.keep hE96 k0, Ext.keep hE96 k1, Ext.keep hE96 k2, Ext.keep hE96 k3, fun j => (Below.frozen (p := ⟨w.heap.size + 1, j, none⟩) hE96 (by have := World.block_lt_of_cell? w9 _ k0; exact this)).trans (kf j)⟩
        have hlt9 : w.heap.size + 1 < w9.heap.size := by
          have h1 := World.block_lt_of_cell? w1 _ hp0
          have h2 := hE9.size
          have h3 : w.heap.size + 1 < w1.heap.size := h1
          omega
        have hs49 : w9.heap.size ≤ w4.heap.size := (Ext.trans hE3 hE4).size
        have hs59 : w4.heap.size ≤ w5.heap.size := hE5.size
        clear hO7
        go_wp2_with fail
        refine bodyPost_ret (v := .tuple #[.agg #[.slice A6 n6 c6, .slice A7 n7 c7, .int .i64 (k : Int), .int .i64 (a : Int)], .bool true]) (by simp [results, Try.results66, go_sem, k0, k1, k2, k3, kf]) rfl ?_
        rw [HR.out]
        refine ⟨A6, n6, c6, A7, n7, c7, _, _, rfl, fun q e => ?_, by exact extX⟩
        cases e
        refine ⟨rfl, rfl, ?_, ?_⟩
        · exact RI.only (RI.ext HR6.out hE6) (Only.trans (Only.trans (Only.trans (Only.setCell _ (w.heap.size + 1) _ _) (Only.setCell _ _ _ _)) (Only.setCell _ _ _ _)) (Only.setCell _ _ _ _)) (fun b o s e _ => by have := (hbd6 b o s e).1; omega)
        · exact RI.only HR7.out (Only.trans (Only.trans (Only.trans (Only.setCell _ (w.heap.size + 1) _ _) (Only.setCell _ _ _ _)) (Only.setCell _ _ _ _)) (Only.setCell _ _ _ _)) (fun b o s e _ => by have := (hbd7 b o s e).1; omega)

end Go.Proofs.Ytempekmenkeigaa
