/- Pairs of rules, by the reference. -/
import Derived.Test.YtempekmenkeigaaDepT
import Derived.Test.YtempekmenkeigaaMgA
import Derived.Test.YtempekmenkeigaaSysOk
import Derived.Test.YtempekmenkeigaaParts
import Derived.Test.YtempekmenkeigaaHeld
import Derived.Test.YtempekmenkeigaaCopy
import Derived.StillTailTactics
-- rd: RdSyK RdDp RdDq
namespace Go.Proofs.Ytempekmenkeigaa
open Go.RowKit
set_option linter.unusedSimpArgs false
set_option linter.unusedVariables false

theorem RI.takeK {w : World} {A : Option Addr} {n k : Nat} {xs : List Int} (h : RI w A n xs) (hk : k ≤ n) : RI w A k (xs.take k) := by
  refine ⟨⟨by rw [List.length_take, h.len]; omega, by have := h.le; omega⟩, fun h0 => ?_⟩
  obtain ⟨b, o, hA, hc⟩ := h.2 (by omega)
  refine ⟨b, o, hA, fun j x hx => hc j x ?_⟩
  rw [List.getElem?_take] at hx
  split at hx
  · exact hx
  · cases hx
theorem RI.dropB {w : World} {b o n k : Nat} {xs : List Int} (h : RI w (some ⟨b, o, none⟩) n xs) (hk : k ≤ n) : RI w (some ⟨b, o + k, none⟩) (n - k) (xs.drop k) := by
  refine ⟨⟨by rw [List.length_drop, h.len], by have := h.le; omega⟩, fun h0 => ?_⟩
  obtain ⟨b', o', e, hc⟩ := h.2 (by omega)
  cases e
  refine ⟨b, o + k, rfl, fun j x hx => ?_⟩
  rw [List.getElem?_drop] at hx
  rw [Nat.add_assoc]; exact hc _ x hx
/-- A list with a number in it. -/
def InTo (xs ys : List Int) (x : Int) : Prop := ∀ y, y ∈ ys ↔ y ∈ xs ∨ y = x
theorem InTo.mid {xs : List Int} {x : Int} (k : Nat) : InTo xs ((xs.take k ++ [x]) ++ xs.drop k) x := by
  intro y
  have h : y ∈ xs ↔ y ∈ xs.take k ∨ y ∈ xs.drop k := by
    conv => lhs; rw [← List.take_append_drop k xs]
    exact List.mem_append
  simp only [List.mem_append, List.mem_singleton, h]
  constructor
  · rintro ((h1 | h1) | h1)
    · exact .inl (.inl h1)
    · exact .inr h1
    · exact .inl (.inr h1)
  · rintro ((h1 | h1) | h1)
    · exact .inl (.inl h1)
    · exact .inr h1
    · exact .inl (.inr h1)
theorem InTo.there {xs : List Int} {x : Int} (h : x ∈ xs) : InTo xs xs x := fun y => ⟨.inl, fun h1 => h1.elim id (fun e => e ▸ h)⟩
def NewTo (w : World) (xs : List Int) (x : Int) (e : Ending) (w' : World) : Prop := ∃ (A : Option Addr) (n c : Nat) (ys : List Int), e = .returned (.slice A n c) ∧ n ≤ xs.length + 1 ∧ (n ≤ c ∧ c ≤ 9223372036854775807) ∧ RI w' A n ys ∧ InTo xs ys x ∧ Ext w w'
set_option maxRecDepth 100000 in
set_option maxHeartbeats 4000000 in
theorem c_l1Into {A : Option Addr} {n c : Nat} {xs : List Int} {x : Int} {w : World} (h0 : RI w A n xs) (hc : n ≤ c ∧ c ≤ 9223372036854775807) (hn : n ≤ 1000) :
    Calls Try.prog 81 #[.slice A n c, .int .i64 x] w (NewTo w xs x) := by
  have hl := h0.len
  have HA := Lib.hid h0
  have HL := Lib.hid hl
  obtain ⟨i0, hii, hiz, his, hib⟩ := info_parts int64_info
  obtain ⟨hnc, hc63⟩ := hc
  clear h0 hl
  go_enter Try.func81, Try.ntmps81
  go_wp2
  go_loopw [5] (fun i wr => ∃ k : Nat, i = .int .i64 k ∧ k ≤ n ∧ Ext w wr) (fun i _ => n - (intOf i).toNat)
  case atStart => exact ⟨0, rfl, Nat.zero_le _, Ext.refl _⟩
  case round =>
    obtain ⟨k, rfl, hk, hE⟩ := hrel
    have hk0 : (0 : Int) ≤ (k : Int) := by omega
    have hkc : (k : Int) ≤ (c : Int) := by omega
    have hkn : (k : Int) ≤ (n : Int) := by omega
    by_cases hlt : k < n
    · obtain ⟨b, o, z, rfl, hz, hcz⟩ := RI.at_ (RI.ext HA.out hE) hlt
      have hki : (k : Int) < (n : Int) := by omega
      by_cases hzx : z < x
      · go_wp2
        go_roundw
        case rel => exact ⟨k + 1, by go_num, by omega, hE⟩
        case measure => simp only [intOf]; omega
      · by_cases hze : z = x
        · subst hze
          have HM := Lib.hid (InTo.there (List.mem_of_getElem? hz))
          go_wp2
          go_ret
          exact ⟨_, n, c, xs, rfl, by rw [HL.out]; omega, ⟨hnc, hc63⟩, RI.ext HA.out hE, HM.out, hE⟩
        · have hzb : (z == x) = false := by simpa using hze
          have HT := Lib.hid (RI.takeK (RI.ext HA.out hE) hk)
          have HD := Lib.hid (RI.dropB (RI.ext HA.out hE) hk)
          have hck : ¬ c = k := by omega
          go_wp2_with fail
          (with_reducible refine (c_l1Copy HT.out).mono ?_)
          rintro e2 w2 ⟨A2, n2, c2, rfl, hO2, hE2⟩
          have hn2 : n2 = k := by rw [← hO2.len, HT.out.len]
          subst hn2
          have HO2 := Lib.hid hO2
          have hsz2 := hE2.size
          clear hO2
          go_wp2_with (at_builtin; go_loud (refine wpList_append_lies _ rfl (.tmp 37) (.tmp 39) 22 rfl wr.heap.size 2 i0 (.int .i64 0) 1 8 Try.underlying22 hii hiz his hib rfl (by decide) _ _ _ rfl (OwI.alloc HO2.out _).2 ⟨w2.heap.size, 0, none⟩ 1 1 [.int .i64 x] rfl rfl (one_cells _ _ _) (one_one _) (by decide) (by unfold maxLen; omega) (by omega) (by go_size) _ rfl ?_))
          intro g cap w3 hown hg hat hltg
          have HO3 := Lib.hid (show OwI w3 wr.heap.size (some ⟨g, 0, none⟩) (n2 + 1) cap (xs.take n2 ++ [x]) from ⟨by omega, by simpa using hown⟩)
          have hob := OwI.ob2 HO2.out
          have hE3 : Ext wr w3 := Ext.grown (hE2.alloc _) hg (fun b hb => (hob b hb).1)
          clear hown hg hat hob
          have hcap3 := HO3.out.cap
          go_wp2_with (at_builtin; go_loud (refine wpList_append_ints rfl (.tmp 41) (.tmp 44) 22 rfl i0 Try.underlying22 hii hiz his hib (D := wr.heap.size) rfl HO3.out rfl (RI.ext HD.out hE3) (by omega) (by have := hE3.size; omega) hcap3.1 ?_))
          intro A4 c4 w4 hO4 hg4 hat4
          have HO4 := Lib.hid hO4
          have hob3 := OwI.ob2 HO3.out
          have hE4 : Ext wr w4 := Ext.grown hE3 hg4 (fun b hb => (hob3 b hb).1)
          clear hO4 hg4 hat4 hob3
          go_wp2
          go_ret
          exact ⟨A4, _, c4, _, rfl, by rw [HL.out]; omega, HO4.out.cap, HO4.out.ri, (by have h := InTo.mid (xs := xs) (x := x) n2; rwa [List.append_assoc, List.singleton_append] at h), Ext.trans hE hE4⟩
    · have hkn' : k = n := by omega
      subst hkn'
      have HT := Lib.hid (RI.ext HA.out hE)
      have HIN := Lib.hid (show InTo xs (xs ++ [x]) x from by
        have h := InTo.mid (xs := xs) (x := x) k
        rwa [List.take_of_length_le (by rw [HL.out]; exact Nat.le_refl _), List.drop_of_length_le (by rw [HL.out]; exact Nat.le_refl _), List.append_nil] at h)
      go_wp2_with fail
      (with_reducible refine (c_l1Copy HT.out).mono ?_)
      rintro e2 w2 ⟨A2, n2, c2, rfl, hO2, hE2⟩
      have hn2 : n2 = k := by rw [← hO2.len, HT.out.len]
      subst hn2
      have HO2 := Lib.hid hO2
      have hsz2 := hE2.size
      clear hO2
      go_wp2_with (at_builtin; go_loud (refine wpList_append_lies _ rfl (.tmp 37) (.tmp 39) 22 rfl wr.heap.size 2 i0 (.int .i64 0) 1 8 Try.underlying22 hii hiz his hib rfl (by decide) _ _ _ rfl (OwI.alloc HO2.out _).2 ⟨w2.heap.size, 0, none⟩ 1 1 [.int .i64 x] rfl rfl (one_cells _ _ _) (one_one _) (by decide) (by unfold maxLen; omega) (by omega) (by go_size) _ rfl ?_))
      intro g cap w3 hown hg hat hltg
      have HO3 := Lib.hid (show OwI w3 wr.heap.size (some ⟨g, 0, none⟩) (n2 + 1) cap (xs ++ [x]) from ⟨by omega, by simpa using hown⟩)
      have hob := OwI.ob2 HO2.out
      have hE3 : Ext wr w3 := Ext.grown (hE2.alloc _) hg (fun b hb => (hob b hb).1)
      clear hown hg hat hob
      by_cases hcn : c = n2
      · subst hcn
        have hcap3 := HO3.out.cap
        go_wp2_with (at_builtin; go_loud (refine wpList_append_ints rfl (.tmp 41) (.tmp 44) 22 rfl i0 Try.underlying22 hii hiz his hib (D := wr.heap.size) rfl HO3.out rfl (RI.nil _ _) (by omega) (by have := hE3.size; omega) hcap3.1 ?_))
        intro A4 c4 w4 hO4 hg4 hat4
        have HO4 := Lib.hid hO4
        have hob3 := OwI.ob2 HO3.out
        have hE4 : Ext wr w4 := Ext.grown hE3 hg4 (fun b hb => (hob3 b hb).1)
        clear hO4 hg4 hat4 hob3
        go_wp2
        go_ret
        exact ⟨A4, _, c4, _, rfl, by rw [HL.out]; omega, HO4.out.cap, HO4.out.ri, HIN.out, Ext.trans hE hE4⟩
      · have hlc : n2 < c := by omega
        cases A with
        | none =>
          have hcap3 := HO3.out.cap
          go_wp2_with (at_builtin; go_loud (refine wpList_append_ints rfl (.tmp 41) (.tmp 44) 22 rfl i0 Try.underlying22 hii hiz his hib (D := wr.heap.size) rfl HO3.out rfl (RI.nil _ _) (by omega) (by have := hE3.size; omega) hcap3.1 ?_))
          intro A4 c4 w4 hO4 hg4 hat4
          have HO4 := Lib.hid hO4
          have hob3 := OwI.ob2 HO3.out
          have hE4 : Ext wr w4 := Ext.grown hE3 hg4 (fun b hb => (hob3 b hb).1)
          clear hO4 hg4 hat4 hob3
          go_wp2
          go_ret
          exact ⟨A4, _, c4, _, rfl, by rw [HL.out]; omega, HO4.out.cap, HO4.out.ri, HIN.out, Ext.trans hE hE4⟩
        | some p =>
          have hcap3 := HO3.out.cap
          go_wp2_with (at_builtin; go_loud (refine wpList_append_ints rfl (.tmp 41) (.tmp 44) 22 rfl i0 Try.underlying22 hii hiz his hib (D := wr.heap.size) rfl HO3.out rfl (RI.nil _ _) (by omega) (by have := hE3.size; omega) hcap3.1 ?_))
          intro A4 c4 w4 hO4 hg4 hat4
          have HO4 := Lib.hid hO4
          have hob3 := OwI.ob2 HO3.out
          have hE4 : Ext wr w4 := Ext.grown hE3 hg4 (fun b hb => (hob3 b hb).1)
          clear hO4 hg4 hat4 hob3
          go_wp2
          go_ret
          exact ⟨A4, _, c4, _, rfl, by rw [HL.out]; omega, HO4.out.cap, HO4.out.ri, HIN.out, Ext.trans hE hE4⟩
/-- The first rules' heads. -/
def HeadsTo (s : Sy) (k : Nat) (ys : List Int) : Prop := ∀ y, y ∈ ys ↔ ∃ (j : Nat) (r : Ru), j < k ∧ s.rs[j]? = some r ∧ r.l[0]? = some y
theorem HeadsTo.succ {s : Sy} {k : Nat} {xs ys : List Int} {r : Ru} {x : Int} (h : HeadsTo s k xs) (hr : s.rs[k]? = some r) (hx : r.l[0]? = some x) (hi : InTo xs ys x) : HeadsTo s (k + 1) ys := by
  intro y
  rw [hi y, h y]
  constructor
  · rintro (⟨j, q, h1, h2, h3⟩ | rfl)
    · exact ⟨j, q, by omega, h2, h3⟩
    · exact ⟨k, r, by omega, hr, hx⟩
  · rintro ⟨j, q, h1, h2, h3⟩
    rcases Nat.lt_or_ge j k with h4 | h4
    · exact .inl ⟨j, q, h4, h2, h3⟩
    · obtain rfl : j = k := by omega
      rw [hr] at h2; cases h2
      rw [hx] at h3; cases h3
      exact .inr rfl
theorem HeadsTo.all {s : Sy} {ys : List Int} (h : HeadsTo s s.rs.length ys) (x : Int) : decide (x ∈ ys) = dfd s x := by
  cases hd : dfd s x with
  | true =>
    obtain ⟨r, hr, hx⟩ := dfd_iff.1 hd
    obtain ⟨j, hj, rfl⟩ := List.mem_iff_getElem.1 hr
    exact decide_eq_true ((h x).2 ⟨j, _, hj, List.getElem?_eq_getElem hj, hx⟩)
  | false =>
    refine decide_eq_false fun hm => ?_
    obtain ⟨j, r, h1, h2, h3⟩ := (h x).1 hm
    rw [dfd_t h2 h3] at hd; cases hd
def NewDf (w : World) (s : Sy) (e : Ending) (w' : World) : Prop := ∃ (A : Option Addr) (n c : Nat) (ys : List Int), e = .returned (.slice A n c) ∧ RI w' A n ys ∧ HeadsTo s s.rs.length ys ∧ Ext w w'
set_option maxRecDepth 100000 in
set_option maxHeartbeats 4000000 in
theorem c_l6Defined {v0 : Value} {s : Sy} {w : World} (h0 : RdSyC w v0 s) (hs : SysP s) :
    Calls Try.prog 61 #[v0] w (NewDf w s) := by
  obtain ⟨A, n, c, B, m, d, rfl, ha, hb⟩ := h0
  have hm := hb.le
  have HB := Lib.hid hb
  have HL := Lib.hid hb.len
  have HS := Lib.hid hs
  have hm12 : m ≤ 12 := by rw [← hb.len]; exact hs.2.1
  clear ha hb hs
  go_enter Try.func61, Try.ntmps61
  go_wp2_with fail
  obtain ⟨wo, hwo⟩ : ∃ wo, wo = (w.alloc (.cells #[.slice A n c, .slice B m d] 34)).alloc (.cells #[] 2) := ⟨_, rfl⟩
  have hw1 : wo.cell? ⟨w.heap.size, 1, none⟩ = some (.slice B m d) := by rw [hwo]; simp [go_sem]
  have hEo : Ext w wo := by rw [hwo]; exact extX
  rw [← hwo]
  clear hwo
  go_loopw [3, 4] (fun t i wr => ∃ k : Nat, i = .int .i64 k ∧ k ≤ m ∧ (∃ A n c, t = .slice A n c ∧ n ≤ k ∧ Hid (n ≤ c ∧ c ≤ 9223372036854775807) ∧ Hid (∃ ys, RI wr A n ys ∧ HeadsTo s k ys)) ∧ Ext wo wr) (fun _ i _ => m - (intOf i).toNat)
  case atStart => exact ⟨0, rfl, Nat.zero_le _, ⟨_, 0, 0, rfl, Nat.le_refl _, Lib.hid ⟨by omega, by omega⟩, Lib.hid ⟨[], RI.nil _ _, fun y => ⟨fun h => (by cases h), fun ⟨j, r, h, _⟩ => by omega⟩⟩⟩, Ext.refl _⟩
  case round =>
    obtain ⟨k, rfl, hk, ⟨A3, n3, c3, rfl, hn3, hc3, hY⟩, hE⟩ := hrel
    have hEw : Ext w wr := Ext.trans hEo hE
    have hr1 := Ext.keep hE hw1
    by_cases hlt : k < m
    · obtain ⟨b, o, r, A1, m1, c1, A2, m2, c2, rfl, hx, hd1, hd2, hri1, hri2, hcap1, hcap2⟩ := RR.at_ (RR.ext HB.out hEw) hlt
      have hlr : 1 ≤ r.l.length := (HS.out.2.2 k r hx).1.2.1.1
      have hm1 : 0 < m1 := by have := hri1.len; omega
      obtain ⟨b1, o1, y, rfl, hy, hcy⟩ := RI.at_ hri1 hm1
      rw [Nat.add_zero] at hcy
      obtain ⟨ys, hRY, hHY⟩ := hY.out
      have HRY := Lib.hid hRY
      have HX := Lib.hid hx
      have HYY := Lib.hid hy
      have HHY := Lib.hid hHY
      have hYL : ys.length = n3 := hRY.len
      have HYL := Lib.hid hYL
      have hki : (k : Int) < (m : Int) := by omega
      have hk0 : (0 : Int) ≤ (k : Int) := by omega
      have hm1i : (0 : Int) < (m1 : Int) := by omega
      have hm1n : m1 ≠ 0 := by omega
      clear hx hy hRY hHY hri1 hri2 hcap1 hcap2 hYL
      go_wp2_with fail
      (with_reducible refine (c_l1Into (x := y) HRY.out hc3.out (by omega)).mono ?_)
      rintro e2 w2 ⟨A4, n4, c4, zs, rfl, hn4, hc4, hr4, hin, hE2⟩
      have HN := Lib.hid (HeadsTo.succ HHY.out HX.out HYY.out hin)
      have HR4 := Lib.hid hr4
      have HC4 := Lib.hid hc4
      have hn4' : n4 ≤ k + 1 := by have := HYL.out; omega
      clear hr4 hin hc4
      go_wp2
      go_roundw
      case rel => exact ⟨k + 1, by go_num, by omega, ⟨A4, n4, c4, rfl, hn4', HC4, Lib.hid ⟨zs, HR4.out, HN.out⟩⟩, Ext.trans hE hE2⟩
      case measure => simp only [intOf]; omega
    · have hkm : k = m := by omega
      obtain ⟨ys, hRY, hHY⟩ := hY.out
      go_wp2
      go_ret
      exact ⟨A3, n3, c3, ys, rfl, hRY, by rw [HL.out, ← hkm]; exact hHY, hEw⟩
set_option maxRecDepth 100000 in
set_option maxHeartbeats 4000000 in
theorem c_l17Part {v0 v1 v2 : Value} {ar t u : List Int} {w : World} (h0 : RdSig w v0 ar) (h1 : RdIc w v1 t) (h2 : RdI w v2 u) (ht : TermP ar t) :
    Calls Try.prog 64 #[v0, v1, v2] w fun e w' => e = .returned (.bool (has ar t u)) ∧ Ext w w' := by
  obtain ⟨A, n, c, rfl, ha⟩ := h0
  obtain ⟨B, m, d, rfl, hcap, hb⟩ := h1
  obtain ⟨D, q, l, rfl, hd⟩ := h2
  have hm := hb.le
  have hml := hb.len
  have HA := Lib.hid ha
  have HB := Lib.hid hb
  have HD := Lib.hid hd
  have HML := Lib.hid hml
  have HT := Lib.hid ht
  have hm1 : 1 ≤ m := by rw [← hml]; exact ht.2.1.1
  have HSG := Lib.hid (show SigP ar from ht.1)
  obtain ⟨hcap1, hcap2⟩ := hcap
  clear ha hb hd hml ht
  go_enter Try.func64, Try.ntmps64
  go_wp2_with fail
  obtain ⟨wo, hwo⟩ : ∃ wo, wo = w.alloc (.cells #[.slice A n c] 31) := ⟨_, rfl⟩
  have hw0 : wo.cell? ⟨w.heap.size, 0, none⟩ = some (.slice A n c) := by rw [hwo]; simp [go_sem]
  have hEo : Ext w wo := by rw [hwo]; exact extX
  rw [← hwo]
  clear hwo
  go_loopw [7] (fun i wr => ∃ k : Nat, i = .int .i64 k ∧ 1 ≤ k ∧ k ≤ m ∧ Hid (∀ p, 1 ≤ p → p < k → ¬ (subT ar t p).flat = u) ∧ Ext wo wr) (fun i _ => m - (intOf i).toNat)
  case atStart => exact ⟨1, rfl, Nat.le_refl _, hm1, Lib.hid fun p h1 h2 => by omega, Ext.refl _⟩
  case round =>
    obtain ⟨k, rfl, hk1, hk, hp, hE⟩ := hrel
    have hEw : Ext w wr := Ext.trans hEo hE
    have hr0 := Ext.keep hE hw0
    by_cases hlt : k < m
    · obtain ⟨hok, rest, hdr⟩ := subT_ok HT.out (show k < t.length by rw [HML.out]; exact hlt)
      obtain ⟨b, o, z, rfl, _, _⟩ := RI.at_ HB.out hlt
      have HSUB := Lib.hid (RI.sub HB.out hdr)
      obtain ⟨v, hv⟩ : ∃ v, v = (subT ar t k).flat := ⟨_, rfl⟩
      have hvl : k + v.length ≤ m := by
        have h1 := congrArg List.length hdr
        rw [List.length_drop, List.length_append, HML.out, ← hv] at h1
        omega
      have HOK := Lib.hid hok
      have HDR := Lib.hid hdr
      have HV := Lib.hid hv
      have hki : (k : Int) < (m : Int) := by omega
      have hk0 : (0 : Int) ≤ (k : Int) := by omega
      have hsub : k + v.length - k = v.length := by omega
      clear hok hdr
      obtain ⟨f, hf⟩ : ∃ f : Nat, f = k + v.length := ⟨_, rfl⟩
      have hff : f - k = v.length := by omega
      have hfi : (k : Int) ≤ (f : Int) := by omega
      have hfd : (f : Int) ≤ (d : Int) := by omega
      have hfn : f = k + (subT ar t k).flat.length := by rw [hf, hv]
      have HFN := Lib.hid hfn
      have HFF := Lib.hid hff
      clear hf hfn hv hsub hff
      go_wp2_with fail
      (with_reducible refine (c_l13End (u := subT ar t k) (p := k) (RdSig.mk (RI.ext HA.out hEw)) (RdI.mk (RI.ext HB.out hEw)) HSG.out HOK.out HDR.out).mono ?_)
      rw [← HFN.out]
      rintro e2 w2 ⟨rfl, hE2⟩
      have hEw2 := Ext.trans hEw hE2
      have HSV := Lib.hid (show RI w2 (some ⟨b, o + k, none⟩) (f - k) v by rw [HFF.out, HV.out]; exact RI.ext HSUB.out hEw2)
      by_cases he : v = u
      · have HR := Lib.hid (has_t (u := u) hk1 (by rw [HML.out]; exact hlt) (by rw [← HV.out]; exact he))
        have HEQ := Lib.hid (show (v == u) = true by simpa using he)
        clear he
        go_wp2_with fail
        (with_reducible refine (c_SameTerm (xs := v) (ys := u) (RdI.mk HSV.out) (RdI.mk (RI.ext HD.out hEw2))).mono ?_); rw [HEQ.out]; rintro e3 w3 ⟨rfl, hE3⟩
        go_wp2
        go_ret
        exact ⟨ret_bool HR.out.symm, by exact extX⟩
      · have HR := Lib.hid (show ∀ p, 1 ≤ p → p < k + 1 → ¬ (subT ar t p).flat = u from fun p h1 h2 => by
          rcases Nat.lt_or_ge p k with h | h
          · exact hp.out p h1 h
          · obtain rfl : p = k := by omega
            rw [← HV.out]; exact he)
        have HEQ := Lib.hid (show (v == u) = false by simpa using he)
        clear he
        go_wp2_with fail
        (with_reducible refine (c_SameTerm (xs := v) (ys := u) (RdI.mk HSV.out) (RdI.mk (RI.ext HD.out hEw2))).mono ?_); rw [HEQ.out]; rintro e3 w3 ⟨rfl, hE3⟩
        go_wp2
        go_roundw
        case rel => exact ⟨k + 1, by go_num, by omega, by omega, HR, Ext.trans hE (Ext.trans hE2 hE3)⟩
        case measure => simp only [intOf]; omega
    · have HR := Lib.hid (has_f (ar := ar) (t := t) (u := u) fun p h1 h2 => hp.out p h1 (by rw [HML.out] at h2; omega))
      go_wp2
      go_ret
      exact ⟨ret_bool HR.out.symm, by exact extX⟩

end Go.Proofs.Ytempekmenkeigaa
