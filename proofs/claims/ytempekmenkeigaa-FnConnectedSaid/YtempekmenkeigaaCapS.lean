/- CappedOf of the reference. -/
import Derived.Test.YtempekmenkeigaaCapI
import Derived.Test.YtempekmenkeigaaDepU
-- rd: RdSyK
namespace Go.Proofs.Ytempekmenkeigaa
open Go.RowKit
set_option linter.unusedSimpArgs false
set_option linter.unusedVariables false

def NewToN (w : World) (xs : List Int) (x : Int) (e : Ending) (w' : World) : Prop := ∃ (A : Option Addr) (n c : Nat) (ys : List Int), e = .returned (.slice A n c) ∧ (x ∉ xs → n = xs.length + 1) ∧ (n ≤ c ∧ c ≤ 9223372036854775807) ∧ RI w' A n ys ∧ InTo xs ys x ∧ Ext w w'
set_option maxRecDepth 100000 in
set_option maxHeartbeats 4000000 in
theorem c_l1IntoN {A : Option Addr} {n c : Nat} {xs : List Int} {x : Int} {w : World} (h0 : RI w A n xs) (hc : n ≤ c ∧ c ≤ 9223372036854775807) (hn : n ≤ 100) :
    Calls Try.prog 81 #[.slice A n c, .int .i64 x] w (NewToN w xs x) := by
  have hl := h0.len
  have HA := Lib.hid h0
  have HL := Lib.hid hl
  obtain ⟨i0, hii, hiz, his, hib⟩ := info_parts int64_info
  obtain ⟨hnc, hc63⟩ := hc
  clear h0 hl
  go_enter Try.func81, Try.ntmps81
  go_wp2
  go_loopw [5] (fun i wr => ∃ k : Nat, i = .int .i64 k ∧ k ≤ n ∧ Ext w wr) (fun i _ => n - (intOf i).toNat)
  case atStart => exact ⟨0, rfl, Nat.zero_le _, Ext.refl _⟩
  case round =>
    obtain ⟨k, rfl, hk, hE⟩ := hrel
    have hk0 : (0 : Int) ≤ (k : Int) := by omega
    have hkc : (k : Int) ≤ (c : Int) := by omega
    have hkn : (k : Int) ≤ (n : Int) := by omega
    by_cases hlt : k < n
    · obtain ⟨b, o, z, rfl, hz, hcz⟩ := RI.at_ (RI.ext HA.out hE) hlt
      have hki : (k : Int) < (n : Int) := by omega
      by_cases hzx : z < x
      · go_wp2
        go_roundw
        case rel => exact ⟨k + 1, by go_num, by omega, hE⟩
        case measure => simp only [intOf]; omega
      · by_cases hze : z = x
        · subst hze
          have HM := Lib.hid (InTo.there (List.mem_of_getElem? hz))
          have HMM := Lib.hid (List.mem_of_getElem? hz)
          go_wp2
          go_ret
          exact ⟨_, n, c, xs, rfl, (fun h => absurd HMM.out h), ⟨hnc, hc63⟩, RI.ext HA.out hE, HM.out, hE⟩
        · have hzb : (z == x) = false := by simpa using hze
          have HT := Lib.hid (RI.takeK (RI.ext HA.out hE) hk)
          have HD := Lib.hid (RI.dropB (RI.ext HA.out hE) hk)
          have hck : ¬ c = k := by omega
          go_wp2_with fail
          (with_reducible refine (c_l1Copy HT.out).mono ?_)
          rintro e2 w2 ⟨A2, n2, c2, rfl, hO2, hE2⟩
          have hn2 : n2 = k := by rw [← hO2.len, HT.out.len]
          subst hn2
          have HO2 := Lib.hid hO2
          have hsz2 := hE2.size
          clear hO2
          go_wp2_with (at_builtin; go_loud (refine wpList_append_lies _ rfl (.tmp 37) (.tmp 39) 22 rfl wr.heap.size 2 i0 (.int .i64 0) 1 8 Try.underlying22 hii hiz his hib rfl (by decide) _ _ _ rfl (OwI.alloc HO2.out _).2 ⟨w2.heap.size, 0, none⟩ 1 1 [.int .i64 x] rfl rfl (one_cells _ _ _) (one_one _) (by decide) (by unfold maxLen; omega) (by omega) (by go_size) _ rfl ?_))
          intro g cap w3 hown hg hat hltg
          have HO3 := Lib.hid (show OwI w3 wr.heap.size (some ⟨g, 0, none⟩) (n2 + 1) cap (xs.take n2 ++ [x]) from ⟨by omega, by simpa using hown⟩)
          have hob := OwI.ob2 HO2.out
          have hE3 : Ext wr w3 := Ext.grown (hE2.alloc _) hg (fun b hb => (hob b hb).1)
          clear hown hg hat hob
          have hcap3 := HO3.out.cap
          go_wp2_with (at_builtin; go_loud (refine wpList_append_ints rfl (.tmp 41) (.tmp 44) 22 rfl i0 Try.underlying22 hii hiz his hib (D := wr.heap.size) rfl HO3.out rfl (RI.ext HD.out hE3) (by omega) (by have := hE3.size; omega) hcap3.1 ?_))
          intro A4 c4 w4 hO4 hg4 hat4
          have HO4 := Lib.hid hO4
          have hob3 := OwI.ob2 HO3.out
          have hE4 : Ext wr w4 := Ext.grown hE3 hg4 (fun b hb => (hob3 b hb).1)
          clear hO4 hg4 hat4 hob3
          go_wp2
          go_ret
          exact ⟨A4, _, c4, _, rfl, (fun _ => by have := HL.out; omega), HO4.out.cap, HO4.out.ri, (by have h := InTo.mid (xs := xs) (x := x) n2; rwa [List.append_assoc, List.singleton_append] at h), Ext.trans hE hE4⟩
    · have hkn' : k = n := by omega
      subst hkn'
      have HT := Lib.hid (RI.ext HA.out hE)
      have HIN := Lib.hid (show InTo xs (xs ++ [x]) x from by
        have h := InTo.mid (xs := xs) (x := x) k
        rwa [List.take_of_length_le (by rw [HL.out]; exact Nat.le_refl _), List.drop_of_length_le (by rw [HL.out]; exact Nat.le_refl _), List.append_nil] at h)
      go_wp2_with fail
      (with_reducible refine (c_l1Copy HT.out).mono ?_)
      rintro e2 w2 ⟨A2, n2, c2, rfl, hO2, hE2⟩
      have hn2 : n2 = k := by rw [← hO2.len, HT.out.len]
      subst hn2
      have HO2 := Lib.hid hO2
      have hsz2 := hE2.size
      clear hO2
      go_wp2_with (at_builtin; go_loud (refine wpList_append_lies _ rfl (.tmp 37) (.tmp 39) 22 rfl wr.heap.size 2 i0 (.int .i64 0) 1 8 Try.underlying22 hii hiz his hib rfl (by decide) _ _ _ rfl (OwI.alloc HO2.out _).2 ⟨w2.heap.size, 0, none⟩ 1 1 [.int .i64 x] rfl rfl (one_cells _ _ _) (one_one _) (by decide) (by unfold maxLen; omega) (by omega) (by go_size) _ rfl ?_))
      intro g cap w3 hown hg hat hltg
      have HO3 := Lib.hid (show OwI w3 wr.heap.size (some ⟨g, 0, none⟩) (n2 + 1) cap (xs ++ [x]) from ⟨by omega, by simpa using hown⟩)
      have hob := OwI.ob2 HO2.out
      have hE3 : Ext wr w3 := Ext.grown (hE2.alloc _) hg (fun b hb => (hob b hb).1)
      clear hown hg hat hob
      by_cases hcn : c = n2
      · subst hcn
        have hcap3 := HO3.out.cap
        go_wp2_with (at_builtin; go_loud (refine wpList_append_ints rfl (.tmp 41) (.tmp 44) 22 rfl i0 Try.underlying22 hii hiz his hib (D := wr.heap.size) rfl HO3.out rfl (RI.nil _ _) (by omega) (by have := hE3.size; omega) hcap3.1 ?_))
        intro A4 c4 w4 hO4 hg4 hat4
        have HO4 := Lib.hid hO4
        have hob3 := OwI.ob2 HO3.out
        have hE4 : Ext wr w4 := Ext.grown hE3 hg4 (fun b hb => (hob3 b hb).1)
        clear hO4 hg4 hat4 hob3
        go_wp2
        go_ret
        exact ⟨A4, _, c4, _, rfl, (fun _ => by have := HL.out; omega), HO4.out.cap, HO4.out.ri, HIN.out, Ext.trans hE hE4⟩
      · have hlc : n2 < c := by omega
        cases A with
        | none =>
          have hcap3 := HO3.out.cap
          go_wp2_with (at_builtin; go_loud (refine wpList_append_ints rfl (.tmp 41) (.tmp 44) 22 rfl i0 Try.underlying22 hii hiz his hib (D := wr.heap.size) rfl HO3.out rfl (RI.nil _ _) (by omega) (by have := hE3.size; omega) hcap3.1 ?_))
          intro A4 c4 w4 hO4 hg4 hat4
          have HO4 := Lib.hid hO4
          have hob3 := OwI.ob2 HO3.out
          have hE4 : Ext wr w4 := Ext.grown hE3 hg4 (fun b hb => (hob3 b hb).1)
          clear hO4 hg4 hat4 hob3
          go_wp2
          go_ret
          exact ⟨A4, _, c4, _, rfl, (fun _ => by have := HL.out; omega), HO4.out.cap, HO4.out.ri, HIN.out, Ext.trans hE hE4⟩
        | some p =>
          have hcap3 := HO3.out.cap
          go_wp2_with (at_builtin; go_loud (refine wpList_append_ints rfl (.tmp 41) (.tmp 44) 22 rfl i0 Try.underlying22 hii hiz his hib (D := wr.heap.size) rfl HO3.out rfl (RI.nil _ _) (by omega) (by have := hE3.size; omega) hcap3.1 ?_))
          intro A4 c4 w4 hO4 hg4 hat4
          have HO4 := Lib.hid hO4
          have hob3 := OwI.ob2 HO3.out
          have hE4 : Ext wr w4 := Ext.grown hE3 hg4 (fun b hb => (hob3 b hb).1)
          clear hO4 hg4 hat4 hob3
          go_wp2
          go_ret
          exact ⟨A4, _, c4, _, rfl, (fun _ => by have := HL.out; omega), HO4.out.cap, HO4.out.ri, HIN.out, Ext.trans hE hE4⟩
def ng (o : List Int) : List Int := o.filter fun x => decide (x < 0)
theorem ng_neg {o : List Int} {i : Nat} {x : Int} (h : o[i]? = some x) (hx : x < 0) : ng (o.take (i + 1)) = ng (o.take i) ++ [x] := by
  unfold ng
  rw [List.take_add_one, h, List.filter_append]
  simp [hx]
theorem ng_pos {o : List Int} {i : Nat} {x : Int} (h : o[i]? = some x) (hx : ¬ x < 0) : ng (o.take (i + 1)) = ng (o.take i) := by
  unfold ng
  rw [List.take_add_one, h, List.filter_append]
  simp [hx]
theorem ng_at {o : List Int} {i F : Nat} {x : Int} (ho : ng o = (List.range F).map fun j : Nat => -((j : Int) + 1)) (h : o[i]? = some x) (hx : x < 0) : x = -(((ng (o.take i)).length : Int) + 1) := by
  have e : ng o = ng (o.take (i + 1)) ++ ng (o.drop (i + 1)) := by
    unfold ng; rw [← List.filter_append, List.take_append_drop]
  rw [ng_neg h hx] at e
  have h1 : (ng o)[(ng (o.take i)).length]? = some x := by
    rw [e, List.append_assoc, List.getElem?_append_right (Nat.le_refl _), Nat.sub_self]; rfl
  rw [ho, List.getElem?_map] at h1
  obtain ⟨j, hj, rfl⟩ := Option.map_eq_some_iff.1 h1
  have := (List.getElem?_eq_some_iff.1 hj)
  obtain ⟨h2, h3⟩ := this
  rw [List.getElem_range] at h3
  rw [← h3]
theorem mem_next {ys zs : List Int} {n : Nat} (h : ∀ y, y ∈ ys ↔ 0 ≤ y ∧ y < (n : Int)) (hin : InTo ys zs (n : Int)) : ∀ y, y ∈ zs ↔ 0 ≤ y ∧ y < ((n + 1 : Nat) : Int) := by
  intro y
  rw [hin y, h y]
  constructor
  · rintro (⟨a, b⟩ | rfl) <;> omega
  · intro h
    by_cases h2 : y = (n : Int)
    · exact .inr h2
    · left; omega
set_option maxRecDepth 100000 in
set_option maxHeartbeats 4000000 in
theorem c_l2Vars {A : Option Addr} {n c F : Nat} {o : List Int} {w : World} (h0 : RI w A n o) (hn : n ≤ 60) (ho : ng o = (List.range F).map fun j : Nat => -((j : Int) + 1)) :
    Calls Try.prog 80 #[.slice A n c] w fun e w' => ∃ A' c', e = .returned (.slice A' F c') ∧ Ext w w' := by
  have HA := Lib.hid h0
  have HL := Lib.hid h0.len
  have HO := Lib.hid ho
  clear h0 ho
  go_enter Try.func80, Try.ntmps80
  go_wp2_with fail
  obtain ⟨wo, hwo⟩ : ∃ wo, wo = w.alloc (.cells #[] 2) := ⟨_, rfl⟩
  have hEo : Ext w wo := by rw [hwo]; exact extX
  rw [← hwo]
  clear hwo
  go_loopw [3, 4] (fun t i wr => ∃ k : Nat, i = .int .i64 k ∧ k ≤ n ∧ (∃ A n c, t = .slice A n c ∧ n ≤ k ∧ Hid (n ≤ c ∧ c ≤ 9223372036854775807) ∧ Hid (n = (ng (o.take k)).length ∧ ∃ ys, RI wr A n ys ∧ ∀ y, y ∈ ys ↔ 0 ≤ y ∧ y < (n : Int))) ∧ Ext wo wr) (fun _ i _ => n - (intOf i).toNat)
  case atStart => exact ⟨0, rfl, Nat.zero_le _, ⟨_, 0, 0, rfl, Nat.le_refl _, Lib.hid ⟨by omega, by omega⟩, Lib.hid ⟨by simp [ng], [], RI.nil _ _, fun y => ⟨fun h => (by cases h), fun ⟨a, b⟩ => by omega⟩⟩⟩, Ext.refl _⟩
  case round =>
    obtain ⟨k, rfl, hk, ⟨A3, n3, c3, rfl, hn3, hc3, hY⟩, hE⟩ := hrel
    have hEw : Ext w wr := Ext.trans hEo hE
    by_cases hlt : k < n
    · obtain ⟨b, q, x, rfl, hx, hcx⟩ := RI.at_ (RI.ext HA.out hEw) hlt
      have HX := Lib.hid hx
      have hki : (k : Int) < (n : Int) := by omega
      have hk0 : (0 : Int) ≤ (k : Int) := by omega
      clear hx
      by_cases hx0 : x < 0
      · have hxe := ng_at HO.out HX.out hx0
        have HNG := Lib.hid (ng_neg HX.out hx0)
        have hcn := hY.out.1
        rw [← hcn] at hxe
        subst hxe
        obtain ⟨-, ys, hRY, hM⟩ := hY.out
        have hsub : IntKind.i64.wrap (-1 - -((n3 : Int) + 1)) = (n3 : Int) := by rw [show -1 - -((n3 : Int) + 1) = (n3 : Int) by omega]; exact IntWalk.i64_in _ (by omega)
        have hsub2 : -1 + ((n3 : Int) + 1) = (n3 : Int) := by omega
        have hwn : IntKind.i64.wrap (n3 : Int) = (n3 : Int) := IntWalk.i64_in _ (by omega)
        have HRY := Lib.hid hRY
        have HM := Lib.hid hM
        have HCN := Lib.hid hcn
        clear hRY hM hcn
        go_wp2_with fail
        (with_reducible refine (c_l1IntoN (x := (n3 : Int)) HRY.out hc3.out (by omega)).mono ?_)
        rintro e2 w2 ⟨A4, n4, c4, zs, rfl, hn4, hc4, hr4, hin, hE2⟩
        have hn4e : n4 = n3 + 1 := by
          have h1 := hn4 (fun h => by have := (HM.out _).1 h; omega)
          rw [HRY.out.len] at h1; exact h1
        subst hn4e
        have HN := Lib.hid (show n3 + 1 = (ng (o.take (k + 1))).length ∧ ∃ ys, RI w2 A4 (n3 + 1) ys ∧ ∀ y, y ∈ ys ↔ 0 ≤ y ∧ y < ((n3 + 1 : Nat) : Int) from
          ⟨by rw [HNG.out, List.length_append, ← HCN.out]; rfl, zs, hr4, mem_next HM.out hin⟩)
        have HC4 := Lib.hid hc4
        clear hr4 hin hc4 hn4
        go_wp2
        go_roundw
        case rel => exact ⟨k + 1, by go_num, by omega, ⟨A4, n3 + 1, c4, rfl, by omega, HC4, HN⟩, Ext.trans hE hE2⟩
        case measure => simp only [intOf]; omega
      · have HNG := Lib.hid (ng_pos HX.out hx0)
        have HN := Lib.hid (show n3 = (ng (o.take (k + 1))).length ∧ ∃ ys, RI wr A3 n3 ys ∧ ∀ y, y ∈ ys ↔ 0 ≤ y ∧ y < (n3 : Int) by rw [HNG.out]; exact hY.out)
        go_wp2
        go_roundw
        case rel => exact ⟨k + 1, by go_num, by omega, ⟨A3, n3, c3, rfl, by omega, hc3, HN⟩, hE⟩
        case measure => simp only [intOf]; omega
    · have hkn : k = n := by omega
      have hF : n3 = F := by
        have h1 := hY.out.1
        rw [List.take_of_length_le (by rw [HL.out]; omega), HO.out] at h1
        simpa using h1
      subst hF
      go_wp2
      go_ret
      exact ⟨A3, c3, rfl, hEw⟩
theorem OwI.one {w : World} {D : Nat} {x : Int} (hD : D ≤ w.heap.size) : OwI (w.alloc (.cells #[.int .i64 x] 2)) D (some ⟨w.heap.size, 0, none⟩) 1 1 [x] :=
  ⟨by omega, by simp, .inr ⟨w.heap.size, 1, #[.int .i64 x], rfl, hD, heap_alloc_new w _, Nat.le_refl _, by decide, rfl, rfl⟩⟩
theorem var_one {ar t : List Int} {x : Int} (h : TermP ar t) (hx : t[0]? = some x) (hn : x < 0) : t.length = 1 := by
  obtain ⟨k1, k2⟩ := tmOf_ok h
  cases hT : tmOf ar t with
  | node y us =>
    rw [hT] at k1 k2
    rw [← k2, flat_node] at hx
    have hyx : y = x := by simpa using hx
    subst hyx
    have h1 := (Ok_node.1 k1).1
    have h2 : us.length = 0 := by
      unfold arI at h1
      rw [if_pos hn] at h1
      simpa using h1.symm
    rw [← k2, flat_node, List.length_eq_zero_iff.1 h2]
    rfl
theorem next_neg (f : Nat) : Value.int .i64 (-((f : Int) + 1) - 1) = Value.int .i64 (-(((f + 1 : Nat) : Int) + 1)) := congrArg _ (by omega)
theorem OwI.cast {w : World} {D n c : Nat} {A A' : Option Addr} {xs : List Int} (h : OwI w D A n c xs) (e : A = A') : OwI w D A' n c xs := e ▸ h
set_option maxRecDepth 100000 in
set_option maxHeartbeats 4000000 in
theorem c_l17Capped {v0 v1 : Value} {s : Sy} {t : List Int} {w : World} (h0 : RdSyC w v0 s) (h1 : RdIc w v1 t) (hs : SysP s) (ht : TermP s.ar t) :
    Calls Try.prog 96 #[v0, v1] w fun e w' => ∃ A n c, e = .returned (.slice A n c) ∧ OwI w' w.heap.size A n c (capO s t) ∧ Ext w w' := by
  obtain ⟨A, n, c, B, m, d, rfl, ha, hb⟩ := h0
  obtain ⟨D, q, l, rfl, hcap, hd⟩ := h1
  have HA := Lib.hid ha
  have HB := Lib.hid hb
  have HD := Lib.hid hd
  have HDL := Lib.hid hd.len
  have HS := Lib.hid hs
  have HSG := Lib.hid (show SigP s.ar from hs.1)
  have HT := Lib.hid ht
  have hq60 : q ≤ 60 := by rw [← hd.len]; exact ht.2.1.2
  have hq1 : 0 < q := by rw [← hd.len]; exact ht.2.1.1
  obtain ⟨b, o, x0, rfl, hx0, hcx0⟩ := RI.at_ hd hq1
  rw [Nat.add_zero] at hcx0
  have hbl : b < w.heap.size := World.block_lt_of_cell? w _ hcx0
  have HX0 := Lib.hid hx0
  have hq1i : (0 : Int) < (q : Int) := by omega
  have hqn : q ≠ 0 := by omega
  obtain ⟨i0, hii, hiz, his, hib⟩ := info_parts int64_info
  have HS0 := Lib.hid (CapSt.start s t)
  clear ha hb hd hs ht hcap hx0
  by_cases hx : x0 < 0
  · have h1t := var_one HT.out HX0.out hx
    obtain ⟨hok, rest, hdr⟩ := subT_ok HT.out (show 0 < t.length by omega)
    have hpos := flat_pos (subT s.ar t 0)
    have hle : (subT s.ar t 0).flat.length ≤ t.length := by
      have h2 := congrArg List.length hdr
      rw [List.length_drop, List.length_append] at h2; omega
    have hfin := (HS0.out.fresh HX0.out (by unfold freshAt; simp [hx]) (by omega) hpos).done (by omega)
    have HR := Lib.hid (show capO s t = [-1] by rw [← hfin.1]; rfl)
    clear h1t hok hdr hpos hle hfin
    go_enter Try.func96, Try.ntmps96
    go_wp2
    go_ret
    refine ⟨_, 1, 1, rfl, ?_, by exact extX⟩
    rw [HR.out]
    exact (OwI.one (w := w.alloc (.cells #[.slice A n c, .slice B m d] 34)) (D := w.heap.size) (by simp [go_sem])).cast (by simp [go_sem])
  · go_enter Try.func96, Try.ntmps96
    have hf0 : freshAt s 0 x0 = false := by unfold freshAt; simp [hx]
    have HK := Lib.hid (HS0.out.kept HX0.out hf0)
    clear hf0
    go_wp2_with fail
    obtain ⟨wb, hwb⟩ : ∃ wb, wb = w.alloc (.cells #[.slice A n c, .slice B m d] 34) := ⟨_, rfl⟩
    have hb0 : wb.cell? ⟨w.heap.size, 0, none⟩ = some (.slice A n c) := by rw [hwb]; simp [go_sem]
    have hb1 : wb.cell? ⟨w.heap.size, 1, none⟩ = some (.slice B m d) := by rw [hwb]; simp [go_sem]
    have hbs : w.heap.size ≤ wb.heap.size := by rw [hwb]; simp [go_sem]
    have hEwb : Ext w wb := by rw [hwb]; exact extX
    rw [← hwb]
    clear hwb
    (with_reducible refine (c_l6Defined (s := s) (RdSyK.mk (RI.ext HA.out hEwb) (RR.ext HB.out hEwb)) HS.out).mono ?_)
    rintro e1 w1 ⟨A7, n7, c7, ys, rfl, hr7, hh7, hE1⟩
    have HR7 := Lib.hid hr7
    have HH7 := Lib.hid hh7
    have hs0 := Ext.keep hE1 hb0
    have hEw1 : Ext w w1 := Ext.trans hEwb hE1
    have hcx1 := Ext.keep hEw1 hcx0
    have hs1z : w.heap.size ≤ w1.heap.size := hEw1.size
    clear hr7 hh7 hb0 hb1
    go_wp2_with fail
    obtain ⟨w2, hw2⟩ : ∃ w2, w2 = w1.alloc (.cells #[.int .i64 x0] 2) := ⟨_, rfl⟩
    have HO2 := Lib.hid (show OwI w2 w1.heap.size (some ⟨w1.heap.size, 0, none⟩) 1 1 [x0] by rw [hw2]; exact OwI.one (Nat.le_refl _))
    have hE2 : Ext w1 w2 := by rw [hw2]; exact extX
    rw [← hw2]
    clear hw2
    go_loopw [6, 7, 8] (fun ov fv pv wr => ∃ p f : Nat, pv = .int .i64 p ∧ fv = .int .i64 (-((f : Int) + 1)) ∧ 1 ≤ p ∧ p ≤ q ∧ f ≤ p ∧ (∃ A3 n3 c3, ov = .slice A3 n3 c3 ∧ n3 ≤ p ∧ Hid (∃ out, OwI wr w1.heap.size A3 n3 c3 out ∧ CapSt s t out p f)) ∧ Ext w1 wr) (fun _ _ pv _ => q - (intOf pv).toNat)
    case atStart => exact ⟨1, 0, rfl, rfl, Nat.le_refl _, hq1, by omega, ⟨_, 1, 1, rfl, Nat.le_refl _, Lib.hid ⟨[x0], HO2.out, HK.out⟩⟩, hE2⟩
    case round =>
      obtain ⟨p, f, rfl, rfl, hp1, hp, hfp, ⟨A3, n3, c3, rfl, hn3, hO⟩, hE⟩ := hrel
      obtain ⟨out, hOw, hst⟩ := hO.out
      have HO := Lib.hid hOw
      have HST := Lib.hid hst
      have hEw : Ext w wr := Ext.trans hEw1 hE
      have hr0 := Ext.keep hE hs0
      clear hO hOw hst
      by_cases hlt : p < q
      · obtain ⟨b, o, x, hdb, hx, hcx⟩ := RI.at_ (RI.ext HD.out hEw) hlt
        cases hdb
        obtain ⟨hok, rest, hdr⟩ := subT_ok HT.out (show p < t.length by rw [HDL.out]; exact hlt)
        have HX := Lib.hid hx
        have HOK := Lib.hid hok
        have HDR := Lib.hid hdr
        have hpos := flat_pos (subT s.ar t p)
        obtain ⟨L, hL⟩ : ∃ L, L = (subT s.ar t p).flat.length := ⟨_, rfl⟩
        have hLq : p + L ≤ q := by
          have h1 := congrArg List.length hdr
          rw [List.length_drop, List.length_append, HDL.out, ← hL] at h1
          omega
        have HL := Lib.hid hL
        rw [← hL] at hpos
        have hpi : (p : Int) < (q : Int) := by omega
        have hp0 : (0 : Int) ≤ (p : Int) := by omega
        have h1pl : 1 ≤ p + L := by omega
        have hfl : f + 1 ≤ p + L := by omega
        clear hx hok hdr hL
        by_cases hx0' : x < 0
        · have HF := Lib.hid (HST.out.fresh HX.out (show freshAt s p x = true by unfold freshAt; simp [hx0']) (by rw [← HL.out, HDL.out]; exact hLq) (by rw [← HL.out]; exact hpos))
          have hdx : decide (x < 0) = true := by simpa using hx0'
          obtain ⟨w5, hw5⟩ : ∃ w5, w5 = wr := ⟨_, rfl⟩
          have hE5b : Ext w1 w5 := by rw [hw5]; exact hE
          have HO5 := Lib.hid (show OwI w5 w1.heap.size A3 n3 c3 out by rw [hw5]; exact HO.out)
          have hsz5 := hE5b.size
          have hcx5 : w5.cell? ⟨b, o + p, none⟩ = some (.int .i64 x) := by rw [hw5]; exact hcx
          rw [← hw5]
          clear hw5
          go_wp2_with (at_builtin; go_loud (refine wpList_append_lies _ rfl (.tmp 37) (.tmp 39) 22 rfl w1.heap.size 2 i0 (.int .i64 0) 1 8 Try.underlying22 hii hiz his hib rfl (by decide) _ _ _ rfl (OwI.alloc HO5.out _).2 ⟨w5.heap.size, 0, none⟩ 1 1 [.int .i64 (-((f : Int) + 1))] rfl rfl (one_cells _ _ _) (one_one _) (by decide) (by unfold maxLen; omega) (by omega) (by go_size) _ rfl ?_))
          intro g4 cap wx hown hg hat hltg
          have HON := Lib.hid (show OwI wx w1.heap.size (some ⟨g4, 0, none⟩) (n3 + 1) cap (out ++ [(-((f : Int) + 1))]) from ⟨by omega, by simpa using hown⟩)
          have hob := OwI.ob2 HO5.out
          have hEx : Ext w1 wx := Ext.grown (hE5b.alloc _) hg (fun b hb => (hob b hb).1)
          have hEwx : Ext w wx := Ext.trans hEw1 hEx
          have hx0c := Ext.keep hEx hs0
          clear hown hg hat hob
          go_wp2_with fail
          (with_reducible refine (c_l13End (u := subT s.ar t p) (p := p) (RdSig.mk (RI.ext HA.out hEwx)) (RdI.mk (RI.ext HD.out hEwx)) HSG.out HOK.out HDR.out).mono ?_)
          rw [← HL.out]
          rintro e6 w6 ⟨rfl, hE6⟩
          have HN := Lib.hid (HON.out.ext hE6)
          have HF2 := Lib.hid (show CapSt s t (out ++ [-((f : Int) + 1)]) (p + L) (f + 1) by rw [HL.out]; exact HF.out)
          have hnl : n3 + 1 ≤ p + L := by omega
          have hnw : IntKind.i64.wrap (-((f : Int) + 1) - 1) = -(((f + 1 : Nat) : Int) + 1) := by rw [IntWalk.i64_in _ (by omega)]; omega
          go_wp2
          go_roundw
          case rel => exact ⟨p + L, f + 1, rfl, next_neg f, h1pl, hLq, hfl, ⟨_, _, _, rfl, hnl, Lib.hid ⟨_, HN.out, HF2.out⟩⟩, Ext.trans hEx hE6⟩
          case measure => simp only [intOf]; omega
        · have hdx : decide (x < 0) = false := by simpa using hx0'
          cases hdf : dfd s x with
          | true =>
            have HF := Lib.hid (HST.out.fresh HX.out (show freshAt s p x = true by unfold freshAt; rw [hdf]; simp; right; omega) (by rw [← HL.out, HDL.out]; exact hLq) (by rw [← HL.out]; exact hpos))
            have HDF := Lib.hid hdf
            clear hdf
            go_wp2_with fail
            (with_reducible refine (c_l1Has' (x := x) ((HeadsTo.all HH7.out x).trans HDF.out) (RdI.mk (RI.ext HR7.out hE))).mono ?_)
            rintro e5 w5 ⟨rfl, hE5⟩
            have HO5 := Lib.hid (HO.out.ext hE5)
            have hE5b := Ext.trans hE hE5
            have hsz5 := hE5b.size
            have hcx5 := Ext.keep hE5 hcx
            go_wp2_with (at_builtin; go_loud (refine wpList_append_lies _ rfl (.tmp 37) (.tmp 39) 22 rfl w1.heap.size 2 i0 (.int .i64 0) 1 8 Try.underlying22 hii hiz his hib rfl (by decide) _ _ _ rfl (OwI.alloc HO5.out _).2 ⟨w5.heap.size, 0, none⟩ 1 1 [.int .i64 (-((f : Int) + 1))] rfl rfl (one_cells _ _ _) (one_one _) (by decide) (by unfold maxLen; omega) (by omega) (by go_size) _ rfl ?_))
            intro g4 cap wx hown hg hat hltg
            have HON := Lib.hid (show OwI wx w1.heap.size (some ⟨g4, 0, none⟩) (n3 + 1) cap (out ++ [(-((f : Int) + 1))]) from ⟨by omega, by simpa using hown⟩)
            have hob := OwI.ob2 HO5.out
            have hEx : Ext w1 wx := Ext.grown (hE5b.alloc _) hg (fun b hb => (hob b hb).1)
            have hEwx : Ext w wx := Ext.trans hEw1 hEx
            have hx0c := Ext.keep hEx hs0
            clear hown hg hat hob
            go_wp2_with fail
            (with_reducible refine (c_l13End (u := subT s.ar t p) (p := p) (RdSig.mk (RI.ext HA.out hEwx)) (RdI.mk (RI.ext HD.out hEwx)) HSG.out HOK.out HDR.out).mono ?_)
            rw [← HL.out]
            rintro e6 w6 ⟨rfl, hE6⟩
            have HN := Lib.hid (HON.out.ext hE6)
            have HF2 := Lib.hid (show CapSt s t (out ++ [-((f : Int) + 1)]) (p + L) (f + 1) by rw [HL.out]; exact HF.out)
            have hnl : n3 + 1 ≤ p + L := by omega
            have hnw : IntKind.i64.wrap (-((f : Int) + 1) - 1) = -(((f + 1 : Nat) : Int) + 1) := by rw [IntWalk.i64_in _ (by omega)]; omega
            go_wp2
            go_roundw
            case rel => exact ⟨p + L, f + 1, rfl, next_neg f, h1pl, hLq, hfl, ⟨_, _, _, rfl, hnl, Lib.hid ⟨_, HN.out, HF2.out⟩⟩, Ext.trans hEx hE6⟩
            case measure => simp only [intOf]; omega
          | false =>
            have HF := Lib.hid (HST.out.kept HX.out (show freshAt s p x = false by unfold freshAt; rw [hdf]; simp; omega))
            have HDF := Lib.hid hdf
            clear hdf
            go_wp2_with fail
            (with_reducible refine (c_l1Has' (x := x) ((HeadsTo.all HH7.out x).trans HDF.out) (RdI.mk (RI.ext HR7.out hE))).mono ?_)
            rintro e5 w5 ⟨rfl, hE5⟩
            have HO5 := Lib.hid (HO.out.ext hE5)
            have hE5b := Ext.trans hE hE5
            have hsz5 := hE5b.size
            have hcx5 := Ext.keep hE5 hcx
            go_wp2_with (at_builtin; go_loud (refine wpList_append_lies _ rfl (.tmp 48) (.tmp 53) 22 rfl w1.heap.size 2 i0 (.int .i64 0) 1 8 Try.underlying22 hii hiz his hib rfl (by decide) _ _ _ rfl (OwI.alloc HO5.out _).2 ⟨w5.heap.size, 0, none⟩ 1 1 [.int .i64 x] rfl rfl (one_cells _ _ _) (one_one _) (by decide) (by unfold maxLen; omega) (by omega) (by go_size) _ rfl ?_))
            intro g4 cap wx hown hg hat hltg
            have HON := Lib.hid (show OwI wx w1.heap.size (some ⟨g4, 0, none⟩) (n3 + 1) cap (out ++ [x]) from ⟨by omega, by simpa using hown⟩)
            have hob := OwI.ob2 HO5.out
            have hEx : Ext w1 wx := Ext.grown (hE5b.alloc _) hg (fun b hb => (hob b hb).1)
            have hEwx : Ext w wx := Ext.trans hEw1 hEx
            have hx0c := Ext.keep hEx hs0
            clear hown hg hat hob
            go_wp2
            go_roundw
            case rel => exact ⟨p + 1, f, by go_num, rfl, by omega, by omega, by omega, ⟨_, _, _, rfl, by omega, Lib.hid ⟨_, HON.out, HF.out⟩⟩, hEx⟩
            case measure => simp only [intOf]; omega
      · have hpq : p = q := by omega
        obtain ⟨e1, e2⟩ := HST.out.done (by rw [HDL.out]; omega)
        have E1 := Lib.hid e1
        clear e1 e2
        go_wp2
        go_ret
        exact ⟨A3, n3, c3, rfl, by rw [← E1.out]; exact HO.out.lower hs1z, hEw⟩

end Go.Proofs.Ytempekmenkeigaa
