/- CappedOf of the reference. -/
import Derived.Test.YtdkiejhimmkocaaCapI
import Derived.Test.YtdkiejhimmkocaaDepU
-- rd: RdSyK
namespace Go.Proofs.Ytdkiejhimmkocaa
open Go.RowKit
set_option linter.unusedSimpArgs false
set_option linter.unusedVariables false

def NewToN (w : World) (xs : List Int) (x : Int) (e : Ending) (w' : World) : Prop := ∃ (A : Option Addr) (n c : Nat) (ys : List Int), e = .returned (.slice A n c) ∧ (x ∉ xs → n = xs.length + 1) ∧ (n ≤ c ∧ c ≤ 9223372036854775807) ∧ RI w' A n ys ∧ InTo xs ys x ∧ Ext w w'
set_option maxRecDepth 100000 in
set_option maxHeartbeats 4000000 in
theorem c_l1IntoN {A : Option Addr} {n c : Nat} {xs : List Int} {x : Int} {w : World} (h0 : RI w A n xs) (hc : n ≤ c ∧ c ≤ 9223372036854775807) (hn : n ≤ 100) :
    Calls Try.prog 71 #[.slice A n c, .int .i64 x] w (NewToN w xs x) := by
  have hl := h0.len
  have HA := Lib.hid h0
  have HL := Lib.hid hl
  obtain ⟨i0, hii, hiz, his, hib⟩ := info_parts int64_info
  obtain ⟨hnc, hc63⟩ := hc
  clear h0 hl
  go_enter Try.func71, Try.ntmps71
  go_wp2
  go_loopw [5] (fun i wr => ∃ k : Nat, i = .int .i64 k ∧ k ≤ n ∧ Ext w wr) (fun i _ => n - (intOf i).toNat)
  case atStart => exact ⟨0, rfl, Nat.zero_le _, Ext.refl _⟩
  case round =>
    obtain ⟨k, rfl, hk, hE⟩ := hrel
    have hk0 : (0 : Int) ≤ (k : Int) := by omega
    have hkc : (k : Int) ≤ (c : Int) := by omega
    have hkn : (k : Int) ≤ (n : Int) := by omega
    by_cases hlt : k < n
    · obtain ⟨b, o, z, rfl, hz, hcz⟩ := RI.at_ (RI.ext HA.out hE) hlt
      have hki : (k : Int) < (n : Int) := by omega
      by_cases hzx : z < x
      · go_wp2
        go_roundw
        case rel => exact ⟨k + 1, by go_num, by omega, hE⟩
        case measure => simp only [intOf]; omega
      · by_cases hze : z = x
        · subst hze
          have HM := Lib.hid (InTo.there (List.mem_of_getElem? hz))
          have HMM := Lib.hid (List.mem_of_getElem? hz)
          go_wp2
          go_ret
          exact ⟨_, n, c, xs, rfl, (fun h => absurd HMM.out h), ⟨hnc, hc63⟩, RI.ext HA.out hE, HM.out, hE⟩
        · have hzb : (z == x) = false := by simpa using hze
          have HT := Lib.hid (RI.takeK (RI.ext HA.out hE) hk)
          have HD := Lib.hid (RI.dropB (RI.ext HA.out hE) hk)
          have hck : ¬ c = k := by omega
          go_wp2_with fail
          (with_reducible refine (c_l1Copy HT.out).mono ?_)
          rintro e2 w2 ⟨A2, n2, c2, rfl, hO2, hE2⟩
          have hn2 : n2 = k := by rw [← hO2.len, HT.out.len]
          subst hn2
          have HO2 := Lib.hid hO2
          have hsz2 := hE2.size
          clear hO2
          go_wp2_with (at_builtin; go_loud (refine wpList_append_lies _ rfl (.tmp 37) (.tmp 39) 27 rfl wr.heap.size 2 i0 (.int .i64 0) 1 8 Try.underlying27 hii hiz his hib rfl (by decide) _ _ _ rfl (OwI.alloc HO2.out _).2 ⟨w2.heap.size, 0, none⟩ 1 1 [.int .i64 x] rfl rfl (one_cells _ _ _) (one_one _) (by decide) (by unfold maxLen; omega) (by omega) (by go_size) _ rfl ?_))
          intro g cap w3 hown hg hat hltg
          have HO3 := Lib.hid (show OwI w3 wr.heap.size (some ⟨g, 0, none⟩) (n2 + 1) cap (xs.take n2 ++ [x]) from ⟨by omega, by simpa using hown⟩)
          have hob := OwI.ob2 HO2.out
          have hE3 : Ext wr w3 := Ext.grown (hE2.alloc _) hg (fun b hb => (hob b hb).1)
          clear hown hg hat hob
          have hcap3 := HO3.out.cap
          go_wp2_with (at_builtin; go_loud (refine wpList_append_ints rfl (.tmp 41) (.tmp 44) 27 rfl i0 Try.underlying27 hii hiz his hib (D := wr.heap.size) rfl HO3.out rfl (RI.ext HD.out hE3) (by omega) (by have := hE3.size; omega) hcap3.1 ?_))
          intro A4 c4 w4 hO4 hg4 hat4
          have HO4 := Lib.hid hO4
          have hob3 := OwI.ob2 HO3.out
          have hE4 : Ext wr w4 := Ext.grown hE3 hg4 (fun b hb => (hob3 b hb).1)
          clear hO4 hg4 hat4 hob3
          go_wp2
          go_ret
          exact ⟨A4, _, c4, _, rfl, (fun _ => by have := HL.out; omega), HO4.out.cap, HO4.out.ri, (by have h := InTo.mid (xs := xs) (x := x) n2; rwa [List.append_assoc, List.singleton_append] at h), Ext.trans hE hE4⟩
    · have hkn' : k = n := by omega
      subst hkn'
      have HT := Lib.hid (RI.ext HA.out hE)
      have HIN := Lib.hid (show InTo xs (xs ++ [x]) x from by
        have h := InTo.mid (xs := xs) (x := x) k
        rwa [List.take_of_length_le (by rw [HL.out]; exact Nat.le_refl _), List.drop_of_length_le (by rw [HL.out]; exact Nat.le_refl _), List.append_nil] at h)
      go_wp2_with fail
      (with_reducible refine (c_l1Copy HT.out).mono ?_)
      rintro e2 w2 ⟨A2, n2, c2, rfl, hO2, hE2⟩
      have hn2 : n2 = k := by rw [← hO2.len, HT.out.len]
      subst hn2
      have HO2 := Lib.hid hO2
      have hsz2 := hE2.size
      clear hO2
      go_wp2_with (at_builtin; go_loud (refine wpList_append_lies _ rfl (.tmp 37) (.tmp 39) 27 rfl wr.heap.size 2 i0 (.int .i64 0) 1 8 Try.underlying27 hii hiz his hib rfl (by decide) _ _ _ rfl (OwI.alloc HO2.out _).2 ⟨w2.heap.size, 0, none⟩ 1 1 [.int .i64 x] rfl rfl (one_cells _ _ _) (one_one _) (by decide) (by unfold maxLen; omega) (by omega) (by go_size) _ rfl ?_))
      intro g cap w3 hown hg hat hltg
      have HO3 := Lib.hid (show OwI w3 wr.heap.size (some ⟨g, 0, none⟩) (n2 + 1) cap (xs ++ [x]) from ⟨by omega, by simpa using hown⟩)
      have hob := OwI.ob2 HO2.out
      have hE3 : Ext wr w3 := Ext.grown (hE2.alloc _) hg (fun b hb => (hob b hb).1)
      clear hown hg hat hob
      by_cases hcn : c = n2
      · subst hcn
        have hcap3 := HO3.out.cap
        go_wp2_with (at_builtin; go_loud (refine wpList_append_ints rfl (.tmp 41) (.tmp 44) 27 rfl i0 Try.underlying27 hii hiz his hib (D := wr.heap.size) rfl HO3.out rfl (RI.nil _ _) (by omega) (by have := hE3.size; omega) hcap3.1 ?_))
        intro A4 c4 w4 hO4 hg4 hat4
        have HO4 := Lib.hid hO4
        have hob3 := OwI.ob2 HO3.out
        have hE4 : Ext wr w4 := Ext.grown hE3 hg4 (fun b hb => (hob3 b hb).1)
        clear hO4 hg4 hat4 hob3
        go_wp2
        go_ret
        exact ⟨A4, _, c4, _, rfl, (fun _ => by have := HL.out; omega), HO4.out.cap, HO4.out.ri, HIN.out, Ext.trans hE hE4⟩
      · have hlc : n2 < c := by omega
        cases A with
        | none =>
          have hcap3 := HO3.out.cap
          go_wp2_with (at_builtin; go_loud (refine wpList_append_ints rfl (.tmp 41) (.tmp 44) 27 rfl i0 Try.underlying27 hii hiz his hib (D := wr.heap.size) rfl HO3.out rfl (RI.nil _ _) (by omega) (by have := hE3.size; omega) hcap3.1 ?_))
          intro A4 c4 w4 hO4 hg4 hat4
          have HO4 := Lib.hid hO4
          have hob3 := OwI.ob2 HO3.out
          have hE4 : Ext wr w4 := Ext.grown hE3 hg4 (fun b hb => (hob3 b hb).1)
          clear hO4 hg4 hat4 hob3
          go_wp2
          go_ret
          exact ⟨A4, _, c4, _, rfl, (fun _ => by have := HL.out; omega), HO4.out.cap, HO4.out.ri, HIN.out, Ext.trans hE hE4⟩
        | some p =>
          have hcap3 := HO3.out.cap
          go_wp2_with (at_builtin; go_loud (refine wpList_append_ints rfl (.tmp 41) (.tmp 44) 27 rfl i0 Try.underlying27 hii hiz his hib (D := wr.heap.size) rfl HO3.out rfl (RI.nil _ _) (by omega) (by have := hE3.size; omega) hcap3.1 ?_))
          intro A4 c4 w4 hO4 hg4 hat4
          have HO4 := Lib.hid hO4
          have hob3 := OwI.ob2 HO3.out
          have hE4 : Ext wr w4 := Ext.grown hE3 hg4 (fun b hb => (hob3 b hb).1)
          clear hO4 hg4 hat4 hob3
          go_wp2
          go_ret
          exact ⟨A4, _, c4, _, rfl, (fun _ => by have := HL.out; omega), HO4.out.cap, HO4.out.ri, HIN.out, Ext.trans hE hE4⟩
def ng (o : List Int) : List Int := o.filter fun x => decide (x < 0)
theorem ng_neg {o : List Int} {i : Nat} {x : Int} (h : o[i]? = some x) (hx : x < 0) : ng (o.take (i + 1)) = ng (o.take i) ++ [x] := by
  unfold ng
  rw [List.take_add_one, h, List.filter_append]
  simp [hx]
theorem ng_pos {o : List Int} {i : Nat} {x : Int} (h : o[i]? = some x) (hx : ¬ x < 0) : ng (o.take (i + 1)) = ng (o.take i) := by
  unfold ng
  rw [List.take_add_one, h, List.filter_append]
  simp [hx]
theorem ng_at {o : List Int} {i F : Nat} {x : Int} (ho : ng o = (List.range F).map fun j : Nat => -((j : Int) + 1)) (h : o[i]? = some x) (hx : x < 0) : x = -(((ng (o.take i)).length : Int) + 1) := by
  have e : ng o = ng (o.take (i + 1)) ++ ng (o.drop (i + 1)) := by
    unfold ng; rw [← List.filter_append, List.take_append_drop]
  rw [ng_neg h hx] at e
  have h1 : (ng o)[(ng (o.take i)).length]? = some x := by
    rw [e, List.append_assoc, List.getElem?_append_right (Nat.le_refl _), Nat.sub_self]; rfl
  rw [ho, List.getElem?_map] at h1
  obtain ⟨j, hj, rfl⟩ := Option.map_eq_some_iff.1 h1
  have := (List.getElem?_eq_some_iff.1 hj)
  obtain ⟨h2, h3⟩ := this
  rw [List.getElem_range] at h3
  rw [← h3]
theorem mem_next {ys zs : List Int} {n : Nat} (h : ∀ y, y ∈ ys ↔ 0 ≤ y ∧ y < (n : Int)) (hin : InTo ys zs (n : Int)) : ∀ y, y ∈ zs ↔ 0 ≤ y ∧ y < ((n + 1 : Nat) : Int) := by
  intro y
  rw [hin y, h y]
  constructor
  · rintro (⟨a, b⟩ | rfl) <;> omega
  · intro h
    by_cases h2 : y = (n : Int)
    · exact .inr h2
    · left; omega
set_option maxRecDepth 100000 in
set_option maxHeartbeats 4000000 in
theorem c_l2Vars {A : Option Addr} {n c F : Nat} {o : List Int} {w : World} (h0 : RI w A n o) (hn : n ≤ 60) (ho : ng o = (List.range F).map fun j : Nat => -((j : Int) + 1)) :
    Calls Try.prog 62 #[.slice A n c] w fun e w' => ∃ A' c', e = .returned (.slice A' F c') ∧ Ext w w' := by
  have HA := Lib.hid h0
  have HL := Lib.hid h0.len
  have HO := Lib.hid ho
  clear h0 ho
  go_enter Try.func62, Try.ntmps62
  go_wp2_with fail
  obtain ⟨wo, hwo⟩ : ∃ wo, wo = w.alloc (.cells #[] 2) := ⟨_, rfl⟩
  have hEo : Ext w wo := by rw [hwo]; (repeat' (first | (with_reducible exact Ext.refl _) | (with_reducible assumption) | (with_reducible refine Ext.alloc ?_ _) | (with_reducible refine Ext.set ?_ ?_ _) | (with_reducible refine Ext.drewN ?_ _) | (with_reducible refine Ext.drew ?_) | (with_reducible refine Ext.trans ?_ (by with_reducible assumption)) | go_size))
  rw [← hwo]
  clear hwo
  go_loopw [3, 4] (fun t i wr => ∃ k : Nat, i = .int .i64 k ∧ k ≤ n ∧ (∃ A n c, t = .slice A n c ∧ n ≤ k ∧ Hid (n ≤ c ∧ c ≤ 9223372036854775807) ∧ Hid (n = (ng (o.take k)).length ∧ ∃ ys, RI wr A n ys ∧ ∀ y, y ∈ ys ↔ 0 ≤ y ∧ y < (n : Int))) ∧ Ext wo wr) (fun _ i _ => n - (intOf i).toNat)
  case atStart => exact ⟨0, rfl, Nat.zero_le _, ⟨_, 0, 0, rfl, Nat.le_refl _, Lib.hid ⟨by omega, by omega⟩, Lib.hid ⟨by simp [ng], [], RI.nil _ _, fun y => ⟨fun h => (by cases h), fun ⟨a, b⟩ => by omega⟩⟩⟩, Ext.refl _⟩
  case round =>
    obtain ⟨k, rfl, hk, ⟨A3, n3, c3, rfl, hn3, hc3, hY⟩, hE⟩ := hrel
    have hEw : Ext w wr := Ext.trans hEo hE
    by_cases hlt : k < n
    · obtain ⟨b, q, x, rfl, hx, hcx⟩ := RI.at_ (RI.ext HA.out hEw) hlt
      have HX := Lib.hid hx
      have hki : (k : Int) < (n : Int) := by omega
      have hk0 : (0 : Int) ≤ (k : Int) := by omega
      clear hx
      by_cases hx0 : x < 0
      · have hxe := ng_at HO.out HX.out hx0
        have HNG := Lib.hid (ng_neg HX.out hx0)
        have hcn := hY.out.1
        rw [← hcn] at hxe
        subst hxe
        obtain ⟨-, ys, hRY, hM⟩ := hY.out
        have hsub : IntKind.i64.wrap (-1 - -((n3 : Int) + 1)) = (n3 : Int) := by rw [show -1 - -((n3 : Int) + 1) = (n3 : Int) by omega]; exact IntWalk.i64_in _ (by omega)
        have hsub2 : -1 + ((n3 : Int) + 1) = (n3 : Int) := by omega
        have hwn : IntKind.i64.wrap (n3 : Int) = (n3 : Int) := IntWalk.i64_in _ (by omega)
        have HRY := Lib.hid hRY
        have HM := Lib.hid hM
        have HCN := Lib.hid hcn
        clear hRY hM hcn
        go_wp2_with fail
        (with_reducible refine (c_l1IntoN (x := (n3 : Int)) HRY.out hc3.out (by omega)).mono ?_)
        rintro e2 w2 ⟨A4, n4, c4, zs, rfl, hn4, hc4, hr4, hin, hE2⟩
        have hn4e : n4 = n3 + 1 := by
          have h1 := hn4 (fun h => by have := (HM.out _).1 h; omega)
          rw [HRY.out.len] at h1; exact h1
        subst hn4e
        have HN := Lib.hid (show n3 + 1 = (ng (o.take (k + 1))).length ∧ ∃ ys, RI w2 A4 (n3 + 1) ys ∧ ∀ y, y ∈ ys ↔ 0 ≤ y ∧ y < ((n3 + 1 : Nat) : Int) from
          ⟨by rw [HNG.out, List.length_append, ← HCN.out]; rfl, zs, hr4, mem_next HM.out hin⟩)
        have HC4 := Lib.hid hc4
        clear hr4 hin hc4 hn4
        go_wp2
        go_roundw
        case rel => exact ⟨k + 1, by go_num, by omega, ⟨A4, n3 + 1, c4, rfl, by omega, HC4, HN⟩, Ext.trans hE hE2⟩
        case measure => simp only [intOf]; omega
      · have HNG := Lib.hid (ng_pos HX.out hx0)
        have HN := Lib.hid (show n3 = (ng (o.take (k + 1))).length ∧ ∃ ys, RI wr A3 n3 ys ∧ ∀ y, y ∈ ys ↔ 0 ≤ y ∧ y < (n3 : Int) by rw [HNG.out]; exact hY.out)
        go_wp2
        go_roundw
        case rel => exact ⟨k + 1, by go_num, by omega, ⟨A3, n3, c3, rfl, by omega, hc3, HN⟩, hE⟩
        case measure => simp only [intOf]; omega
    · have hkn : k = n := by omega
      have hF : n3 = F := by
        have h1 := hY.out.1
        rw [List.take_of_length_le (by rw [HL.out]; omega), HO.out] at h1
        simpa using h1
      subst hF
      go_wp2
      go_ret
      exact ⟨A3, c3, rfl, hEw⟩
theorem OwI.one {w : World} {D : Nat} {x : Int} (hD : D ≤ w.heap.size) : OwI (w.alloc (.cells #[.int .i64 x] 2)) D (some ⟨w.heap.size, 0, none⟩) 1 1 [x] :=
  ⟨by omega, by simp, .inr ⟨w.heap.size, 1, #[.int .i64 x], rfl, hD, heap_alloc_new w _, Nat.le_refl _, by decide, rfl, rfl⟩⟩
theorem var_one {ar t : List Int} {x : Int} (h : TermP ar t) (hx : t[0]? = some x) (hn : x < 0) : t.length = 1 := by
  obtain ⟨k1, k2⟩ := tmOf_ok h
  cases hT : tmOf ar t with
  | node y us =>
    rw [hT] at k1 k2
    rw [← k2, flat_node] at hx
    have hyx : y = x := by simpa using hx
    subst hyx
    have h1 := (Ok_node.1 k1).1
    have h2 : us.length = 0 := by
      unfold arI at h1
      rw [if_pos hn] at h1
      simpa using h1.symm
    rw [← k2, flat_node, List.length_eq_zero_iff.1 h2]
    rfl
theorem next_neg (f : Nat) : Value.int .i64 (-((f : Int) + 1) - 1) = Value.int .i64 (-(((f + 1 : Nat) : Int) + 1)) := congrArg _ (by omega)
theorem OwI.cast {w : World} {D n c : Nat} {A A' : Option Addr} {xs : List Int} (h : OwI w D A n c xs) (e : A = A') : OwI w D A' n c xs := e ▸ h

end Go.Proofs.Ytdkiejhimmkocaa
