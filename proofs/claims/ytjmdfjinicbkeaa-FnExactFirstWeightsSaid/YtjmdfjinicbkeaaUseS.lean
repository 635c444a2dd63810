/- UsableOf of the reference. -/
import Derived.Test.YtjmdfjinicbkeaaMUse
import Derived.Test.YtjmdfjinicbkeaaSysOk
import Derived.Test.YtjmdfjinicbkeaaWin
-- rd: RdSyK
namespace Go.Proofs.Ytjmdfjinicbkeaa
open Go.RowKit
set_option linter.unusedSimpArgs false
set_option linter.unusedVariables false

theorem RI.takeU {w : World} {A : Option Addr} {n k : Nat} {xs : List Int} (h : RI w A n xs) (hk : k ≤ n) : RI w A k (xs.take k) := by
  refine ⟨⟨by rw [List.length_take, h.len]; omega, by have := h.le; omega⟩, fun h0 => ?_⟩
  obtain ⟨b, o, hA, hc⟩ := h.2 (by omega)
  refine ⟨b, o, hA, fun j x hx => hc j x ?_⟩
  rw [List.getElem?_take] at hx
  split at hx
  · exact hx
  · cases hx
theorem RI.dropU {w : World} {b o n k : Nat} {xs : List Int} (h : RI w (some ⟨b, o, none⟩) n xs) (hk : k ≤ n) : RI w (some ⟨b, o + k, none⟩) (n - k) (xs.drop k) := by
  refine ⟨⟨by rw [List.length_drop, h.len], by have := h.le; omega⟩, fun h0 => ?_⟩
  obtain ⟨b', o', e, hc⟩ := h.2 (by omega)
  cases e
  refine ⟨b, o + k, rfl, fun j x hx => ?_⟩
  rw [List.getElem?_drop] at hx
  rw [Nat.add_assoc]; exact hc _ x hx
/-- A rising list with a number more. -/
theorem inc_mid {xs : List Int} {x : Int} {k : Nat} (h : xs.Pairwise (· < ·)) (h1 : ∀ (j : Nat) (y : Int), j < k → xs[j]? = some y → y < x) (h2 : ∀ z, xs[k]? = some z → x < z) : ((xs.take k ++ [x]) ++ xs.drop k).Pairwise (· < ·) := by
  have hlo : ∀ a ∈ xs.take k, a < x := fun a ha => by
    obtain ⟨j, hj⟩ := List.getElem?_of_mem ha
    rw [List.getElem?_take] at hj
    split at hj
    · exact h1 j a (by assumption) hj
    · cases hj
  have hhi : ∀ b ∈ xs.drop k, x < b := fun b hb => by
    cases hd : xs.drop k with
    | nil => rw [hd] at hb; cases hb
    | cons z zs =>
      have hz : xs[k]? = some z := by
        have := congrArg (fun l => l[0]?) hd
        simpa [List.getElem?_drop] using this
      have hp : (xs.drop k).Pairwise (· < ·) := h.sublist (List.drop_sublist k xs)
      rw [hd] at hp hb
      rcases List.mem_cons.1 hb with rfl | hb
      · exact h2 _ hz
      · have := (List.pairwise_cons.1 hp).1 b hb
        have := h2 _ hz
        omega
  rw [List.append_assoc, List.pairwise_append]
  refine ⟨h.sublist (List.take_sublist k xs), ?_, fun a ha b hb => ?_⟩
  · rw [List.singleton_append, List.pairwise_cons]
    exact ⟨hhi, h.sublist (List.drop_sublist k xs)⟩
  · have := hlo a ha
    rcases List.mem_append.1 hb with hb | hb
    · rw [List.mem_singleton.1 hb]; exact this
    · have := hhi b hb; omega
theorem inc_into {xs ys : List Int} {x : Int} {k : Nat} (h : xs.Pairwise (· < ·)) (hy : ys.Pairwise (· < ·)) (hm : ∀ y, y ∈ ys ↔ y ∈ xs ∨ y = x) (h1 : ∀ (j : Nat) (y : Int), j < k → xs[j]? = some y → y < x) (h2 : ∀ z, xs[k]? = some z → x < z) :
    (xs.take k ++ [x]) ++ xs.drop k = ys := by
  refine inc_ext (inc_mid h h1 h2) hy fun a => ?_
  rw [hm]
  have e : a ∈ xs ↔ a ∈ xs.take k ∨ a ∈ xs.drop k := by rw [← List.mem_append, List.take_append_drop]
  rw [e]
  simp only [List.mem_append, List.mem_singleton]
  constructor
  · rintro ((h | h) | h)
    · exact .inl (.inl h)
    · exact .inr h
    · exact .inl (.inr h)
  · rintro ((h | h) | h)
    · exact .inl (.inl h)
    · exact .inr h
    · exact .inl (.inr h)
set_option maxRecDepth 100000 in
set_option maxHeartbeats 4000000 in
theorem c_l1IntoS {A : Option Addr} {n c : Nat} {xs ys : List Int} {x : Int} {w : World} (hys : ys.Pairwise (· < ·)) (hmem : ∀ y, y ∈ ys ↔ y ∈ xs ∨ y = x) (hinc : xs.Pairwise (· < ·)) (hnx : x ∉ xs) (h0 : RI w A n xs) (hc : n ≤ c ∧ c ≤ 9223372036854775807) (hn : n ≤ 100) :
    Calls Try.prog 158 #[.slice A n c, .int .i64 x] w (NewI w ys) := by
  have HYS := Lib.hid hys
  have HMEM := Lib.hid hmem
  have HINC := Lib.hid hinc
  have HNX := Lib.hid hnx
  clear hys hmem hinc hnx
  have hl := h0.len
  have HA := Lib.hid h0
  have HL := Lib.hid hl
  obtain ⟨i0, hii, hiz, his, hib⟩ := info_parts int64_info
  obtain ⟨hnc, hc63⟩ := hc
  clear h0 hl
  go_enter Try.func158, Try.ntmps158
  go_wp2
  go_loopw [5] (fun i wr => ∃ k : Nat, i = .int .i64 k ∧ k ≤ n ∧ Hid (∀ (j : Nat) (y : Int), j < k → xs[j]? = some y → y < x) ∧ Ext w wr) (fun i _ => n - (intOf i).toNat)
  case atStart => exact ⟨0, rfl, Nat.zero_le _, Lib.hid (fun j y hj => by omega), Ext.refl _⟩
  case round =>
    obtain ⟨k, rfl, hk, hp, hE⟩ := hrel
    have hk0 : (0 : Int) ≤ (k : Int) := by omega
    have hkc : (k : Int) ≤ (c : Int) := by omega
    have hkn : (k : Int) ≤ (n : Int) := by omega
    by_cases hlt : k < n
    · obtain ⟨b, o, z, rfl, hz, hcz⟩ := RI.at_ (RI.ext HA.out hE) hlt
      have hki : (k : Int) < (n : Int) := by omega
      have HZ := Lib.hid hz
      by_cases hzx : z < x
      · have HP := Lib.hid (show ∀ (j : Nat) (y : Int), j < k + 1 → xs[j]? = some y → y < x from fun j y hj e => by
          rcases Nat.lt_or_ge j k with h | h
          · exact hp.out j y h e
          · obtain rfl : j = k := by omega
            rw [HZ.out] at e; cases e; exact hzx)
        go_wp2
        go_roundw
        case rel => exact ⟨k + 1, by go_num, by omega, HP, hE⟩
        case measure => simp only [intOf]; omega
      · by_cases hze : z = x
        · exact absurd (by rw [← hze]; exact List.mem_of_getElem? hz) HNX.out
        · have hzb : (z == x) = false := by simpa using hze
          have HEQ := Lib.hid (inc_into (k := k) HINC.out HYS.out HMEM.out hp.out (fun z' hz' => by rw [hz] at hz'; cases hz'; omega))
          have HT := Lib.hid (RI.takeU (RI.ext HA.out hE) hk)
          have HD := Lib.hid (RI.dropU (RI.ext HA.out hE) hk)
          have hck : ¬ c = k := by omega
          go_wp2_with fail
          (with_reducible refine (c_l1Copy HT.out).mono ?_)
          rintro e2 w2 ⟨A2, n2, c2, rfl, hO2, hE2⟩
          have hn2 : n2 = k := by rw [← hO2.len, HT.out.len]
          subst hn2
          have HO2 := Lib.hid hO2
          have hsz2 := hE2.size
          clear hO2
          go_wp2_with (at_builtin; go_loud (refine wpList_append_lies _ rfl (.tmp 37) (.tmp 39) 22 rfl wr.heap.size 2 i0 (.int .i64 0) 1 8 Try.underlying22 hii hiz his hib rfl (by decide) _ _ _ rfl (OwI.alloc HO2.out _).2 ⟨w2.heap.size, 0, none⟩ 1 1 [.int .i64 x] rfl rfl (one_cells _ _ _) (one_one _) (by decide) (by unfold maxLen; omega) (by omega) (by go_size) _ rfl ?_))
          intro g cap w3 hown hg hat hltg
          have HO3 := Lib.hid (show OwI w3 wr.heap.size (some ⟨g, 0, none⟩) (n2 + 1) cap (xs.take n2 ++ [x]) from ⟨by omega, by simpa using hown⟩)
          have hob := OwI.ob2 HO2.out
          have hE3 : Ext wr w3 := Ext.grown (hE2.alloc _) hg (fun b hb => (hob b hb).1)
          clear hown hg hat hob
          have hcap3 := HO3.out.cap
          go_wp2_with (at_builtin; go_loud (refine wpList_append_ints rfl (.tmp 41) (.tmp 44) 22 rfl i0 Try.underlying22 hii hiz his hib (D := wr.heap.size) rfl HO3.out rfl (RI.ext HD.out hE3) (by omega) (by have := hE3.size; omega) hcap3.1 ?_))
          intro A4 c4 w4 hO4 hg4 hat4
          have HO4 := Lib.hid hO4
          have hob3 := OwI.ob2 HO3.out
          have hE4 : Ext wr w4 := Ext.grown hE3 hg4 (fun b hb => (hob3 b hb).1)
          clear hO4 hg4 hat4 hob3
          go_wp2
          go_ret
          exact ⟨A4, _, c4, rfl, by rw [← HEQ.out]; (first | exact HO4.out.lower (sz_of hE) | (rw [List.append_assoc, List.singleton_append]; exact HO4.out.lower (sz_of hE))), Ext.trans hE hE4⟩
    · have hkn' : k = n := by omega
      subst hkn'
      have HT := Lib.hid (RI.ext HA.out hE)
      have HEQ := Lib.hid (show xs ++ [x] = ys from by
        have h := inc_into (k := k) HINC.out HYS.out HMEM.out hp.out (fun z' hz' => by rw [List.getElem?_eq_none (by rw [HL.out]; exact Nat.le_refl _)] at hz'; cases hz')
        rwa [List.take_of_length_le (by rw [HL.out]; exact Nat.le_refl _), List.drop_of_length_le (by rw [HL.out]; exact Nat.le_refl _), List.append_nil] at h)
      go_wp2_with fail
      (with_reducible refine (c_l1Copy HT.out).mono ?_)
      rintro e2 w2 ⟨A2, n2, c2, rfl, hO2, hE2⟩
      have hn2 : n2 = k := by rw [← hO2.len, HT.out.len]
      subst hn2
      have HO2 := Lib.hid hO2
      have hsz2 := hE2.size
      clear hO2
      go_wp2_with (at_builtin; go_loud (refine wpList_append_lies _ rfl (.tmp 37) (.tmp 39) 22 rfl wr.heap.size 2 i0 (.int .i64 0) 1 8 Try.underlying22 hii hiz his hib rfl (by decide) _ _ _ rfl (OwI.alloc HO2.out _).2 ⟨w2.heap.size, 0, none⟩ 1 1 [.int .i64 x] rfl rfl (one_cells _ _ _) (one_one _) (by decide) (by unfold maxLen; omega) (by omega) (by go_size) _ rfl ?_))
      intro g cap w3 hown hg hat hltg
      have HO3 := Lib.hid (show OwI w3 wr.heap.size (some ⟨g, 0, none⟩) (n2 + 1) cap (xs ++ [x]) from ⟨by omega, by simpa using hown⟩)
      have hob := OwI.ob2 HO2.out
      have hE3 : Ext wr w3 := Ext.grown (hE2.alloc _) hg (fun b hb => (hob b hb).1)
      clear hown hg hat hob
      by_cases hcn : c = n2
      · subst hcn
        have hcap3 := HO3.out.cap
        go_wp2_with (at_builtin; go_loud (refine wpList_append_ints rfl (.tmp 41) (.tmp 44) 22 rfl i0 Try.underlying22 hii hiz his hib (D := wr.heap.size) rfl HO3.out rfl (RI.nil _ _) (by omega) (by have := hE3.size; omega) hcap3.1 ?_))
        intro A4 c4 w4 hO4 hg4 hat4
        have HO4 := Lib.hid hO4
        have hob3 := OwI.ob2 HO3.out
        have hE4 : Ext wr w4 := Ext.grown hE3 hg4 (fun b hb => (hob3 b hb).1)
        clear hO4 hg4 hat4 hob3
        go_wp2
        go_ret
        exact ⟨A4, _, c4, rfl, by rw [← HEQ.out]; (first | exact HO4.out.lower (sz_of hE) | (rw [List.append_assoc, List.singleton_append]; exact HO4.out.lower (sz_of hE))), Ext.trans hE hE4⟩
      · have hlc : n2 < c := by omega
        cases A with
        | none =>
          have hcap3 := HO3.out.cap
          go_wp2_with (at_builtin; go_loud (refine wpList_append_ints rfl (.tmp 41) (.tmp 44) 22 rfl i0 Try.underlying22 hii hiz his hib (D := wr.heap.size) rfl HO3.out rfl (RI.nil _ _) (by omega) (by have := hE3.size; omega) hcap3.1 ?_))
          intro A4 c4 w4 hO4 hg4 hat4
          have HO4 := Lib.hid hO4
          have hob3 := OwI.ob2 HO3.out
          have hE4 : Ext wr w4 := Ext.grown hE3 hg4 (fun b hb => (hob3 b hb).1)
          clear hO4 hg4 hat4 hob3
          go_wp2
          go_ret
          exact ⟨A4, _, c4, rfl, by rw [← HEQ.out]; (first | exact HO4.out.lower (sz_of hE) | (rw [List.append_assoc, List.singleton_append]; exact HO4.out.lower (sz_of hE))), Ext.trans hE hE4⟩
        | some p =>
          have hcap3 := HO3.out.cap
          go_wp2_with (at_builtin; go_loud (refine wpList_append_ints rfl (.tmp 41) (.tmp 44) 22 rfl i0 Try.underlying22 hii hiz his hib (D := wr.heap.size) rfl HO3.out rfl (RI.nil _ _) (by omega) (by have := hE3.size; omega) hcap3.1 ?_))
          intro A4 c4 w4 hO4 hg4 hat4
          have HO4 := Lib.hid hO4
          have hob3 := OwI.ob2 HO3.out
          have hE4 : Ext wr w4 := Ext.grown hE3 hg4 (fun b hb => (hob3 b hb).1)
          clear hO4 hg4 hat4 hob3
          go_wp2
          go_ret
          exact ⟨A4, _, c4, rfl, by rw [← HEQ.out]; (first | exact HO4.out.lower (sz_of hE) | (rw [List.append_assoc, List.singleton_append]; exact HO4.out.lower (sz_of hE))), Ext.trans hE hE4⟩

end Go.Proofs.Ytjmdfjinicbkeaa
