/- UsableOf of the reference. -/
import Derived.Test.YtkdopciihhhdkaaMUse
import Derived.Test.YtkdopciihhhdkaaSysOk
import Derived.Test.YtkdopciihhhdkaaWin
-- rd: RdSyK
namespace Go.Proofs.Ytkdopciihhhdkaa
open Go.RowKit
set_option linter.unusedSimpArgs false
set_option linter.unusedVariables false

theorem RI.takeU {w : World} {A : Option Addr} {n k : Nat} {xs : List Int} (h : RI w A n xs) (hk : k ≤ n) : RI w A k (xs.take k) := by
  refine ⟨⟨by rw [List.length_take, h.len]; omega, by have := h.le; omega⟩, fun h0 => ?_⟩
  obtain ⟨b, o, hA, hc⟩ := h.2 (by omega)
  refine ⟨b, o, hA, fun j x hx => hc j x ?_⟩
  rw [List.getElem?_take] at hx
  split at hx
  · exact hx
  · cases hx
theorem RI.dropU {w : World} {b o n k : Nat} {xs : List Int} (h : RI w (some ⟨b, o, none⟩) n xs) (hk : k ≤ n) : RI w (some ⟨b, o + k, none⟩) (n - k) (xs.drop k) := by
  refine ⟨⟨by rw [List.length_drop, h.len], by have := h.le; omega⟩, fun h0 => ?_⟩
  obtain ⟨b', o', e, hc⟩ := h.2 (by omega)
  cases e
  refine ⟨b, o + k, rfl, fun j x hx => ?_⟩
  rw [List.getElem?_drop] at hx
  rw [Nat.add_assoc]; exact hc _ x hx
/-- A rising list with a number more. -/
theorem inc_mid {xs : List Int} {x : Int} {k : Nat} (h : xs.Pairwise (· < ·)) (h1 : ∀ (j : Nat) (y : Int), j < k → xs[j]? = some y → y < x) (h2 : ∀ z, xs[k]? = some z → x < z) : ((xs.take k ++ [x]) ++ xs.drop k).Pairwise (· < ·) := by
  have hlo : ∀ a ∈ xs.take k, a < x := fun a ha => by
    obtain ⟨j, hj⟩ := List.getElem?_of_mem ha
    rw [List.getElem?_take] at hj
    split at hj
    · exact h1 j a (by assumption) hj
    · cases hj
  have hhi : ∀ b ∈ xs.drop k, x < b := fun b hb => by
    cases hd : xs.drop k with
    | nil => rw [hd] at hb; cases hb
    | cons z zs =>
      have hz : xs[k]? = some z := by
        have := congrArg (fun l => l[0]?) hd
        simpa [List.getElem?_drop] using this
      have hp : (xs.drop k).Pairwise (· < ·) := h.sublist (List.drop_sublist k xs)
      rw [hd] at hp hb
      rcases List.mem_cons.1 hb with rfl | hb
      · exact h2 _ hz
      · have := (List.pairwise_cons.1 hp).1 b hb
        have := h2 _ hz
        omega
  rw [List.append_assoc, List.pairwise_append]
  refine ⟨h.sublist (List.take_sublist k xs), ?_, fun a ha b hb => ?_⟩
  · rw [List.singleton_append, List.pairwise_cons]
    exact ⟨hhi, h.sublist (List.drop_sublist k xs)⟩
  · have := hlo a ha
    rcases List.mem_append.1 hb with hb | hb
    · rw [List.mem_singleton.1 hb]; exact this
    · have := hhi b hb; omega
theorem inc_into {xs ys : List Int} {x : Int} {k : Nat} (h : xs.Pairwise (· < ·)) (hy : ys.Pairwise (· < ·)) (hm : ∀ y, y ∈ ys ↔ y ∈ xs ∨ y = x) (h1 : ∀ (j : Nat) (y : Int), j < k → xs[j]? = some y → y < x) (h2 : ∀ z, xs[k]? = some z → x < z) :
    (xs.take k ++ [x]) ++ xs.drop k = ys := by
  refine inc_ext (inc_mid h h1 h2) hy fun a => ?_
  rw [hm]
  have e : a ∈ xs ↔ a ∈ xs.take k ∨ a ∈ xs.drop k := by rw [← List.mem_append, List.take_append_drop]
  rw [e]
  simp only [List.mem_append, List.mem_singleton]
  constructor
  · rintro ((h | h) | h)
    · exact .inl (.inl h)
    · exact .inr h
    · exact .inl (.inr h)
  · rintro ((h | h) | h)
    · exact .inl (.inl h)
    · exact .inr h
    · exact .inl (.inr h)
set_option maxRecDepth 100000 in
set_option maxHeartbeats 4000000 in
theorem c_l1IntoS {A : Option Addr} {n c : Nat} {xs ys : List Int} {x : Int} {w : World} (hys : ys.Pairwise (· < ·)) (hmem : ∀ y, y ∈ ys ↔ y ∈ xs ∨ y = x) (hinc : xs.Pairwise (· < ·)) (hnx : x ∉ xs) (h0 : RI w A n xs) (hc : n ≤ c ∧ c ≤ 9223372036854775807) (hn : n ≤ 100) :
    Calls Try.prog 40 #[.slice A n c, .int .i64 x] w (NewI w ys) := by
  have HYS := Lib.hid hys
  have HMEM := Lib.hid hmem
  have HINC := Lib.hid hinc
  have HNX := Lib.hid hnx
  clear hys hmem hinc hnx
  have hl := h0.len
  have HA := Lib.hid h0
  have HL := Lib.hid hl
  obtain ⟨i0, hii, hiz, his, hib⟩ := info_parts int64_info
  obtain ⟨hnc, hc63⟩ := hc
  clear h0 hl
  go_enter Try.func40, Try.ntmps40
  go_wp2
  go_loopw [5] (fun i wr => ∃ k : Nat, i = .int .i64 k ∧ k ≤ n ∧ Hid (∀ (j : Nat) (y : Int), j < k → xs[j]? = some y → y < x) ∧ Ext w wr) (fun i _ => n - (intOf i).toNat)
  case atStart => exact ⟨0, rfl, Nat.zero_le _, Lib.hid (fun j y hj => by omega), Ext.refl _⟩
  case round =>
    obtain ⟨k, rfl, hk, hp, hE⟩ := hrel
    have hk0 : (0 : Int) ≤ (k : Int) := by omega
    have hkc : (k : Int) ≤ (c : Int) := by omega
    have hkn : (k : Int) ≤ (n : Int) := by omega
    by_cases hlt : k < n
    · obtain ⟨b, o, z, rfl, hz, hcz⟩ := RI.at_ (RI.ext HA.out hE) hlt
      have hki : (k : Int) < (n : Int) := by omega
      have HZ := Lib.hid hz
      by_cases hzx : z < x
      · have HP := Lib.hid (show ∀ (j : Nat) (y : Int), j < k + 1 → xs[j]? = some y → y < x from fun j y hj e => by
          rcases Nat.lt_or_ge j k with h | h
          · exact hp.out j y h e
          · obtain rfl : j = k := by omega
            rw [HZ.out] at e; cases e; exact hzx)
        go_wp2
        go_roundw
        case rel => exact ⟨k + 1, by go_num, by omega, HP, hE⟩
        case measure => simp only [intOf]; omega
      · by_cases hze : z = x
        · exact absurd (by rw [← hze]; exact List.mem_of_getElem? hz) HNX.out
        · have hzb : (z == x) = false := by simpa using hze
          have HEQ := Lib.hid (inc_into (k := k) HINC.out HYS.out HMEM.out hp.out (fun z' hz' => by rw [hz] at hz'; cases hz'; omega))
          have HT := Lib.hid (RI.takeU (RI.ext HA.out hE) hk)
          have HD := Lib.hid (RI.dropU (RI.ext HA.out hE) hk)
          have hck : ¬ c = k := by omega
          go_wp2_with fail
          (with_reducible refine (c_l1Copy HT.out).mono ?_)
          rintro e2 w2 ⟨A2, n2, c2, rfl, hO2, hE2⟩
          have hn2 : n2 = k := by rw [← hO2.len, HT.out.len]
          subst hn2
          have HO2 := Lib.hid hO2
          have hsz2 := hE2.size
          clear hO2
          go_wp2_with (at_builtin; go_loud (refine wpList_append_lies _ rfl (.tmp 37) (.tmp 39) 22 rfl wr.heap.size 2 i0 (.int .i64 0) 1 8 Try.underlying22 hii hiz his hib rfl (by decide) _ _ _ rfl (OwI.alloc HO2.out _).2 ⟨w2.heap.size, 0, none⟩ 1 1 [.int .i64 x] rfl rfl (one_cells _ _ _) (one_one _) (by decide) (by unfold maxLen; omega) (by omega) (by go_size) _ rfl ?_))
          intro g cap w3 hown hg hat hltg
          have HO3 := Lib.hid (show OwI w3 wr.heap.size (some ⟨g, 0, none⟩) (n2 + 1) cap (xs.take n2 ++ [x]) from ⟨by omega, by simpa using hown⟩)
          have hob := OwI.ob2 HO2.out
          have hE3 : Ext wr w3 := Ext.grown (hE2.alloc _) hg (fun b hb => (hob b hb).1)
          clear hown hg hat hob
          have hcap3 := HO3.out.cap
          go_wp2_with (at_builtin; go_loud (refine wpList_append_ints rfl (.tmp 41) (.tmp 44) 22 rfl i0 Try.underlying22 hii hiz his hib (D := wr.heap.size) rfl HO3.out rfl (RI.ext HD.out hE3) (by omega) (by have := hE3.size; omega) hcap3.1 ?_))
          intro A4 c4 w4 hO4 hg4 hat4
          have HO4 := Lib.hid hO4
          have hob3 := OwI.ob2 HO3.out
          have hE4 : Ext wr w4 := Ext.grown hE3 hg4 (fun b hb => (hob3 b hb).1)
          clear hO4 hg4 hat4 hob3
          go_wp2
          go_ret
          exact ⟨A4, _, c4, rfl, by rw [← HEQ.out]; (first | exact HO4.out.lower (sz_of hE) | (rw [List.append_assoc, List.singleton_append]; exact HO4.out.lower (sz_of hE))), Ext.trans hE hE4⟩
    · have hkn' : k = n := by omega
      subst hkn'
      have HT := Lib.hid (RI.ext HA.out hE)
      have HEQ := Lib.hid (show xs ++ [x] = ys from by
        have h := inc_into (k := k) HINC.out HYS.out HMEM.out hp.out (fun z' hz' => by rw [List.getElem?_eq_none (by rw [HL.out]; exact Nat.le_refl _)] at hz'; cases hz')
        rwa [List.take_of_length_le (by rw [HL.out]; exact Nat.le_refl _), List.drop_of_length_le (by rw [HL.out]; exact Nat.le_refl _), List.append_nil] at h)
      go_wp2_with fail
      (with_reducible refine (c_l1Copy HT.out).mono ?_)
      rintro e2 w2 ⟨A2, n2, c2, rfl, hO2, hE2⟩
      have hn2 : n2 = k := by rw [← hO2.len, HT.out.len]
      subst hn2
      have HO2 := Lib.hid hO2
      have hsz2 := hE2.size
      clear hO2
      go_wp2_with (at_builtin; go_loud (refine wpList_append_lies _ rfl (.tmp 37) (.tmp 39) 22 rfl wr.heap.size 2 i0 (.int .i64 0) 1 8 Try.underlying22 hii hiz his hib rfl (by decide) _ _ _ rfl (OwI.alloc HO2.out _).2 ⟨w2.heap.size, 0, none⟩ 1 1 [.int .i64 x] rfl rfl (one_cells _ _ _) (one_one _) (by decide) (by unfold maxLen; omega) (by omega) (by go_size) _ rfl ?_))
      intro g cap w3 hown hg hat hltg
      have HO3 := Lib.hid (show OwI w3 wr.heap.size (some ⟨g, 0, none⟩) (n2 + 1) cap (xs ++ [x]) from ⟨by omega, by simpa using hown⟩)
      have hob := OwI.ob2 HO2.out
      have hE3 : Ext wr w3 := Ext.grown (hE2.alloc _) hg (fun b hb => (hob b hb).1)
      clear hown hg hat hob
      by_cases hcn : c = n2
      · subst hcn
        have hcap3 := HO3.out.cap
        go_wp2_with (at_builtin; go_loud (refine wpList_append_ints rfl (.tmp 41) (.tmp 44) 22 rfl i0 Try.underlying22 hii hiz his hib (D := wr.heap.size) rfl HO3.out rfl (RI.nil _ _) (by omega) (by have := hE3.size; omega) hcap3.1 ?_))
        intro A4 c4 w4 hO4 hg4 hat4
        have HO4 := Lib.hid hO4
        have hob3 := OwI.ob2 HO3.out
        have hE4 : Ext wr w4 := Ext.grown hE3 hg4 (fun b hb => (hob3 b hb).1)
        clear hO4 hg4 hat4 hob3
        go_wp2
        go_ret
        exact ⟨A4, _, c4, rfl, by rw [← HEQ.out]; (first | exact HO4.out.lower (sz_of hE) | (rw [List.append_assoc, List.singleton_append]; exact HO4.out.lower (sz_of hE))), Ext.trans hE hE4⟩
      · have hlc : n2 < c := by omega
        cases A with
        | none =>
          have hcap3 := HO3.out.cap
          go_wp2_with (at_builtin; go_loud (refine wpList_append_ints rfl (.tmp 41) (.tmp 44) 22 rfl i0 Try.underlying22 hii hiz his hib (D := wr.heap.size) rfl HO3.out rfl (RI.nil _ _) (by omega) (by have := hE3.size; omega) hcap3.1 ?_))
          intro A4 c4 w4 hO4 hg4 hat4
          have HO4 := Lib.hid hO4
          have hob3 := OwI.ob2 HO3.out
          have hE4 : Ext wr w4 := Ext.grown hE3 hg4 (fun b hb => (hob3 b hb).1)
          clear hO4 hg4 hat4 hob3
          go_wp2
          go_ret
          exact ⟨A4, _, c4, rfl, by rw [← HEQ.out]; (first | exact HO4.out.lower (sz_of hE) | (rw [List.append_assoc, List.singleton_append]; exact HO4.out.lower (sz_of hE))), Ext.trans hE hE4⟩
        | some p =>
          have hcap3 := HO3.out.cap
          go_wp2_with (at_builtin; go_loud (refine wpList_append_ints rfl (.tmp 41) (.tmp 44) 22 rfl i0 Try.underlying22 hii hiz his hib (D := wr.heap.size) rfl HO3.out rfl (RI.nil _ _) (by omega) (by have := hE3.size; omega) hcap3.1 ?_))
          intro A4 c4 w4 hO4 hg4 hat4
          have HO4 := Lib.hid hO4
          have hob3 := OwI.ob2 HO3.out
          have hE4 : Ext wr w4 := Ext.grown hE3 hg4 (fun b hb => (hob3 b hb).1)
          clear hO4 hg4 hat4 hob3
          go_wp2
          go_ret
          exact ⟨A4, _, c4, rfl, by rw [← HEQ.out]; (first | exact HO4.out.lower (sz_of hE) | (rw [List.append_assoc, List.singleton_append]; exact HO4.out.lower (sz_of hE))), Ext.trans hE hE4⟩
/-- Two slices that do not lie in one block. -/
def ApartU (A A' : Option Addr) : Prop := ∀ g o s g' o' s', A = some ⟨g, o, s⟩ → A' = some ⟨g', o', s'⟩ → g ≠ g'
theorem useOut_mark {us : List Bool} {k m : Nat} (hk : k < m) (hu : us[k]? = some false) : ∀ y, y ∈ useOut (us.set k true) m ↔ y ∈ useOut us m ∨ y = (k : Int) := by
  intro y
  have hl : k < us.length := (List.getElem?_eq_some_iff.1 hu).1
  rw [useOut_mem, useOut_mem]
  constructor
  · rintro ⟨j, rfl, hj, h⟩
    by_cases e : j = k
    · exact .inr (by rw [e])
    · rw [List.getElem?_set_ne (by omega)] at h; exact .inl ⟨j, rfl, hj, h⟩
  · rintro (⟨j, rfl, hj, h⟩ | rfl)
    · by_cases e : j = k
      · subst e; rw [hu] at h; cases h
      · exact ⟨j, rfl, hj, by rw [List.getElem?_set_ne (by omega)]; exact h⟩
    · exact ⟨k, rfl, hk, by rw [List.getElem?_set_self hl]⟩
theorem useOut_has {us : List Bool} {k m : Nat} {b : Bool} (hk : k < m) (hu : us[k]? = some b) : decide ((k : Int) ∈ useOut us m) = b := by
  cases b with
  | true => exact decide_eq_true (useOut_mem.2 ⟨k, rfl, hk, hu⟩)
  | false =>
    refine decide_eq_false fun h => ?_
    obtain ⟨j, e, _, h2⟩ := useOut_mem.1 h
    obtain rfl : j = k := by omega
    rw [hu] at h2; cases h2
theorem useOut_none (m k : Nat) : useOut (List.replicate m false) k = [] := by
  refine List.eq_nil_iff_forall_not_mem.2 fun y hy => ?_
  obtain ⟨j, _, _, h⟩ := useOut_mem.1 hy
  rw [List.getElem?_replicate] at h
  split at h <;> cases h
theorem OwI.none1 {w : World} {o : Obj} : OwI ((w.alloc o).alloc (.cells #[] 2)) w.heap.size (some ⟨w.heap.size + 1, 0, none⟩) 0 0 [] := by
  have h := OwI.none0 (w := w.alloc o) (D := w.heap.size) (by rw [World.size_alloc]; omega)
  rwa [World.size_alloc] at h
theorem l1Has_is {v : Value} {t : List Int} {x : Int} {b : Bool} {w : World} (hb : decide (x ∈ t) = b) (h0 : RdI w v t) :
    Calls Try.prog 39 #[v, .int .i64 x] w fun e w' => e = .returned (.bool b) ∧ w' = w := by subst hb; exact q_l1Has h0
set_option maxRecDepth 100000 in
set_option maxHeartbeats 4000000 in
theorem c_sUsableOf {v0 v1 : Value} {s : Sy} {t : List Int} {w : World} (h0 : RdSyC w v0 s) (h1 : RdIc w v1 t) :
    Calls Try.prog 10 #[v0, v1] w (NewI w (useV s t)) := by
  obtain ⟨A, n, c, B, m, d, rfl, ha, hb⟩ := h0
  obtain ⟨D, q, l, rfl, hcap, hd⟩ := h1
  have HA := Lib.hid ha
  have HB := Lib.hid hb
  have HD := Lib.hid hd
  have HDL := Lib.hid hd.len
  have HML := Lib.hid hb.len
  clear ha hb hd
  cases hs : sysOk s with
  | false =>
    have HR := Lib.hid (useV_sys (t := t) hs)
    go_enter Try.func10, Try.ntmps10
    go_wp2_with (go_at_call 36; (with_reducible refine (c_sSystemOk (s := s) (by (first | (first | (with_reducible exact RdI.mk (RI.ext (Hid.out (by with_reducible assumption)) (by (repeat' (first | (with_reducible exact Ext.refl _) | (with_reducible assumption) | (with_reducible refine Ext.alloc ?_ _) | (with_reducible refine Ext.set ?_ ?_ _) | (with_reducible refine Ext.drewN ?_ _) | (with_reducible refine Ext.drew ?_) | (with_reducible refine Ext.trans ?_ (by with_reducible assumption)) | go_size))))) | (with_reducible exact RdI.ext (by with_reducible assumption) (by (repeat' (first | (with_reducible exact Ext.refl _) | (with_reducible assumption) | (with_reducible refine Ext.alloc ?_ _) | (with_reducible refine Ext.set ?_ ?_ _) | (with_reducible refine Ext.drewN ?_ _) | (with_reducible refine Ext.drew ?_) | (with_reducible refine Ext.trans ?_ (by with_reducible assumption)) | go_size))))) | (with_reducible exact RdSyK.mk (by (first | (with_reducible exact RI.ext (Hid.out (by with_reducible assumption)) (by (repeat' (first | (with_reducible exact Ext.refl _) | (with_reducible assumption) | (with_reducible refine Ext.alloc ?_ _) | (with_reducible refine Ext.set ?_ ?_ _) | (with_reducible refine Ext.drewN ?_ _) | (with_reducible refine Ext.drew ?_) | (with_reducible refine Ext.trans ?_ (by with_reducible assumption)) | go_size)))))) (RR.ext (Hid.out (by with_reducible assumption)) (by (repeat' (first | (with_reducible exact Ext.refl _) | (with_reducible assumption) | (with_reducible refine Ext.alloc ?_ _) | (with_reducible refine Ext.set ?_ ?_ _) | (with_reducible refine Ext.drewN ?_ _) | (with_reducible refine Ext.drew ?_) | (with_reducible refine Ext.trans ?_ (by with_reducible assumption)) | go_size))))) | (with_reducible exact RdSyK.ext (by with_reducible assumption) (by (repeat' (first | (with_reducible exact Ext.refl _) | (with_reducible assumption) | (with_reducible refine Ext.alloc ?_ _) | (with_reducible refine Ext.set ?_ ?_ _) | (with_reducible refine Ext.drewN ?_ _) | (with_reducible refine Ext.drew ?_) | (with_reducible refine Ext.trans ?_ (by with_reducible assumption)) | go_size)))) | (with_reducible exact RdSig.mk (by (first | (with_reducible exact RI.ext (Hid.out (by with_reducible assumption)) (by (repeat' (first | (with_reducible exact Ext.refl _) | (with_reducible assumption) | (with_reducible refine Ext.alloc ?_ _) | (with_reducible refine Ext.set ?_ ?_ _) | (with_reducible refine Ext.drewN ?_ _) | (with_reducible refine Ext.drew ?_) | (with_reducible refine Ext.trans ?_ (by with_reducible assumption)) | go_size))))))) | (with_reducible exact RdSig.ext (by with_reducible assumption) (by (repeat' (first | (with_reducible exact Ext.refl _) | (with_reducible assumption) | (with_reducible refine Ext.alloc ?_ _) | (with_reducible refine Ext.set ?_ ?_ _) | (with_reducible refine Ext.drewN ?_ _) | (with_reducible refine Ext.drew ?_) | (with_reducible refine Ext.trans ?_ (by with_reducible assumption)) | go_size))))))).mono ?_); rintro e w1 ⟨rfl, hE1⟩; have hz1 := sz_of hE1; (try simp only [World.size_alloc, World.size_setCell, World.size_drew] at hz1); obtain ⟨hc1, hf1⟩ := bcell hE1; (try have hq1_0 : w.heap.size < w1.heap.size := by omega); (try have hq1_1 : w.heap.size + 1 < w1.heap.size := by omega); (try have hq1_2 : w.heap.size + 1 + 1 < w1.heap.size := by omega); (try have hq1_3 : w.heap.size + 1 + 1 + 1 < w1.heap.size := by omega); (try have hq1_4 : w.heap.size + 1 + 1 + 1 + 1 < w1.heap.size := by omega); (try have hq1_5 : w.heap.size + 1 + 1 + 1 + 1 + 1 < w1.heap.size := by omega))
    go_ret
    exact ⟨_, 0, 0, rfl, by rw [HR.out]; exact OwI.none1.ext (by (repeat' (first | (with_reducible exact Ext.refl _) | (with_reducible assumption) | (with_reducible refine Ext.alloc ?_ _) | (with_reducible refine Ext.set ?_ ?_ _) | (with_reducible refine Ext.drewN ?_ _) | (with_reducible refine Ext.drew ?_) | (with_reducible refine Ext.trans ?_ (by with_reducible assumption)) | go_size))), by (repeat' (first | (with_reducible exact Ext.refl _) | (with_reducible assumption) | (with_reducible refine Ext.alloc ?_ _) | (with_reducible refine Ext.set ?_ ?_ _) | (with_reducible refine Ext.drewN ?_ _) | (with_reducible refine Ext.drew ?_) | (with_reducible refine Ext.trans ?_ (by with_reducible assumption)) | go_size))⟩
  | true =>
    cases ht : termOk s.ar t with
    | false =>
      have HR := Lib.hid (useV_term (s := s) ht)
      go_enter Try.func10, Try.ntmps10
      go_wp2_with (first
        | (go_at_call 36; (with_reducible refine (c_sSystemOk (s := s) (by (first | (first | (with_reducible exact RdI.mk (RI.ext (Hid.out (by with_reducible assumption)) (by (repeat' (first | (with_reducible exact Ext.refl _) | (with_reducible assumption) | (with_reducible refine Ext.alloc ?_ _) | (with_reducible refine Ext.set ?_ ?_ _) | (with_reducible refine Ext.drewN ?_ _) | (with_reducible refine Ext.drew ?_) | (with_reducible refine Ext.trans ?_ (by with_reducible assumption)) | go_size))))) | (with_reducible exact RdI.ext (by with_reducible assumption) (by (repeat' (first | (with_reducible exact Ext.refl _) | (with_reducible assumption) | (with_reducible refine Ext.alloc ?_ _) | (with_reducible refine Ext.set ?_ ?_ _) | (with_reducible refine Ext.drewN ?_ _) | (with_reducible refine Ext.drew ?_) | (with_reducible refine Ext.trans ?_ (by with_reducible assumption)) | go_size))))) | (with_reducible exact RdSyK.mk (by (first | (with_reducible exact RI.ext (Hid.out (by with_reducible assumption)) (by (repeat' (first | (with_reducible exact Ext.refl _) | (with_reducible assumption) | (with_reducible refine Ext.alloc ?_ _) | (with_reducible refine Ext.set ?_ ?_ _) | (with_reducible refine Ext.drewN ?_ _) | (with_reducible refine Ext.drew ?_) | (with_reducible refine Ext.trans ?_ (by with_reducible assumption)) | go_size)))))) (RR.ext (Hid.out (by with_reducible assumption)) (by (repeat' (first | (with_reducible exact Ext.refl _) | (with_reducible assumption) | (with_reducible refine Ext.alloc ?_ _) | (with_reducible refine Ext.set ?_ ?_ _) | (with_reducible refine Ext.drewN ?_ _) | (with_reducible refine Ext.drew ?_) | (with_reducible refine Ext.trans ?_ (by with_reducible assumption)) | go_size))))) | (with_reducible exact RdSyK.ext (by with_reducible assumption) (by (repeat' (first | (with_reducible exact Ext.refl _) | (with_reducible assumption) | (with_reducible refine Ext.alloc ?_ _) | (with_reducible refine Ext.set ?_ ?_ _) | (with_reducible refine Ext.drewN ?_ _) | (with_reducible refine Ext.drew ?_) | (with_reducible refine Ext.trans ?_ (by with_reducible assumption)) | go_size)))) | (with_reducible exact RdSig.mk (by (first | (with_reducible exact RI.ext (Hid.out (by with_reducible assumption)) (by (repeat' (first | (with_reducible exact Ext.refl _) | (with_reducible assumption) | (with_reducible refine Ext.alloc ?_ _) | (with_reducible refine Ext.set ?_ ?_ _) | (with_reducible refine Ext.drewN ?_ _) | (with_reducible refine Ext.drew ?_) | (with_reducible refine Ext.trans ?_ (by with_reducible assumption)) | go_size))))))) | (with_reducible exact RdSig.ext (by with_reducible assumption) (by (repeat' (first | (with_reducible exact Ext.refl _) | (with_reducible assumption) | (with_reducible refine Ext.alloc ?_ _) | (with_reducible refine Ext.set ?_ ?_ _) | (with_reducible refine Ext.drewN ?_ _) | (with_reducible refine Ext.drew ?_) | (with_reducible refine Ext.trans ?_ (by with_reducible assumption)) | go_size))))))).mono ?_); rintro e w1 ⟨rfl, hE1⟩; have hz1 := sz_of hE1; (try simp only [World.size_alloc, World.size_setCell, World.size_drew] at hz1); obtain ⟨hc1, hf1⟩ := bcell hE1; (try have hq1_0 : w.heap.size < w1.heap.size := by omega); (try have hq1_1 : w.heap.size + 1 < w1.heap.size := by omega); (try have hq1_2 : w.heap.size + 1 + 1 < w1.heap.size := by omega); (try have hq1_3 : w.heap.size + 1 + 1 + 1 < w1.heap.size := by omega); (try have hq1_4 : w.heap.size + 1 + 1 + 1 + 1 < w1.heap.size := by omega); (try have hq1_5 : w.heap.size + 1 + 1 + 1 + 1 + 1 < w1.heap.size := by omega))
        | (go_at_call 37; (with_reducible refine (c_sTermOk (ar := s.ar) (t := t) (by (first | (first | (with_reducible exact RdI.mk (RI.ext (Hid.out (by with_reducible assumption)) (by (repeat' (first | (with_reducible exact Ext.refl _) | (with_reducible assumption) | (with_reducible refine Ext.alloc ?_ _) | (with_reducible refine Ext.set ?_ ?_ _) | (with_reducible refine Ext.drewN ?_ _) | (with_reducible refine Ext.drew ?_) | (with_reducible refine Ext.trans ?_ (by with_reducible assumption)) | go_size))))) | (with_reducible exact RdI.ext (by with_reducible assumption) (by (repeat' (first | (with_reducible exact Ext.refl _) | (with_reducible assumption) | (with_reducible refine Ext.alloc ?_ _) | (with_reducible refine Ext.set ?_ ?_ _) | (with_reducible refine Ext.drewN ?_ _) | (with_reducible refine Ext.drew ?_) | (with_reducible refine Ext.trans ?_ (by with_reducible assumption)) | go_size))))) | (with_reducible exact RdSyK.mk (by (first | (with_reducible exact RI.ext (Hid.out (by with_reducible assumption)) (by (repeat' (first | (with_reducible exact Ext.refl _) | (with_reducible assumption) | (with_reducible refine Ext.alloc ?_ _) | (with_reducible refine Ext.set ?_ ?_ _) | (with_reducible refine Ext.drewN ?_ _) | (with_reducible refine Ext.drew ?_) | (with_reducible refine Ext.trans ?_ (by with_reducible assumption)) | go_size)))))) (RR.ext (Hid.out (by with_reducible assumption)) (by (repeat' (first | (with_reducible exact Ext.refl _) | (with_reducible assumption) | (with_reducible refine Ext.alloc ?_ _) | (with_reducible refine Ext.set ?_ ?_ _) | (with_reducible refine Ext.drewN ?_ _) | (with_reducible refine Ext.drew ?_) | (with_reducible refine Ext.trans ?_ (by with_reducible assumption)) | go_size))))) | (with_reducible exact RdSyK.ext (by with_reducible assumption) (by (repeat' (first | (with_reducible exact Ext.refl _) | (with_reducible assumption) | (with_reducible refine Ext.alloc ?_ _) | (with_reducible refine Ext.set ?_ ?_ _) | (with_reducible refine Ext.drewN ?_ _) | (with_reducible refine Ext.drew ?_) | (with_reducible refine Ext.trans ?_ (by with_reducible assumption)) | go_size)))) | (with_reducible exact RdSig.mk (by (first | (with_reducible exact RI.ext (Hid.out (by with_reducible assumption)) (by (repeat' (first | (with_reducible exact Ext.refl _) | (with_reducible assumption) | (with_reducible refine Ext.alloc ?_ _) | (with_reducible refine Ext.set ?_ ?_ _) | (with_reducible refine Ext.drewN ?_ _) | (with_reducible refine Ext.drew ?_) | (with_reducible refine Ext.trans ?_ (by with_reducible assumption)) | go_size))))))) | (with_reducible exact RdSig.ext (by with_reducible assumption) (by (repeat' (first | (with_reducible exact Ext.refl _) | (with_reducible assumption) | (with_reducible refine Ext.alloc ?_ _) | (with_reducible refine Ext.set ?_ ?_ _) | (with_reducible refine Ext.drewN ?_ _) | (with_reducible refine Ext.drew ?_) | (with_reducible refine Ext.trans ?_ (by with_reducible assumption)) | go_size)))))) (by (first | (first | (with_reducible exact RdI.mk (RI.ext (Hid.out (by with_reducible assumption)) (by (repeat' (first | (with_reducible exact Ext.refl _) | (with_reducible assumption) | (with_reducible refine Ext.alloc ?_ _) | (with_reducible refine Ext.set ?_ ?_ _) | (with_reducible refine Ext.drewN ?_ _) | (with_reducible refine Ext.drew ?_) | (with_reducible refine Ext.trans ?_ (by with_reducible assumption)) | go_size))))) | (with_reducible exact RdI.ext (by with_reducible assumption) (by (repeat' (first | (with_reducible exact Ext.refl _) | (with_reducible assumption) | (with_reducible refine Ext.alloc ?_ _) | (with_reducible refine Ext.set ?_ ?_ _) | (with_reducible refine Ext.drewN ?_ _) | (with_reducible refine Ext.drew ?_) | (with_reducible refine Ext.trans ?_ (by with_reducible assumption)) | go_size))))) | (with_reducible exact RdSyK.mk (by (first | (with_reducible exact RI.ext (Hid.out (by with_reducible assumption)) (by (repeat' (first | (with_reducible exact Ext.refl _) | (with_reducible assumption) | (with_reducible refine Ext.alloc ?_ _) | (with_reducible refine Ext.set ?_ ?_ _) | (with_reducible refine Ext.drewN ?_ _) | (with_reducible refine Ext.drew ?_) | (with_reducible refine Ext.trans ?_ (by with_reducible assumption)) | go_size)))))) (RR.ext (Hid.out (by with_reducible assumption)) (by (repeat' (first | (with_reducible exact Ext.refl _) | (with_reducible assumption) | (with_reducible refine Ext.alloc ?_ _) | (with_reducible refine Ext.set ?_ ?_ _) | (with_reducible refine Ext.drewN ?_ _) | (with_reducible refine Ext.drew ?_) | (with_reducible refine Ext.trans ?_ (by with_reducible assumption)) | go_size))))) | (with_reducible exact RdSyK.ext (by with_reducible assumption) (by (repeat' (first | (with_reducible exact Ext.refl _) | (with_reducible assumption) | (with_reducible refine Ext.alloc ?_ _) | (with_reducible refine Ext.set ?_ ?_ _) | (with_reducible refine Ext.drewN ?_ _) | (with_reducible refine Ext.drew ?_) | (with_reducible refine Ext.trans ?_ (by with_reducible assumption)) | go_size)))) | (with_reducible exact RdSig.mk (by (first | (with_reducible exact RI.ext (Hid.out (by with_reducible assumption)) (by (repeat' (first | (with_reducible exact Ext.refl _) | (with_reducible assumption) | (with_reducible refine Ext.alloc ?_ _) | (with_reducible refine Ext.set ?_ ?_ _) | (with_reducible refine Ext.drewN ?_ _) | (with_reducible refine Ext.drew ?_) | (with_reducible refine Ext.trans ?_ (by with_reducible assumption)) | go_size))))))) | (with_reducible exact RdSig.ext (by with_reducible assumption) (by (repeat' (first | (with_reducible exact Ext.refl _) | (with_reducible assumption) | (with_reducible refine Ext.alloc ?_ _) | (with_reducible refine Ext.set ?_ ?_ _) | (with_reducible refine Ext.drewN ?_ _) | (with_reducible refine Ext.drew ?_) | (with_reducible refine Ext.trans ?_ (by with_reducible assumption)) | go_size))))))).mono ?_); rintro e w2 ⟨rfl, hE2⟩; have hz2 := sz_of hE2; (try simp only [World.size_alloc, World.size_setCell, World.size_drew] at hz2); obtain ⟨hc2, hf2⟩ := bcell hE2; (try have hq2_0 : w.heap.size < w2.heap.size := by omega); (try have hq2_1 : w.heap.size + 1 < w2.heap.size := by omega); (try have hq2_2 : w.heap.size + 1 + 1 < w2.heap.size := by omega); (try have hq2_3 : w.heap.size + 1 + 1 + 1 < w2.heap.size := by omega); (try have hq2_4 : w.heap.size + 1 + 1 + 1 + 1 < w2.heap.size := by omega); (try have hq2_5 : w.heap.size + 1 + 1 + 1 + 1 + 1 < w2.heap.size := by omega); (try have hx2_1 : w1.heap.size < w2.heap.size := by omega)))
      go_ret
      exact ⟨_, 0, 0, rfl, by rw [HR.out]; exact OwI.none1.ext (by (repeat' (first | (with_reducible exact Ext.refl _) | (with_reducible assumption) | (with_reducible refine Ext.alloc ?_ _) | (with_reducible refine Ext.set ?_ ?_ _) | (with_reducible refine Ext.drewN ?_ _) | (with_reducible refine Ext.drew ?_) | (with_reducible refine Ext.trans ?_ (by with_reducible assumption)) | go_size))), by (repeat' (first | (with_reducible exact Ext.refl _) | (with_reducible assumption) | (with_reducible refine Ext.alloc ?_ _) | (with_reducible refine Ext.set ?_ ?_ _) | (with_reducible refine Ext.drewN ?_ _) | (with_reducible refine Ext.drew ?_) | (with_reducible refine Ext.trans ?_ (by with_reducible assumption)) | go_size))⟩
    | true =>
      have HR := Lib.hid (useV_ok hs ht)
      have HS := Lib.hid (sysOk_iff.1 hs)
      have HT := Lib.hid (termOk_iff.1 ht)
      have hq1 : 0 < q := by have := HT.out.2.1.1; rw [HDL.out] at this; omega
      have hq60 : q ≤ 60 := by have := HT.out.2.1.2; rw [HDL.out] at this; omega
      have hm12 : m ≤ 12 := by have := HS.out.2.1; rw [HML.out] at this; exact this
      obtain ⟨b0, o0, x0, rfl, _, _⟩ := RI.at_ HD.out hq1
      have hsok := hs
      have htok := ht
      clear hs ht
      obtain ⟨i0, hii, hiz, his, hib⟩ := info_parts int64_info
      go_enter Try.func10, Try.ntmps10
      go_wp2_with fail
      (with_reducible refine (c_sSystemOk (s := s) (by (first | (first | (with_reducible exact RdI.mk (RI.ext (Hid.out (by with_reducible assumption)) (by (repeat' (first | (with_reducible exact Ext.refl _) | (with_reducible assumption) | (with_reducible refine Ext.alloc ?_ _) | (with_reducible refine Ext.set ?_ ?_ _) | (with_reducible refine Ext.drewN ?_ _) | (with_reducible refine Ext.drew ?_) | (with_reducible refine Ext.trans ?_ (by with_reducible assumption)) | go_size))))) | (with_reducible exact RdI.ext (by with_reducible assumption) (by (repeat' (first | (with_reducible exact Ext.refl _) | (with_reducible assumption) | (with_reducible refine Ext.alloc ?_ _) | (with_reducible refine Ext.set ?_ ?_ _) | (with_reducible refine Ext.drewN ?_ _) | (with_reducible refine Ext.drew ?_) | (with_reducible refine Ext.trans ?_ (by with_reducible assumption)) | go_size))))) | (with_reducible exact RdSyK.mk (by (first | (with_reducible exact RI.ext (Hid.out (by with_reducible assumption)) (by (repeat' (first | (with_reducible exact Ext.refl _) | (with_reducible assumption) | (with_reducible refine Ext.alloc ?_ _) | (with_reducible refine Ext.set ?_ ?_ _) | (with_reducible refine Ext.drewN ?_ _) | (with_reducible refine Ext.drew ?_) | (with_reducible refine Ext.trans ?_ (by with_reducible assumption)) | go_size)))))) (RR.ext (Hid.out (by with_reducible assumption)) (by (repeat' (first | (with_reducible exact Ext.refl _) | (with_reducible assumption) | (with_reducible refine Ext.alloc ?_ _) | (with_reducible refine Ext.set ?_ ?_ _) | (with_reducible refine Ext.drewN ?_ _) | (with_reducible refine Ext.drew ?_) | (with_reducible refine Ext.trans ?_ (by with_reducible assumption)) | go_size))))) | (with_reducible exact RdSyK.ext (by with_reducible assumption) (by (repeat' (first | (with_reducible exact Ext.refl _) | (with_reducible assumption) | (with_reducible refine Ext.alloc ?_ _) | (with_reducible refine Ext.set ?_ ?_ _) | (with_reducible refine Ext.drewN ?_ _) | (with_reducible refine Ext.drew ?_) | (with_reducible refine Ext.trans ?_ (by with_reducible assumption)) | go_size)))) | (with_reducible exact RdSig.mk (by (first | (with_reducible exact RI.ext (Hid.out (by with_reducible assumption)) (by (repeat' (first | (with_reducible exact Ext.refl _) | (with_reducible assumption) | (with_reducible refine Ext.alloc ?_ _) | (with_reducible refine Ext.set ?_ ?_ _) | (with_reducible refine Ext.drewN ?_ _) | (with_reducible refine Ext.drew ?_) | (with_reducible refine Ext.trans ?_ (by with_reducible assumption)) | go_size))))))) | (with_reducible exact RdSig.ext (by with_reducible assumption) (by (repeat' (first | (with_reducible exact Ext.refl _) | (with_reducible assumption) | (with_reducible refine Ext.alloc ?_ _) | (with_reducible refine Ext.set ?_ ?_ _) | (with_reducible refine Ext.drewN ?_ _) | (with_reducible refine Ext.drew ?_) | (with_reducible refine Ext.trans ?_ (by with_reducible assumption)) | go_size))))))).mono ?_); rintro e w1 ⟨rfl, hE1⟩; have hz1 := sz_of hE1; (try simp only [World.size_alloc, World.size_setCell, World.size_drew] at hz1); obtain ⟨hc1, hf1⟩ := bcell hE1; (try have hq1_0 : w.heap.size < w1.heap.size := by omega); (try have hq1_1 : w.heap.size + 1 < w1.heap.size := by omega); (try have hq1_2 : w.heap.size + 1 + 1 < w1.heap.size := by omega); (try have hq1_3 : w.heap.size + 1 + 1 + 1 < w1.heap.size := by omega); (try have hq1_4 : w.heap.size + 1 + 1 + 1 + 1 < w1.heap.size := by omega); (try have hq1_5 : w.heap.size + 1 + 1 + 1 + 1 + 1 < w1.heap.size := by omega)
      have hs0 : w1.cell? ⟨w.heap.size, 0, none⟩ = some (.slice A n c) := Ext.keep hE1 (by simp [go_sem])
      have hs1 : w1.cell? ⟨w.heap.size, 1, none⟩ = some (.slice B m d) := Ext.keep hE1 (by simp [go_sem])
      have HO1 := Lib.hid (show OwI w1 w.heap.size (some ⟨w.heap.size + 1, 0, none⟩) 0 0 [] from OwI.none1.ext hE1)
      go_wp2_with fail
      (with_reducible refine (c_sTermOk (ar := s.ar) (t := t) (by (first | (first | (with_reducible exact RdI.mk (RI.ext (Hid.out (by with_reducible assumption)) (by (repeat' (first | (with_reducible exact Ext.refl _) | (with_reducible assumption) | (with_reducible refine Ext.alloc ?_ _) | (with_reducible refine Ext.set ?_ ?_ _) | (with_reducible refine Ext.drewN ?_ _) | (with_reducible refine Ext.drew ?_) | (with_reducible refine Ext.trans ?_ (by with_reducible assumption)) | go_size))))) | (with_reducible exact RdI.ext (by with_reducible assumption) (by (repeat' (first | (with_reducible exact Ext.refl _) | (with_reducible assumption) | (with_reducible refine Ext.alloc ?_ _) | (with_reducible refine Ext.set ?_ ?_ _) | (with_reducible refine Ext.drewN ?_ _) | (with_reducible refine Ext.drew ?_) | (with_reducible refine Ext.trans ?_ (by with_reducible assumption)) | go_size))))) | (with_reducible exact RdSyK.mk (by (first | (with_reducible exact RI.ext (Hid.out (by with_reducible assumption)) (by (repeat' (first | (with_reducible exact Ext.refl _) | (with_reducible assumption) | (with_reducible refine Ext.alloc ?_ _) | (with_reducible refine Ext.set ?_ ?_ _) | (with_reducible refine Ext.drewN ?_ _) | (with_reducible refine Ext.drew ?_) | (with_reducible refine Ext.trans ?_ (by with_reducible assumption)) | go_size)))))) (RR.ext (Hid.out (by with_reducible assumption)) (by (repeat' (first | (with_reducible exact Ext.refl _) | (with_reducible assumption) | (with_reducible refine Ext.alloc ?_ _) | (with_reducible refine Ext.set ?_ ?_ _) | (with_reducible refine Ext.drewN ?_ _) | (with_reducible refine Ext.drew ?_) | (with_reducible refine Ext.trans ?_ (by with_reducible assumption)) | go_size))))) | (with_reducible exact RdSyK.ext (by with_reducible assumption) (by (repeat' (first | (with_reducible exact Ext.refl _) | (with_reducible assumption) | (with_reducible refine Ext.alloc ?_ _) | (with_reducible refine Ext.set ?_ ?_ _) | (with_reducible refine Ext.drewN ?_ _) | (with_reducible refine Ext.drew ?_) | (with_reducible refine Ext.trans ?_ (by with_reducible assumption)) | go_size)))) | (with_reducible exact RdSig.mk (by (first | (with_reducible exact RI.ext (Hid.out (by with_reducible assumption)) (by (repeat' (first | (with_reducible exact Ext.refl _) | (with_reducible assumption) | (with_reducible refine Ext.alloc ?_ _) | (with_reducible refine Ext.set ?_ ?_ _) | (with_reducible refine Ext.drewN ?_ _) | (with_reducible refine Ext.drew ?_) | (with_reducible refine Ext.trans ?_ (by with_reducible assumption)) | go_size))))))) | (with_reducible exact RdSig.ext (by with_reducible assumption) (by (repeat' (first | (with_reducible exact Ext.refl _) | (with_reducible assumption) | (with_reducible refine Ext.alloc ?_ _) | (with_reducible refine Ext.set ?_ ?_ _) | (with_reducible refine Ext.drewN ?_ _) | (with_reducible refine Ext.drew ?_) | (with_reducible refine Ext.trans ?_ (by with_reducible assumption)) | go_size)))))) (by (first | (first | (with_reducible exact RdI.mk (RI.ext (Hid.out (by with_reducible assumption)) (by (repeat' (first | (with_reducible exact Ext.refl _) | (with_reducible assumption) | (with_reducible refine Ext.alloc ?_ _) | (with_reducible refine Ext.set ?_ ?_ _) | (with_reducible refine Ext.drewN ?_ _) | (with_reducible refine Ext.drew ?_) | (with_reducible refine Ext.trans ?_ (by with_reducible assumption)) | go_size))))) | (with_reducible exact RdI.ext (by with_reducible assumption) (by (repeat' (first | (with_reducible exact Ext.refl _) | (with_reducible assumption) | (with_reducible refine Ext.alloc ?_ _) | (with_reducible refine Ext.set ?_ ?_ _) | (with_reducible refine Ext.drewN ?_ _) | (with_reducible refine Ext.drew ?_) | (with_reducible refine Ext.trans ?_ (by with_reducible assumption)) | go_size))))) | (with_reducible exact RdSyK.mk (by (first | (with_reducible exact RI.ext (Hid.out (by with_reducible assumption)) (by (repeat' (first | (with_reducible exact Ext.refl _) | (with_reducible assumption) | (with_reducible refine Ext.alloc ?_ _) | (with_reducible refine Ext.set ?_ ?_ _) | (with_reducible refine Ext.drewN ?_ _) | (with_reducible refine Ext.drew ?_) | (with_reducible refine Ext.trans ?_ (by with_reducible assumption)) | go_size)))))) (RR.ext (Hid.out (by with_reducible assumption)) (by (repeat' (first | (with_reducible exact Ext.refl _) | (with_reducible assumption) | (with_reducible refine Ext.alloc ?_ _) | (with_reducible refine Ext.set ?_ ?_ _) | (with_reducible refine Ext.drewN ?_ _) | (with_reducible refine Ext.drew ?_) | (with_reducible refine Ext.trans ?_ (by with_reducible assumption)) | go_size))))) | (with_reducible exact RdSyK.ext (by with_reducible assumption) (by (repeat' (first | (with_reducible exact Ext.refl _) | (with_reducible assumption) | (with_reducible refine Ext.alloc ?_ _) | (with_reducible refine Ext.set ?_ ?_ _) | (with_reducible refine Ext.drewN ?_ _) | (with_reducible refine Ext.drew ?_) | (with_reducible refine Ext.trans ?_ (by with_reducible assumption)) | go_size)))) | (with_reducible exact RdSig.mk (by (first | (with_reducible exact RI.ext (Hid.out (by with_reducible assumption)) (by (repeat' (first | (with_reducible exact Ext.refl _) | (with_reducible assumption) | (with_reducible refine Ext.alloc ?_ _) | (with_reducible refine Ext.set ?_ ?_ _) | (with_reducible refine Ext.drewN ?_ _) | (with_reducible refine Ext.drew ?_) | (with_reducible refine Ext.trans ?_ (by with_reducible assumption)) | go_size))))))) | (with_reducible exact RdSig.ext (by with_reducible assumption) (by (repeat' (first | (with_reducible exact Ext.refl _) | (with_reducible assumption) | (with_reducible refine Ext.alloc ?_ _) | (with_reducible refine Ext.set ?_ ?_ _) | (with_reducible refine Ext.drewN ?_ _) | (with_reducible refine Ext.drew ?_) | (with_reducible refine Ext.trans ?_ (by with_reducible assumption)) | go_size))))))).mono ?_); rintro e w2 ⟨rfl, hE2⟩; have hz2 := sz_of hE2; (try simp only [World.size_alloc, World.size_setCell, World.size_drew] at hz2); obtain ⟨hc2, hf2⟩ := bcell hE2; (try have hq2_0 : w.heap.size < w2.heap.size := by omega); (try have hq2_1 : w.heap.size + 1 < w2.heap.size := by omega); (try have hq2_2 : w.heap.size + 1 + 1 < w2.heap.size := by omega); (try have hq2_3 : w.heap.size + 1 + 1 + 1 < w2.heap.size := by omega); (try have hq2_4 : w.heap.size + 1 + 1 + 1 + 1 < w2.heap.size := by omega); (try have hq2_5 : w.heap.size + 1 + 1 + 1 + 1 + 1 < w2.heap.size := by omega); (try have hx2_1 : w1.heap.size < w2.heap.size := by omega)
      have hw0 : w2.cell? ⟨w.heap.size, 0, none⟩ = some (.slice A n c) := Ext.keep hE2 hs0
      have hw1 : w2.cell? ⟨w.heap.size, 1, none⟩ = some (.slice B m d) := Ext.keep hE2 hs1
      have hEo : Ext w w2 := by (repeat' (first | (with_reducible exact Ext.refl _) | (with_reducible assumption) | (with_reducible refine Ext.alloc ?_ _) | (with_reducible refine Ext.set ?_ ?_ _) | (with_reducible refine Ext.drewN ?_ _) | (with_reducible refine Ext.drew ?_) | (with_reducible refine Ext.trans ?_ (by with_reducible assumption)) | go_size))
      have HO2 := Lib.hid (HO1.out.ext hE2)
      have hb2 : w.heap.size + 1 < w2.heap.size := by
        have h := hE1.size
        have h2 := hE2.size
        simp at h
        omega
      go_wp2_with (refine wpList_slice1 rfl (.tmp 21) 22 .i64 rfl i0 Try.underlying22 hii his rfl hq1 hcap.1 ?_)
      intro f' hf'
      have HDT := Lib.hid (RI.tail' HD.out hq1 hcap.1 hf')
      go_wp2_with fail
      (with_reducible refine (c_l1Copy (RI.ext HDT.out hEo)).mono ?_)
      rintro e w3 ⟨A4, n4, c4, rfl, hO4, hE3⟩
      have hl4 : n4 ≤ 59 := by have := hO4.len; rw [List.length_drop, HDL.out] at this; omega
      have HO4 := Lib.hid hO4
      have HO5 := Lib.hid (HO2.out.ext hE3)
      have HAP := Lib.hid (show ApartU (some ⟨w.heap.size + 1, 0, none⟩) A4 from fun g o s' g' o' s'' e e' => by
        cases e
        have := (HO4.out.bd g' o' s'' e').1
        omega)
      have HAT := Lib.hid (show UseAt s (useAll s t) (List.replicate m false) ((t.drop 1).drop 0) by rw [List.drop_zero, ← HML.out]; exact UseAt.start HS.out HT.out.2.1.2)
      have HBD := Lib.hid (show (t.drop 1).length + useNeed s.rs (List.replicate m false) ≤ 780 from HAT.out.bd)
      clear hO4
      go_wp2_with fail
      go_loopw [5, 6, 7] (fun ov hv iv wr => ∃ i : Nat, iv = .int .i64 i ∧ (∃ A5 n5 c5 A6 n6 c6, ov = .slice A5 n5 c5 ∧ hv = .slice A6 n6 c6 ∧ i ≤ n6 ∧ n6 ≤ 780 ∧ Hid (∃ us hd, OwI wr w.heap.size A5 n5 c5 (useOut us m) ∧ OwI wr w2.heap.size A6 n6 c6 hd ∧ ApartU A5 A6 ∧ UseAt s (useAll s t) us (hd.drop i) ∧ hd.length + useNeed s.rs us ≤ 780)) ∧ Ext w2 wr) (fun _ _ iv _ => 780 - (intOf iv).toNat)
      case atStart => exact ⟨0, rfl, ⟨_, _, _, _, _, _, rfl, rfl, Nat.zero_le _, by omega, Lib.hid ⟨List.replicate m false, _, by rw [useOut_none]; exact HO5.out, HO4.out, HAP.out, HAT.out, HBD.out⟩⟩, hE3⟩
      case round =>
        obtain ⟨i, rfl, ⟨A5, n5, c5, A6, n6, c6, rfl, rfl, hi6, hn6, hST⟩, hE6⟩ := hrel
        obtain ⟨wo, rfl⟩ : ∃ wo : World, wo = wr := ⟨_, rfl⟩
        obtain ⟨us, hd, hO5, hO6, hAP6, hAt, hBd⟩ := hST.out
        have H5 := Lib.hid hO5
        have H6 := Lib.hid hO6
        have HAP6 := Lib.hid hAP6
        have HAt := Lib.hid hAt
        have HBd := Lib.hid hBd
        have hEw : Ext w wo := Ext.trans hEo hE6
        have hr0 := Ext.keep hE6 hw0
        have hr1 := Ext.keep hE6 hw1
        clear hST hO5 hO6 hAP6 hAt hBd
        by_cases hpos : i < n6
        · obtain ⟨b, o, x, hA6, hx, hcx⟩ := RI.at_ H6.out.ri hpos
          have HX := Lib.hid hx
          have hpi : (i : Int) < (n6 : Int) := by omega
          have hpi0 : (0 : Int) ≤ (i : Int) := by omega
          have HTD := Lib.hid (show UseAt s (useAll s t) us (x :: hd.drop (i + 1)) by
            have h := HAt.out
            obtain ⟨hil, e⟩ := List.getElem?_eq_some_iff.1 hx
            rwa [List.drop_eq_getElem_cons hil, e] at h)
          clear hx hA6 hcx
          go_wp2_with fail
          go_loopw [5, 6, 8] (fun ov hv kv wr => ∃ k : Nat, kv = .int .i64 k ∧ k ≤ m ∧ (∃ A7 n7 c7 A8 n8 c8, ov = .slice A7 n7 c7 ∧ hv = .slice A8 n8 c8 ∧ i + 1 ≤ n8 ∧ n8 ≤ 780 ∧ Hid (∃ us' hd', useRow s.rs x k (us, hd.drop (i + 1)) = (us', hd'.drop (i + 1)) ∧ hd'[i]? = some x ∧ OwI wr w.heap.size A7 n7 c7 (useOut us' m) ∧ OwI wr w2.heap.size A8 n8 c8 hd' ∧ ApartU A7 A8 ∧ hd'.length + useNeed s.rs us' ≤ 780)) ∧ Ext w2 wr) (fun _ _ kv _ => m - (intOf kv).toNat)
          case atStart => exact ⟨0, rfl, Nat.zero_le _, ⟨_, _, _, _, _, _, rfl, rfl, by omega, hn6, Lib.hid ⟨us, hd, rfl, HX.out, H5.out, H6.out, HAP6.out, HBd.out⟩⟩, hE6⟩
          case round =>
            obtain ⟨k, rfl, hk, ⟨A7, n7, c7, A8, n8, c8, rfl, rfl, hi8, hn8, hST⟩, hE7⟩ := hrel
            obtain ⟨us', hd', hrow, hx8, hO7, hO8, hAP8, hBd8⟩ := hST.out
            have HROW := Lib.hid hrow
            have HX8 := Lib.hid hx8
            have H7 := Lib.hid hO7
            have H8 := Lib.hid hO8
            have HAP8 := Lib.hid hAP8
            have HBd8 := Lib.hid hBd8
            have hEw7 : Ext w wr := Ext.trans hEo hE7
            have hz0 := Ext.keep hE7 hw0
            have hz1 := Ext.keep hE7 hw1
            have h7l : n7 ≤ 12 := by have h1 := hO7.len; have h2 := useOut_len us' m; omega
            have H7c := hO7.cap
            have H8c := hO8.cap
            clear hST hrow hx8 hO7 hO8 hAP8 hBd8
            by_cases hlt : k < m
            · obtain ⟨b8, o8, r, A1, m1, c1, A2, m2, c2, rfl, hx, hd1w, hd2w, hr1', hr5, hcap1, hcap2⟩ := RR.at_ HB.out hlt
              have hd1 := Ext.keep hEw7 hd1w
              have hd2 := Ext.keep hEw7 hd2w
              have HRX := Lib.hid hx
              have hRP := HS.out.2.2 k r hx
              have HR2 := Lib.hid hr5
              have hm1 : 0 < m1 := by have := hRP.1.2.1.1; rw [hr1'.len] at this; omega
              have hm60 : m2 ≤ 60 := by have := hRP.2.1.2.1.2; rw [hr5.len] at this; omega
              obtain ⟨b1, o1, y, rfl, hy, hcyw⟩ := RI.at_ hr1' hm1
              rw [Nat.add_zero] at hcyw
              have hcy := Ext.keep hEw7 hcyw
              have HY := Lib.hid hy
              have hlt' : (k : Int) < (m : Int) := by omega
              have hk0 : (0 : Int) ≤ (k : Int) := by omega
              have hm1i : (0 : Int) < (m1 : Int) := by omega
              obtain ⟨bh, oh, x', rfl, hx', hcx⟩ := RI.at_ H8.out.ri (show i < n8 by omega)
              rw [HX8.out] at hx'
              obtain rfl : x = x' := Option.some.inj hx'
              have hi8' : (i : Int) < (n8 : Int) := by omega
              have hul : us'.length = m := by have h := (HTD.out.mid k).2; rw [HROW.out] at h; rw [← HML.out]; exact h
              obtain ⟨bb, hbk⟩ : ∃ bb, us'[k]? = some bb := ⟨_, List.getElem?_eq_getElem (by rw [hul]; exact hlt)⟩
              have HBK := Lib.hid hbk
              have HHAS := Lib.hid (useOut_has hlt hbk)
              clear hx hRP hr1' hr5 hcap1 hcap2 hy hbk hd1w hd2w hcyw hx'
              by_cases hyx : y = x
              · subst hyx
                cases bb with
                | false =>
                  have HN := Lib.hid (useRow_hit HRX.out HROW.out HY.out HBK.out)
                  go_wp2_with fail
                  go_quiet (first | (go_at_call 39; exact Calls.quiet_of_same (l1Has_is HHAS.out (RdI.mk H7.out.ri))))
                  go_wp2_with fail
                  (with_reducible refine (c_l1IntoS (ys := useOut (us'.set k true) m) (useOut_inc _ _) (useOut_mark hlt HBK.out) (useOut_inc _ _) (fun h => by have := HHAS.out; rw [decide_eq_true h] at this; cases this) (RI.ext H7.out.ri (by (repeat' (first | (with_reducible exact Ext.refl _) | (with_reducible assumption) | (with_reducible refine Ext.alloc ?_ _) | (with_reducible refine Ext.set ?_ ?_ _) | (with_reducible refine Ext.drewN ?_ _) | (with_reducible refine Ext.drew ?_) | (with_reducible refine Ext.trans ?_ (by with_reducible assumption)) | go_size)))) H7c (by omega)).mono ?_)
                  rintro e w8 ⟨A9, n9, c9, rfl, hO9, hE9⟩
                  have hE98 : Ext wr w8 := by (repeat' (first | (with_reducible exact Ext.refl _) | (with_reducible assumption) | (with_reducible refine Ext.alloc ?_ _) | (with_reducible refine Ext.set ?_ ?_ _) | (with_reducible refine Ext.drewN ?_ _) | (with_reducible refine Ext.drew ?_) | (with_reducible refine Ext.trans ?_ (by with_reducible assumption)) | go_size))
                  have hlo : ∀ g o s, A9 = some ⟨g, o, s⟩ → wr.heap.size ≤ g ∧ g < w8.heap.size := hO9.bd
                  have hbh := H8.out.bd bh oh none rfl
                  have hsz8 := sz_of hE98
                  have H9 := Lib.hid (hO9.lower (show w.heap.size ≤ wr.heap.size from sz_of hEw7))
                  have H8b := Lib.hid (H8.out.ext hE98)
                  have HR2b := Lib.hid (RI.ext HR2.out (Ext.trans hEw7 hE98))
                  have hE28 : Ext w2 w8 := Ext.trans hE7 hE98
                  have hy0 := Ext.keep hE98 hz0
                  have hy1 := Ext.keep hE98 hz1
                  have hy2 := Ext.keep hE98 hd1
                  have hy3 := Ext.keep hE98 hd2
                  clear hO9
                  go_wp2_with (at_builtin; go_loud (refine wpList_append_ints rfl (.tmp 59) (.tmp 65) 22 rfl i0 Try.underlying22 hii hiz his hib (D := w2.heap.size) rfl H8b.out rfl HR2b.out (by omega) (by omega) H8c.1 ?_))
                  intro AA cc ww hOA hgA hatA
                  have HA9 := Lib.hid (OwI.heap H9.out (fun g e => hgA.5 g (hlo g 0 none e).2 (fun e2 => by
                    have h1 := hlo g 0 none e
                    have h2 : some g = some bh := e2
                    cases h2
                    omega)) : OwI ww w.heap.size A9 n9 c9 _)
                  have HAPA := Lib.hid (show ApartU A9 AA from fun g o s g' o' s' e e' => by
                    have h1 := hlo g o s e
                    rcases hatA g' o' s' e' with h2 | h2
                    · have h2 : some bh = some g' := h2
                      cases h2; omega
                    · omega)
                  have HOA := Lib.hid hOA
                  have hEA : Ext w2 ww := Ext.grown hE28 hgA (fun b hb => by
                    have hb : some bh = some b := hb
                    cases hb; exact hbh.1)
                  have hl9 : (hd' ++ r.r).length + useNeed s.rs (us'.set k true) ≤ 780 := by
                    have h1 := HBd8.out
                    have h2 := useNeed_set HRX.out HBK.out
                    rw [List.length_append]; omega
                  have HL9 := Lib.hid hl9
                  have hn9 : n8 + m2 ≤ 780 := by have h := hOA.len; omega
                  have HX9 := Lib.hid (show (hd' ++ r.r)[i]? = some y by rw [List.getElem?_append_left (by rw [H8.out.len]; omega)]; exact HX8.out)
                  have HN9 := Lib.hid (show useRow s.rs y (k + 1) (us, hd.drop (i + 1)) = (us'.set k true, (hd' ++ r.r).drop (i + 1)) by rw [HN.out, List.drop_append_of_le_length (by rw [H8.out.len]; exact hi8)])
                  clear hOA hgA hatA hl9
                  go_wp2
                  go_roundw
                  case rel => exact ⟨k + 1, by go_num, by omega, ⟨_, _, _, _, _, _, rfl, rfl, by omega, hn9, Lib.hid ⟨_, _, HN9.out, HX9.out, HA9.out, HOA.out, HAPA.out, HL9.out⟩⟩, hEA⟩
                  case measure => simp only [intOf]; omega
                | true =>
                  have HN := Lib.hid (useRow_miss (n := y) HRX.out HROW.out (fun h => by rw [HBK.out] at h; cases h.2))
                  go_wp2_with fail
                  go_quiet (first | (go_at_call 39; exact Calls.quiet_of_same (l1Has_is HHAS.out (RdI.mk H7.out.ri))))
                  go_wp2
                  go_roundw
                  case rel => exact ⟨k + 1, by go_num, by omega, ⟨_, _, _, _, _, _, rfl, rfl, hi8, hn8, Lib.hid ⟨_, _, HN.out, HX8.out, H7.out.ext (by (repeat' (first | (with_reducible exact Ext.refl _) | (with_reducible assumption) | (with_reducible refine Ext.alloc ?_ _) | (with_reducible refine Ext.set ?_ ?_ _) | (with_reducible refine Ext.drewN ?_ _) | (with_reducible refine Ext.drew ?_) | (with_reducible refine Ext.trans ?_ (by with_reducible assumption)) | go_size))), H8.out.ext (by (repeat' (first | (with_reducible exact Ext.refl _) | (with_reducible assumption) | (with_reducible refine Ext.alloc ?_ _) | (with_reducible refine Ext.set ?_ ?_ _) | (with_reducible refine Ext.drewN ?_ _) | (with_reducible refine Ext.drew ?_) | (with_reducible refine Ext.trans ?_ (by with_reducible assumption)) | go_size))), HAP8.out, HBd8.out⟩⟩, by (repeat' (first | (with_reducible exact Ext.refl _) | (with_reducible assumption) | (with_reducible refine Ext.alloc ?_ _) | (with_reducible refine Ext.set ?_ ?_ _) | (with_reducible refine Ext.drewN ?_ _) | (with_reducible refine Ext.drew ?_) | (with_reducible refine Ext.trans ?_ (by with_reducible assumption)) | go_size))⟩
                  case measure => simp only [intOf]; omega
              · have hyb : (y == x) = false := by simpa using hyx
                have HN := Lib.hid (useRow_miss (n := x) HRX.out HROW.out (fun h => by rw [HY.out] at h; exact hyx (Option.some.inj h.1)))
                go_wp2_with fail
                go_quiet (fail)
                go_wp2
                go_roundw
                case rel => exact ⟨k + 1, by go_num, by omega, ⟨_, _, _, _, _, _, rfl, rfl, hi8, hn8, Lib.hid ⟨_, _, HN.out, HX8.out, H7.out.ext (by (repeat' (first | (with_reducible exact Ext.refl _) | (with_reducible assumption) | (with_reducible refine Ext.alloc ?_ _) | (with_reducible refine Ext.set ?_ ?_ _) | (with_reducible refine Ext.drewN ?_ _) | (with_reducible refine Ext.drew ?_) | (with_reducible refine Ext.trans ?_ (by with_reducible assumption)) | go_size))), H8.out.ext (by (repeat' (first | (with_reducible exact Ext.refl _) | (with_reducible assumption) | (with_reducible refine Ext.alloc ?_ _) | (with_reducible refine Ext.set ?_ ?_ _) | (with_reducible refine Ext.drewN ?_ _) | (with_reducible refine Ext.drew ?_) | (with_reducible refine Ext.trans ?_ (by with_reducible assumption)) | go_size))), HAP8.out, HBd8.out⟩⟩, by (repeat' (first | (with_reducible exact Ext.refl _) | (with_reducible assumption) | (with_reducible refine Ext.alloc ?_ _) | (with_reducible refine Ext.set ?_ ?_ _) | (with_reducible refine Ext.drewN ?_ _) | (with_reducible refine Ext.drew ?_) | (with_reducible refine Ext.trans ?_ (by with_reducible assumption)) | go_size))⟩
                case measure => simp only [intOf]; omega
            · have hkm : k = m := by omega
              have hnx := HTD.out.next
              rw [HML.out, ← hkm, HROW.out] at hnx
              have HNX := Lib.hid hnx.1
              clear hnx
              go_wp2
              go_roundw
              case rel => exact ⟨i + 1, by go_num, ⟨_, _, _, _, _, _, rfl, rfl, hi8, hn8, Lib.hid ⟨_, _, H7.out, H8.out, HAP8.out, HNX.out, HBd8.out⟩⟩, hE7⟩
              case measure => simp only [intOf]; omega
        · have hin : i = n6 := by omega
          have HUA := Lib.hid (show useAll s t = us by
            have h := HAt.out
            rw [List.drop_of_length_le (by rw [H6.out.len, hin]; exact Nat.le_refl _)] at h
            exact h.stop)
          go_wp2
          go_ret
          exact ⟨_, _, _, rfl, by rw [HR.out, HUA.out, HML.out]; exact H5.out, hEw⟩
theorem c_sUsableOf' {v0 v1 : Value} {s : Sy} {t oo : List Int} {w : World} (hv : oo = useV s t) (h0 : RdSyC w v0 s) (h1 : RdIc w v1 t) :
    Calls Try.prog 10 #[v0, v1] w fun e w' => ∃ A n c, e = .returned (.slice A n c) ∧ RI w' A n oo ∧ Ext w w' := by
  subst hv
  exact (c_sUsableOf h0 h1).mono fun e w' h => by
    obtain ⟨A, n, c, e1, h1, h2⟩ := h
    exact ⟨A, n, c, e1, h1.ri, h2⟩

end Go.Proofs.Ytkdopciihhhdkaa
