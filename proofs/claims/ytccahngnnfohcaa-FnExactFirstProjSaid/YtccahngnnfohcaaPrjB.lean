/- The argument that a projection selects, of both. -/
import Derived.Test.YtccahngnnfohcaaPrjA
import Derived.Test.YtccahngnnfohcaaParts
-- rd: RdSyK RdDp RdDq
namespace Go.Proofs.Ytccahngnnfohcaa
open Go.RowKit
set_option linter.unusedSimpArgs false
set_option linter.unusedVariables false

/-- In a drawn region: from here on under a stronger condition. -/
theorem wpAnyH_str {P : Program} {ops : Array Oper} {Q : Exit → Act → World → Prop} {md : Region.Mode} {S S' : World → Prop} (hS : ∀ w, S' w → S w) : ∀ {fuel : Nat} {listed : Array Bool} {a : Act} {w : World}, wpAnyH P md ops Q S' fuel listed a w → wpAnyH P md ops Q S fuel listed a w
  | 0, _, _, _, h => h
  | _ + 1, _, _, _, h => ⟨h.1, fun i hi => wpOp_mono (fun _ _ h' => ⟨hS _ h'.1, wpAnyH_str hS h'.2⟩) (h.2 i hi)⟩
theorem has0_t {ar t u : List Int} {p : Nat} (ht : TermP ar t) (h1 : p < t.length) (h : (subT ar t p).flat = u) : has0 ar t u = true := by
  unfold has0
  rcases Nat.eq_zero_or_pos p with h0 | h0
  · subst h0
    obtain ⟨hok, rest, hdr⟩ := subT_ok ht h1
    obtain ⟨k1, k2⟩ := tmOf_ok ht
    have e := (flat_inj _ _ k1 hok [] rest (by rw [List.append_nil, k2, ← hdr, List.drop_zero])).1
    rw [← e, k2] at h
    simp [h]
  · rw [has_t h0 h1 h]; simp
theorem has0_f {ar t u : List Int} (ht : TermP ar t) (h : ∀ p, p < t.length → ¬ (subT ar t p).flat = u) : has0 ar t u = false := by
  unfold has0
  rw [has_f fun p _ h2 => h p h2, Bool.or_false]
  have h0 := h 0 (by have := ht.2.1.1; omega)
  obtain ⟨hok, rest, hdr⟩ := subT_ok ht (show 0 < t.length by have := ht.2.1.1; omega)
  obtain ⟨k1, k2⟩ := tmOf_ok ht
  have e := (flat_inj _ _ k1 hok [] rest (by rw [List.append_nil, k2, ← hdr, List.drop_zero])).1
  rw [← e, k2] at h0
  simp [h0]
set_option maxRecDepth 100000 in
set_option maxHeartbeats 2000000 in
theorem c_hasSub0 {v0 v1 v2 : Value} {ar t u : List Int} {bb : Bool} {w : World} (hbb : has0 ar t u = bb) (h0 : RdSig w v0 ar) (h1 : RdIc w v1 t) (h2 : RdI w v2 u) (ht : TermP ar t) :
    Calls Try.prog 115 #[v0, v1, .int .i64 0, v2] w fun e w' => e = .returned (.bool bb) ∧ Ext w w' := by
  subst hbb
  obtain ⟨A, n, c, rfl, ha⟩ := h0
  obtain ⟨B, m, d, rfl, hcap, hb⟩ := h1
  obtain ⟨D, q, l, rfl, hd⟩ := h2
  have hm := hb.le
  have hml := hb.len
  have HA := Lib.hid ha
  have HB := Lib.hid hb
  have HD := Lib.hid hd
  have HCP := Lib.hid hcap
  have HML := Lib.hid hml
  have HT := Lib.hid ht
  have HSG := Lib.hid (show SigP ar from ht.1)
  clear ha hb hd hcap hml ht
  go_enter Try.func115, Try.ntmps115
  go_wp2_with fail
  obtain ⟨wo, hwo⟩ : ∃ wo, wo = w.alloc (.cells #[.slice A n c] 31) := ⟨_, rfl⟩
  have hw0 : wo.cell? ⟨w.heap.size, 0, none⟩ = some (.slice A n c) := by rw [hwo]; simp [go_sem]
  have hEo : Ext w wo := by rw [hwo]; (repeat' (first | (with_reducible exact Ext.refl _) | (with_reducible assumption) | (with_reducible refine Ext.alloc ?_ _) | (with_reducible refine Ext.set ?_ ?_ _) | (with_reducible refine Ext.drewN ?_ _) | (with_reducible refine Ext.drew ?_) | (with_reducible refine Ext.trans ?_ (by with_reducible assumption)) | go_size))
  rw [← hwo]
  clear hwo
  go_loopw [9] (fun i wr => ∃ k : Nat, i = .int .i64 k ∧ k ≤ m ∧ Hid (∀ p, p < k → ¬ (subT ar t p).flat = u) ∧ Ext wo wr) (fun i _ => m - (intOf i).toNat)
  case atStart => exact ⟨0, rfl, Nat.zero_le _, Lib.hid fun p h1 => by omega, Ext.refl _⟩
  case round =>
    obtain ⟨k, rfl, hk, hp, hE⟩ := hrel
    have hEw : Ext w wr := Ext.trans hEo hE
    have hr0 := Ext.keep hE hw0
    by_cases hlt : k < m
    · obtain ⟨hok, rest, hdr⟩ := subT_ok HT.out (show k < t.length by rw [HML.out]; exact hlt)
      have HOK := Lib.hid hok
      have HDR := Lib.hid hdr
      clear hok hdr
      have hki : (k : Int) < (m : Int) := by omega
      have hk0 : (0 : Int) ≤ (k : Int) := by omega
      by_cases he : (subT ar t k).flat = u
      · have HR := Lib.hid (has0_t HT.out (by rw [HML.out]; exact hlt) he)
        have HEQ := Lib.hid (show ((subT ar t k).flat == u) = true by simpa using he)
        clear he
        go_wp2_with fail
        (with_reducible refine (c_subAt (u := subT ar t k) (p := k) (RdSig.mk (RI.ext HA.out hEw)) (RdIc.mk HCP.out (RI.ext HB.out hEw)) HSG.out HOK.out HDR.out).mono ?_)
        rintro e2 w2 ⟨A2, n2, c2, rfl, hcap2, hr2, hE2⟩
        have HR2 := Lib.hid hr2
        have hEw2 := Ext.trans hEw hE2
        clear hr2
        go_wp2_with fail
        (with_reducible refine (c_slicesEqual (xs := (subT ar t k).flat) (ys := u) (RdI.mk HR2.out) (RdI.mk (RI.ext HD.out hEw2))).mono ?_); rw [HEQ.out]; rintro e3 w3 ⟨rfl, hE3⟩
        go_wp2
        go_ret
        exact ⟨ret_bool HR.out.symm, by (repeat' (first | (with_reducible exact Ext.refl _) | (with_reducible assumption) | (with_reducible refine Ext.alloc ?_ _) | (with_reducible refine Ext.set ?_ ?_ _) | (with_reducible refine Ext.drewN ?_ _) | (with_reducible refine Ext.drew ?_) | (with_reducible refine Ext.trans ?_ (by with_reducible assumption)) | go_size))⟩
      · have HR := Lib.hid (show ∀ p, p < k + 1 → ¬ (subT ar t p).flat = u from fun p h2 => by
          rcases Nat.lt_or_ge p k with h | h
          · exact hp.out p h
          · obtain rfl : p = k := by omega
            exact he)
        have HEQ := Lib.hid (show ((subT ar t k).flat == u) = false by simpa using he)
        clear he
        go_wp2_with fail
        (with_reducible refine (c_subAt (u := subT ar t k) (p := k) (RdSig.mk (RI.ext HA.out hEw)) (RdIc.mk HCP.out (RI.ext HB.out hEw)) HSG.out HOK.out HDR.out).mono ?_)
        rintro e2 w2 ⟨A2, n2, c2, rfl, hcap2, hr2, hE2⟩
        have HR2 := Lib.hid hr2
        have hEw2 := Ext.trans hEw hE2
        clear hr2
        go_wp2_with fail
        (with_reducible refine (c_slicesEqual (xs := (subT ar t k).flat) (ys := u) (RdI.mk HR2.out) (RdI.mk (RI.ext HD.out hEw2))).mono ?_); rw [HEQ.out]; rintro e3 w3 ⟨rfl, hE3⟩
        go_wp2
        go_roundw
        case rel => exact ⟨k + 1, by go_num, by omega, HR, Ext.trans hE (Ext.trans hE2 hE3)⟩
        case measure => simp only [intOf]; omega
    · have HR := Lib.hid (has0_f (u := u) HT.out fun p h2 => hp.out p (by rw [HML.out] at h2; omega))
      go_wp2
      go_ret
      exact ⟨ret_bool HR.out.symm, by (repeat' (first | (with_reducible exact Ext.refl _) | (with_reducible assumption) | (with_reducible refine Ext.alloc ?_ _) | (with_reducible refine Ext.set ?_ ?_ _) | (with_reducible refine Ext.drewN ?_ _) | (with_reducible refine Ext.drew ?_) | (with_reducible refine Ext.trans ?_ (by with_reducible assumption)) | go_size))⟩
theorem c_hasSub1 {v0 v1 v2 : Value} {ar t u : List Int} {bb : Bool} {w : World} (hbb : has ar t u = bb) (h0 : RdSig w v0 ar) (h1 : RdIc w v1 t) (h2 : RdI w v2 u) (ht : TermP ar t) :
    Calls Try.prog 115 #[v0, v1, .int .i64 1, v2] w fun e w' => e = .returned (.bool bb) ∧ Ext w w' := by
  subst hbb; exact c_hasSub h0 h1 h2 ht
/-- A window into a term that is there, or nothing. -/
def NewA (w : World) (o : Option (List Int)) (e : Ending) (w' : World) : Prop := ∃ A n c, e = .returned (.slice A n c) ∧ (n ≤ c ∧ c ≤ 9223372036854775807) ∧ RI w' A n (o.getD []) ∧ Ext w w'
theorem NewA.none_ {w w' : World} {e : Ending} (h : NewA w none e w') : ∃ A c, e = .returned (.slice A 0 c) ∧ c ≤ 9223372036854775807 ∧ Ext w w' := by
  obtain ⟨A, n, c, he, hc, hr, hE⟩ := h
  have hn : n = 0 := by have := hr.len; simp at this; omega
  subst hn
  exact ⟨A, c, he, hc.2, hE⟩
theorem NewA.some_ {w w' : World} {l : List Int} {e : Ending} (h : NewA w (some l) e w') (hl : 1 ≤ l.length) : ∃ b o n c, e = .returned (.slice (some ⟨b, o, none⟩) n c) ∧ (n ≤ c ∧ c ≤ 9223372036854775807) ∧ 0 < n ∧ RI w' (some ⟨b, o, none⟩) n l ∧ Ext w w' := by
  obtain ⟨A, n, c, he, hc, hr, hE⟩ := h
  have hn : 0 < n := by have := hr.len; simp at this; omega
  obtain ⟨b, o, rfl, _⟩ := hr.2 hn
  exact ⟨b, o, n, c, he, hc, hn, hr, hE⟩
theorem c_argsK {v0 v1 : Value} {ar t rest : List Int} {k : Nat} {P : Int} {x : Int} {us : List Tm} {w : World} (h0 : RdSig w v0 ar) (h1 : RdI w v1 t) (hs : SigP ar) (hu : (Tm.node x us).Ok ar) (hd : t.drop 0 = (Tm.node x us).flat ++ rest) (hk : k < us.length) (hP : (starts (0 + 1) us)[k]? = some P) :
    Calls Try.prog 134 #[v0, v1, .int .i64 0] w fun e w' => ∃ b o c, e = .returned (.slice (some ⟨b, o, none⟩) us.length c) ∧ w'.cell? ⟨b, o + k, none⟩ = some (.int .i64 P) ∧ Ext w w' :=
  (c_argsAt (p := 0) h0 h1 hs hu hd).mono fun _ _ ⟨A, n, c, e, h1, h2, h3⟩ => by
    subst h1
    obtain ⟨b, o, y, rfl, hy, hc⟩ := RI.at_ h2 hk
    rw [hP] at hy; cases hy
    exact ⟨b, o, c, e, hc, h3⟩
set_option maxRecDepth 100000 in
set_option maxHeartbeats 4000000 in
theorem c_projected {v0 v1 v2 : Value} {ar pj t : List Int} {o : Option (List Int)} {w : World} (ho : argO ar pj t = o) (h0 : RdSig w v0 ar) (h1 : RdI w v1 pj) (h2 : RdIc w v2 t) (hp : ProjP ar pj) (ht : TermP ar t) (hz : ∀ x, t[0]? = some x → 0 ≤ x) :
    Calls Try.prog 114 #[v0, v1, v2] w fun e w' => NewA w o e w' ∧ (o = none → e = .returned (.slice none 0 0)) := by
  subst ho
  obtain ⟨f, us, i, het, hok, ht0, hpi, hneg, hpos⟩ := arg_at hp ht hz
  obtain ⟨A, n, c, rfl, ha⟩ := h0
  obtain ⟨D, q, l, rfl, hd⟩ := h1
  obtain ⟨B, m, d, rfl, hcap, hb⟩ := h2
  have hm1 : 0 < m := by rw [← hb.len]; exact ht.2.1.1
  have hfl : f < pj.length := (List.getElem?_eq_some_iff.1 hpi).1
  have hfq : f < q := by rw [← hd.len]; exact hfl
  obtain ⟨b, o, x, rfl, hx, hcx⟩ := RI.at_ hb hm1
  rw [ht0] at hx; cases hx
  obtain ⟨b', o', y, rfl, hy, hcy⟩ := RI.at_ hd hfq
  rw [hpi] at hy; cases hy
  have hcx0 : w.cell? ⟨b, o, none⟩ = some (.int .i64 (f : Int)) := by simpa using hcx
  have hbl := World.block_lt_of_cell? w _ hcx
  have hbl' := World.block_lt_of_cell? w _ hcy
  have hm1i : (0 : Int) < (m : Int) := by omega
  have hfqi : (f : Int) < (q : Int) := by omega
  have hf0 : (0 : Int) ≤ (f : Int) := by omega
  have HA := Lib.hid ha
  have HB := Lib.hid hb
  have HD := Lib.hid hd
  have HCP := Lib.hid hcap
  have HSG := Lib.hid (show SigP ar from ht.1)
  have HOK := Lib.hid hok
  have HET := Lib.hid (show t.drop 0 = (Tm.node (f : Int) us).flat ++ [] by rw [List.drop_zero, List.append_nil]; exact het)
  have HNEG := Lib.hid hneg
  have HPOS := Lib.hid hpos
  clear ha hb hd hcap hok het hneg hpos ht hz ht0 hpi hp hcx hfl
  by_cases hi : i < 0
  · have HR := Lib.hid (HNEG.out hi)
    go_enter Try.func114, Try.ntmps114
    go_wp2_with fail
    go_ret
    rw [HR.out]
    exact ⟨⟨none, 0, 0, rfl, by omega, RI.nil _ _, by (repeat' (first | (with_reducible exact Ext.refl _) | (with_reducible assumption) | (with_reducible refine Ext.alloc ?_ _) | (with_reducible refine Ext.set ?_ ?_ _) | (with_reducible refine Ext.drewN ?_ _) | (with_reducible refine Ext.drew ?_) | (with_reducible refine Ext.trans ?_ (by with_reducible assumption)) | go_size))⟩, fun _ => rfl⟩
  · obtain ⟨a, hu, ho, haok, hta⟩ := HPOS.out (by omega)
    obtain ⟨k, rfl⟩ := Int.eq_ofNat_of_zero_le (show 0 ≤ i by omega)
    rw [Int.toNat_natCast] at hu
    have hkl : k < us.length := (List.getElem?_eq_some_iff.1 hu).1
    have HO := Lib.hid ho
    have HAO := Lib.hid haok
    have HDA := Lib.hid (drop_arg HET.out hu)
    have HST := Lib.hid (starts_get (p := 0 + 1) hkl)
    have hk0 : (0 : Int) ≤ (k : Int) := by omega
    clear hu ho haok hta
    go_enter Try.func114, Try.ntmps114
    go_wp2_with fail
    obtain ⟨wo, hwo⟩ : ∃ wo, wo = w.alloc (.cells #[.slice A n c] 31) := ⟨_, rfl⟩
    have hw0 : wo.cell? ⟨w.heap.size, 0, none⟩ = some (.slice A n c) := by rw [hwo]; simp [go_sem]
    have hEo : Ext w wo := by rw [hwo]; (repeat' (first | (with_reducible exact Ext.refl _) | (with_reducible assumption) | (with_reducible refine Ext.alloc ?_ _) | (with_reducible refine Ext.set ?_ ?_ _) | (with_reducible refine Ext.drewN ?_ _) | (with_reducible refine Ext.drew ?_) | (with_reducible refine Ext.trans ?_ (by with_reducible assumption)) | go_size))
    rw [← hwo]
    clear hwo
    obtain ⟨P, hPe⟩ : ∃ P : Nat, 0 + 1 + (flatL (List.take k us)).length = P := ⟨_, rfl⟩
    rw [hPe] at HST HDA
    clear hPe
    have hki : (k : Int) < (us.length : Int) := by omega
    refine wp_region_held_drew (S := (fun w' => w'.cell? ⟨w.heap.size, 0, none⟩ = some (.slice A n c) ∧ Ext wo w')) (by kernel_rfl) ?_ (fun hH => ?_)
    · exact ⟨hw0, (Ext.refl wo).drew⟩
    refine wpAnyH_take_dst (i := 0) (v := .agg #[.slice A n c]) (d := some 16) rfl rfl (by kernel_rfl) (by kernel_rfl) (by kernel_rfl) (fun _ _ _ h => h) (Or.inl ⟨by rfl, ?_⟩) hH ?_
    · (intro w hSw; (try dsimp only at hSw); go_split_ands; go_simp; try with_reducible rfl)
    try simp only [Act.put, List.setIfInBounds_toArray, List.set_cons_zero, List.set_cons_succ]
    refine wpAnyH_take_dst (i := 1) (v := .slice (some ⟨b, o, none⟩) m d) (d := some 17) rfl rfl (by kernel_rfl) (by kernel_rfl) (by kernel_rfl) (fun _ _ _ h => h) (Or.inl ⟨by rfl, ?_⟩) hH ?_
    · (intro w hSw; (try dsimp only at hSw); go_split_ands; go_simp; try with_reducible rfl)
    try simp only [Act.put, List.setIfInBounds_toArray, List.set_cons_zero, List.set_cons_succ]
    refine wpAnyH_take_dst (i := 2) (v := .agg #[.slice A n c]) (d := some 18) rfl rfl (by kernel_rfl) (by kernel_rfl) (by kernel_rfl) (fun _ _ _ h => h) (Or.inl ⟨by rfl, ?_⟩) hH ?_
    · (intro w hSw; (try dsimp only at hSw); go_split_ands; go_simp; try with_reducible rfl)
    try simp only [Act.put, List.setIfInBounds_toArray, List.set_cons_zero, List.set_cons_succ]
    refine wpAnyH_take_dst (i := 3) (v := .slice (some ⟨b, o, none⟩) m d) (d := some 19) rfl rfl (by kernel_rfl) (by kernel_rfl) (by kernel_rfl) (fun _ _ _ h => h) (Or.inl ⟨by rfl, ?_⟩) hH ?_
    · (intro w hSw; (try dsimp only at hSw); go_split_ands; go_simp; try with_reducible rfl)
    try simp only [Act.put, List.setIfInBounds_toArray, List.set_cons_zero, List.set_cons_succ]
    refine wpAnyH_take_dst (i := 5) (v := .int .i64 (k : Int)) (d := some 21) rfl rfl (by kernel_rfl) (by kernel_rfl) (by kernel_rfl) (fun _ _ _ h => h) (Or.inl ⟨by rfl, ?_⟩) hH ?_
    · (intro w hSw; (try dsimp only at hSw); go_split_ands; go_simp; try with_reducible rfl)
    try simp only [Act.put, List.setIfInBounds_toArray, List.set_cons_zero, List.set_cons_succ]
    refine wpAnyH_ready (rs := [4]) (by kernel_rfl) (by simp) ?_
    refine AllReadyH.cons rfl (fun K hK => ?_) AllReadyH.nil
    rw [if_pos (by rfl)]
    go_wp2_with (go_at_call 134; (with_reducible refine ((c_argsK (k := k) (RdSig.mk (RI.ext HA.out (Ext.trans hEo hH.2))) (RdI.mk (RI.ext HB.out (Ext.trans hEo hH.2))) HSG.out HOK.out HET.out hkl HST.out)).mono ?_); rintro e w5 ⟨b5, o5, c5, rfl, hc5, hE9⟩)
    refine hK.out _ _ ⟨Ext.keep hE9 hH.1, Ext.trans hH.2 hE9⟩ (fun hH9 => ?_)
    clear hK hH; have hH := hH9; clear hH9
    try simp only [Act.put, List.setIfInBounds_toArray, List.set_cons_zero, List.set_cons_succ]
    refine wpAnyH_str (S' := fun w' => (w'.cell? ⟨w.heap.size, 0, none⟩ = some (.slice A n c) ∧ Ext wo w') ∧ w'.cell? ⟨b5, o5 + k, none⟩ = some (.int .i64 (P : Int))) (fun _ h => h.1) ?_
    replace hH := (show (fun w' => (w'.cell? ⟨w.heap.size, 0, none⟩ = some (.slice A n c) ∧ Ext wo w') ∧ w'.cell? ⟨b5, o5 + k, none⟩ = some (.int .i64 (P : Int))) _ from ⟨hH, hc5⟩)
    refine wpAnyH_take_dst (i := 6) (v := .pointer (some ⟨b5, o5 + k, none⟩)) (d := some 22) rfl rfl (by kernel_rfl) (by kernel_rfl) (by kernel_rfl) (fun _ _ _ h => h) (Or.inl ⟨by rfl, ?_⟩) hH ?_
    · (intro w hSw; (try dsimp only at hSw); go_split_ands; go_simp; try with_reducible rfl)
    try simp only [Act.put, List.setIfInBounds_toArray, List.set_cons_zero, List.set_cons_succ]
    refine wpAnyH_take_dst (i := 7) (v := .int .i64 (P : Int)) (d := some 23) rfl rfl (by kernel_rfl) (by kernel_rfl) (by kernel_rfl) (fun _ _ _ h => h) (Or.inl ⟨by rfl, ?_⟩) hH ?_
    · (intro w hSw; (try dsimp only at hSw); go_split_ands; go_simp; try with_reducible rfl)
    try simp only [Act.put, List.setIfInBounds_toArray, List.set_cons_zero, List.set_cons_succ]
    refine wpAnyH_ready (rs := [8]) (by kernel_rfl) (by simp) ?_
    refine AllReadyH.cons rfl (fun K hK => ?_) AllReadyH.nil
    rw [if_pos (by rfl)]
    go_wp2_with (go_at_call 121; (with_reducible refine ((c_subAt (u := a) (RdSig.mk (RI.ext HA.out (Ext.trans hEo hH.1.2))) (RdIc.mk HCP.out (RI.ext HB.out (Ext.trans hEo hH.1.2))) HSG.out HAO.out HDA.out)).mono ?_); rintro e w6 ⟨A6, n6, c6, rfl, hcap6, hr6, hE9⟩)
    refine hK.out _ _ ⟨⟨Ext.keep hE9 hH.1.1, Ext.trans hH.1.2 hE9⟩, Ext.keep hE9 hH.2⟩ (fun hH9 => ?_)
    clear hK hH; have hH := hH9; clear hH9
    try simp only [Act.put, List.setIfInBounds_toArray, List.set_cons_zero, List.set_cons_succ]
    refine wpAnyH_take_dst (i := 9) (v := .slice A6 n6 c6) (d := some 6) rfl rfl (by kernel_rfl) (by kernel_rfl) (by kernel_rfl) (fun _ _ _ h => h) (Or.inl ⟨by rfl, ?_⟩) hH ?_
    · (intro w hSw; (try dsimp only at hSw); go_split_ands; go_simp; try with_reducible rfl)
    try simp only [Act.put, List.setIfInBounds_toArray, List.set_cons_zero, List.set_cons_succ]
    refine wpAnyH_done (by kernel_rfl) ?_ _
    have hE6 := Ext.trans hEo hH.1.2
    go_wp2
    go_ret
    rw [HO.out]
    exact ⟨⟨A6, n6, c6, rfl, hcap6, hr6, hE6⟩, fun h => by cases h⟩
theorem c_partsK {v0 v1 : Value} {ar : List Int} {k : Nat} {x : Int} {a : Tm} {us : List Tm} {w : World} (h0 : RdSig w v0 ar) (h1 : RdIc w v1 (Tm.node x us).flat) (hs : SigP ar) (hu : (Tm.node x us).Ok ar) (hk : us[k]? = some a) :
    Calls Try.prog 113 #[v0, v1] w fun e w' => ∃ b o c A' m' c', e = .returned (.slice (some ⟨b, o, none⟩) us.length c) ∧ w'.cell? ⟨b, o + k, none⟩ = some (.slice A' m' c') ∧ (m' ≤ c' ∧ c' ≤ 9223372036854775807) ∧ RI w' A' m' a.flat ∧ Ext w w' :=
  (c_l13Parts h0 h1 hs hu).mono fun _ _ ⟨A, n, c, e, h1, h2, h3⟩ => by
    subst h1
    obtain ⟨b, o, A', m', c', rfl, hc, hcap, hr⟩ := RS.at_ h2 hk
    exact ⟨b, o, c, A', m', c', e, hc, hcap, hr, h3⟩
set_option maxRecDepth 100000 in
set_option maxHeartbeats 4000000 in
theorem c_l18Arg {v0 v1 v2 : Value} {ar pj t : List Int} {o : Option (List Int)} {w : World} (ho : argO ar pj t = o) (h0 : RdSig w v0 ar) (h1 : RdI w v1 pj) (h2 : RdIc w v2 t) (hp : ProjP ar pj) (ht : TermP ar t) (hz : ∀ x, t[0]? = some x → 0 ≤ x) :
    Calls Try.prog 72 #[v0, v1, v2] w fun e w' => NewA w o e w' := by
  subst ho
  obtain ⟨f, us, i, het, hok, ht0, hpi, hneg, hpos⟩ := arg_at hp ht hz
  obtain ⟨A, n, c, rfl, ha⟩ := h0
  obtain ⟨D, q, l, rfl, hd⟩ := h1
  obtain ⟨B, m, d, rfl, hcap, hb⟩ := h2
  have hm1 : 0 < m := by rw [← hb.len]; exact ht.2.1.1
  have hfl : f < pj.length := (List.getElem?_eq_some_iff.1 hpi).1
  have hfq : f < q := by rw [← hd.len]; exact hfl
  obtain ⟨b, o, x, rfl, hx, hcx⟩ := RI.at_ hb hm1
  rw [ht0] at hx; cases hx
  obtain ⟨b', o', y, rfl, hy, hcy⟩ := RI.at_ hd hfq
  rw [hpi] at hy; cases hy
  have hcx0 : w.cell? ⟨b, o, none⟩ = some (.int .i64 (f : Int)) := by simpa using hcx
  have hbl := World.block_lt_of_cell? w _ hcx
  have hbl' := World.block_lt_of_cell? w _ hcy
  have hm1i : (0 : Int) < (m : Int) := by omega
  have hfqi : (f : Int) < (q : Int) := by omega
  have hf0 : (0 : Int) ≤ (f : Int) := by omega
  have HA := Lib.hid ha
  have HB := Lib.hid hb
  have HD := Lib.hid hd
  have HCP := Lib.hid hcap
  have HSG := Lib.hid (show SigP ar from ht.1)
  have HOK := Lib.hid hok
  have HET := Lib.hid het
  have HNEG := Lib.hid hneg
  have HPOS := Lib.hid hpos
  clear ha hb hd hcap hok het hneg hpos ht hz ht0 hpi hp hcx hfl
  by_cases hi : i < 0
  · have HR := Lib.hid (HNEG.out hi)
    go_enter Try.func72, Try.ntmps72
    go_wp2_with fail
    go_ret
    rw [HR.out]
    exact ⟨_, 0, 0, rfl, by omega, RI.nil _ _, by (repeat' (first | (with_reducible exact Ext.refl _) | (with_reducible assumption) | (with_reducible refine Ext.alloc ?_ _) | (with_reducible refine Ext.set ?_ ?_ _) | (with_reducible refine Ext.drewN ?_ _) | (with_reducible refine Ext.drew ?_) | (with_reducible refine Ext.trans ?_ (by with_reducible assumption)) | go_size))⟩
  · obtain ⟨a, hu, ho, haok, hta⟩ := HPOS.out (by omega)
    obtain ⟨k, rfl⟩ := Int.eq_ofNat_of_zero_le (show 0 ≤ i by omega)
    rw [Int.toNat_natCast] at hu
    have hkl : k < us.length := (List.getElem?_eq_some_iff.1 hu).1
    have HO := Lib.hid ho
    have HU := Lib.hid hu
    have hk0 : (0 : Int) ≤ (k : Int) := by omega
    have hki : (k : Int) < (us.length : Int) := by omega
    clear hu ho haok hta
    go_enter Try.func72, Try.ntmps72
    go_wp2_with fail
    obtain ⟨wo, hwo⟩ : ∃ wo, wo = w.alloc (.cells #[.slice A n c] 31) := ⟨_, rfl⟩
    have hw0 : wo.cell? ⟨w.heap.size, 0, none⟩ = some (.slice A n c) := by rw [hwo]; simp [go_sem]
    have hEo : Ext w wo := by rw [hwo]; (repeat' (first | (with_reducible exact Ext.refl _) | (with_reducible assumption) | (with_reducible refine Ext.alloc ?_ _) | (with_reducible refine Ext.set ?_ ?_ _) | (with_reducible refine Ext.drewN ?_ _) | (with_reducible refine Ext.drew ?_) | (with_reducible refine Ext.trans ?_ (by with_reducible assumption)) | go_size))
    rw [← hwo]
    clear hwo
    have hx0 := Ext.keep hEo hcx0
    have hy0 := Ext.keep hEo hcy
    refine wp_region_held_drew (S := (fun w' => w'.cell? ⟨w.heap.size, 0, none⟩ = some (.slice A n c) ∧ w'.cell? ⟨b, o, none⟩ = some (.int .i64 (f : Int)) ∧ w'.cell? ⟨b', o' + f, none⟩ = some (.int .i64 (k : Int)) ∧ Ext wo w')) (by kernel_rfl) ?_ (fun hH => ?_)
    · exact ⟨hw0, hx0, hy0, (Ext.refl wo).drew⟩
    refine wpAnyH_take_dst (i := 0) (v := .agg #[.slice A n c]) (d := some 15) rfl rfl (by kernel_rfl) (by kernel_rfl) (by kernel_rfl) (fun _ _ _ h => h) (Or.inl ⟨by rfl, ?_⟩) hH ?_
    · (intro w hSw; (try dsimp only at hSw); go_split_ands; go_simp; try with_reducible rfl)
    try simp only [Act.put, List.setIfInBounds_toArray, List.set_cons_zero, List.set_cons_succ]
    refine wpAnyH_take_dst (i := 1) (v := .slice (some ⟨b, o, none⟩) m d) (d := some 16) rfl rfl (by kernel_rfl) (by kernel_rfl) (by kernel_rfl) (fun _ _ _ h => h) (Or.inl ⟨by rfl, ?_⟩) hH ?_
    · (intro w hSw; (try dsimp only at hSw); go_split_ands; go_simp; try with_reducible rfl)
    try simp only [Act.put, List.setIfInBounds_toArray, List.set_cons_zero, List.set_cons_succ]
    refine wpAnyH_take_dst (i := 3) (v := .slice (some ⟨b', o', none⟩) q l) (d := some 18) rfl rfl (by kernel_rfl) (by kernel_rfl) (by kernel_rfl) (fun _ _ _ h => h) (Or.inl ⟨by rfl, ?_⟩) hH ?_
    · (intro w hSw; (try dsimp only at hSw); go_split_ands; go_simp; try with_reducible rfl)
    try simp only [Act.put, List.setIfInBounds_toArray, List.set_cons_zero, List.set_cons_succ]
    refine wpAnyH_take_dst (i := 4) (v := .slice (some ⟨b, o, none⟩) m d) (d := some 19) rfl rfl (by kernel_rfl) (by kernel_rfl) (by kernel_rfl) (fun _ _ _ h => h) (Or.inl ⟨by rfl, ?_⟩) hH ?_
    · (intro w hSw; (try dsimp only at hSw); go_split_ands; go_simp; try with_reducible rfl)
    try simp only [Act.put, List.setIfInBounds_toArray, List.set_cons_zero, List.set_cons_succ]
    refine wpAnyH_take_dst (i := 5) (v := .pointer (some ⟨b, o, none⟩)) (d := some 20) rfl rfl (by kernel_rfl) (by kernel_rfl) (by kernel_rfl) (fun _ _ _ h => h) (Or.inl ⟨by rfl, ?_⟩) hH ?_
    · (intro w hSw; (try dsimp only at hSw); go_split_ands; go_simp; try with_reducible rfl)
    try simp only [Act.put, List.setIfInBounds_toArray, List.set_cons_zero, List.set_cons_succ]
    refine wpAnyH_take_dst (i := 6) (v := .int .i64 (f : Int)) (d := some 21) rfl rfl (by kernel_rfl) (by kernel_rfl) (by kernel_rfl) (fun _ _ _ h => h) (Or.inl ⟨by rfl, ?_⟩) hH ?_
    · (intro w hSw; (try dsimp only at hSw); go_split_ands; go_simp; try with_reducible rfl)
    try simp only [Act.put, List.setIfInBounds_toArray, List.set_cons_zero, List.set_cons_succ]
    refine wpAnyH_take_dst (i := 7) (v := .pointer (some ⟨b', o' + f, none⟩)) (d := some 22) rfl rfl (by kernel_rfl) (by kernel_rfl) (by kernel_rfl) (fun _ _ _ h => h) (Or.inl ⟨by rfl, ?_⟩) hH ?_
    · (intro w hSw; (try dsimp only at hSw); go_split_ands; go_simp; try with_reducible rfl)
    try simp only [Act.put, List.setIfInBounds_toArray, List.set_cons_zero, List.set_cons_succ]
    refine wpAnyH_take_dst (i := 8) (v := .int .i64 (k : Int)) (d := some 23) rfl rfl (by kernel_rfl) (by kernel_rfl) (by kernel_rfl) (fun _ _ _ h => h) (Or.inl ⟨by rfl, ?_⟩) hH ?_
    · (intro w hSw; (try dsimp only at hSw); go_split_ands; go_simp; try with_reducible rfl)
    try simp only [Act.put, List.setIfInBounds_toArray, List.set_cons_zero, List.set_cons_succ]
    refine wpAnyH_ready (rs := [2]) (by kernel_rfl) (by simp) ?_
    refine AllReadyH.cons rfl (fun K hK => ?_) AllReadyH.nil
    rw [if_pos (by rfl)]
    go_wp2_with (go_at_call 113; (with_reducible refine ((c_partsK (a := a) (RdSig.mk (RI.ext HA.out (Ext.trans hEo hH.2.2.2))) (RdIc.mk HCP.out (by rw [← HET.out]; exact RI.ext HB.out (Ext.trans hEo hH.2.2.2))) HSG.out HOK.out HU.out)).mono ?_); rintro e w5 ⟨b5, o5, c5, A6, n6, c6, rfl, hc5, hcap6, hr6, hE9⟩)
    refine hK.out _ _ ⟨Ext.keep hE9 hH.1, Ext.keep hE9 hH.2.1, Ext.keep hE9 hH.2.2.1, Ext.trans hH.2.2.2 hE9⟩ (fun hH9 => ?_)
    clear hK hH; have hH := hH9; clear hH9
    try simp only [Act.put, List.setIfInBounds_toArray, List.set_cons_zero, List.set_cons_succ]
    refine wpAnyH_str (S' := fun w' => (w'.cell? ⟨w.heap.size, 0, none⟩ = some (.slice A n c) ∧ w'.cell? ⟨b, o, none⟩ = some (.int .i64 (f : Int)) ∧ w'.cell? ⟨b', o' + f, none⟩ = some (.int .i64 (k : Int)) ∧ Ext wo w') ∧ w'.cell? ⟨b5, o5 + k, none⟩ = some (.slice A6 n6 c6)) (fun _ h => h.1) ?_
    replace hH := (show (fun w' => (w'.cell? ⟨w.heap.size, 0, none⟩ = some (.slice A n c) ∧ w'.cell? ⟨b, o, none⟩ = some (.int .i64 (f : Int)) ∧ w'.cell? ⟨b', o' + f, none⟩ = some (.int .i64 (k : Int)) ∧ Ext wo w') ∧ w'.cell? ⟨b5, o5 + k, none⟩ = some (.slice A6 n6 c6)) _ from ⟨hH, hc5⟩)
    refine wpAnyH_take_dst (i := 9) (v := .pointer (some ⟨b5, o5 + k, none⟩)) (d := some 24) rfl rfl (by kernel_rfl) (by kernel_rfl) (by kernel_rfl) (fun _ _ _ h => h) (Or.inl ⟨by rfl, ?_⟩) hH ?_
    · (intro w hSw; (try dsimp only at hSw); go_split_ands; go_simp; try with_reducible rfl)
    try simp only [Act.put, List.setIfInBounds_toArray, List.set_cons_zero, List.set_cons_succ]
    refine wpAnyH_take_dst (i := 10) (v := .slice A6 n6 c6) (d := some 25) rfl rfl (by kernel_rfl) (by kernel_rfl) (by kernel_rfl) (fun _ _ _ h => h) (Or.inl ⟨by rfl, ?_⟩) hH ?_
    · (intro w hSw; (try dsimp only at hSw); go_split_ands; go_simp; try with_reducible rfl)
    try simp only [Act.put, List.setIfInBounds_toArray, List.set_cons_zero, List.set_cons_succ]
    refine wpAnyH_take_dst (i := 11) (v := .slice A6 n6 c6) (d := some 6) rfl rfl (by kernel_rfl) (by kernel_rfl) (by kernel_rfl) (fun _ _ _ h => h) (Or.inl ⟨by rfl, ?_⟩) hH ?_
    · (intro w hSw; (try dsimp only at hSw); go_split_ands; go_simp; try with_reducible rfl)
    try simp only [Act.put, List.setIfInBounds_toArray, List.set_cons_zero, List.set_cons_succ]
    refine wpAnyH_done (by kernel_rfl) ?_ _
    have hE6 := Ext.trans hEo hH.1.2.2.2
    go_wp2
    go_ret
    rw [HO.out]
    exact ⟨A6, n6, c6, rfl, hcap6, hr6, hE6⟩

end Go.Proofs.Ytccahngnnfohcaa
