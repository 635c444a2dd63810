/- The reference's functions on places of right terms. -/
import Derived.Test.YtempekmenkeigaaArgs
import Derived.Test.YtempekmenkeigaaTermOk
namespace Go.Proofs.Ytempekmenkeigaa
open Go.RowKit
set_option linter.unusedSimpArgs false
set_option linter.unusedVariables false

/-- A slice of lists. -/
def RS (w : World) (A : Option Addr) (n : Nat) (xss : List (List Int)) : Prop :=
  (xss.length = n ∧ n ≤ 4194304) ∧ ∀ (j : Nat) (xs : List Int), xss[j]? = some xs → ∃ b o v, A = some ⟨b, o, none⟩ ∧ w.cell? ⟨b, o + j, none⟩ = some v ∧ RdIc w v xs
theorem RS.ext {w w' : World} {A : Option Addr} {n : Nat} {xss : List (List Int)} (h : RS w A n xss) (k : Ext w w') : RS w' A n xss :=
  ⟨h.1, fun j xs hx => by
    obtain ⟨b, o, v, e, h1, h2⟩ := h.2 j xs hx
    exact ⟨b, o, v, e, Ext.keep k h1, h2.ext k⟩⟩
theorem RS.at_ {w : World} {A : Option Addr} {n j : Nat} {us : List Tm} {a : Tm} (h : RS w A n (us.map Tm.flat)) (ha : us[j]? = some a) :
    ∃ b o A' m' c', A = some ⟨b, o, none⟩ ∧ w.cell? ⟨b, o + j, none⟩ = some (.slice A' m' c') ∧ (m' ≤ c' ∧ c' ≤ 9223372036854775807) ∧ RI w A' m' a.flat := by
  obtain ⟨b, o, v, e, h1, A', m', c', rfl, h2, h3⟩ := h.2 j a.flat (by rw [List.getElem?_map, ha]; rfl)
  exact ⟨b, o, A', m', c', e, h1, h2, h3⟩
/-- A slice of lists of the call's own; the lists themselves lie in memory of before. -/
def OwS (w0 w : World) (B : Nat) (A : Option Addr) (n c : Nat) (xss : List (List Int)) : Prop :=
  n ≤ 4194304 ∧ ∃ vs, w.ownsRow B 22 1 (.slice A n c) n vs ∧ xss.length = n ∧ ∀ (j : Nat) (v : Value) (xs : List Int), vs[j]? = some v → xss[j]? = some xs → RdIc w0 v xs
section
variable {w0 w w' : World} {B : Nat} {A : Option Addr} {n c : Nat} {xss : List (List Int)}
theorem OwS.rs (h : OwS w0 w B A n c xss) (k : Ext w0 w) : RS w A n xss := by
  obtain ⟨hn, vs, ho, hl, hr⟩ := h
  refine ⟨⟨hl, hn⟩, fun j xs hx => ?_⟩
  have hj : j < n := by have := (List.getElem?_eq_some_iff.1 hx).1; omega
  have hvl : vs.length = n := by have := ho.1; simpa using this
  obtain ⟨g, cap, hv, _, hlt⟩ := World.ownsRow.form ho (by omega)
  cases hv
  have hc := World.ownsRow.cellAt ho j (by omega)
  have hvj : vs[j]? = some (vs[j]'(by omega)) := List.getElem?_eq_getElem (by omega)
  exact ⟨g, 0, _, rfl, by rw [Nat.zero_add, hc, hvj], (hr j _ xs hvj hx).ext k⟩
theorem OwS.ext (h : OwS w0 w B A n c xss) (k : Ext w w') : OwS w0 w' B A n c xss := by
  obtain ⟨hn, vs, ho, hl, hr⟩ := h
  refine ⟨hn, vs, ⟨ho.1, ?_⟩, hl, hr⟩
  rcases ho.2 with h2 | ⟨g, cap, cur, hv, hg, hh, r⟩
  · exact .inl h2
  · exact .inr ⟨g, cap, cur, hv, hg, (k.block g (Array.getElem?_eq_some_iff.1 hh).1).trans hh, r⟩
end
theorem one_slice (A : Option Addr) (n c : Nat) : ∀ u ∈ [Value.slice A n c], u.oneCell' = true := by intro u hu; simp at hu; subst hu; rfl
theorem OwS.step {w0 wx : World} {B : Nat} {g k cap : Nat} {xss : List (List Int)} {v : Value} {xs : List Int} {vs : List Value} (hn : k + 1 ≤ 4194304) (hl : xss.length = k)
    (hr : ∀ (j : Nat) (v : Value) (xs : List Int), vs[j]? = some v → xss[j]? = some xs → RdIc w0 v xs) (hvl : vs.length = k) (hv : RdIc w0 v xs)
    (hown : wx.ownsRow B 22 1 (.slice (some ⟨g, 0, none⟩) (k + 1) cap) (k + 1) (vs ++ [v])) : OwS w0 wx B (some ⟨g, 0, none⟩) (k + 1) cap (xss ++ [xs]) := by
  refine ⟨hn, _, hown, by simp [hl], fun j u ys h1 h2 => ?_⟩
  rcases Nat.lt_or_ge j k with h | h
  · rw [List.getElem?_append_left (by omega)] at h1
    rw [List.getElem?_append_left (by omega)] at h2
    exact hr j u ys h1 h2
  · have hj : j = k := by have := (List.getElem?_eq_some_iff.1 h1).1; simp [hvl] at this; omega
    subst hj
    rw [List.getElem?_append_right (by omega), hvl, Nat.sub_self] at h1
    rw [List.getElem?_append_right (by omega), hl, Nat.sub_self] at h2
    cases h1; cases h2
    exact hv

set_option maxRecDepth 100000 in
set_option maxHeartbeats 2000000 in
theorem c_l13End {v0 v1 : Value} {ar t rest : List Int} {p : Nat} {u : Tm} {w : World} (h0 : RdSig w v0 ar) (h1 : RdI w v1 t) (hs : SigP ar) (hu : u.Ok ar) (hd : t.drop p = u.flat ++ rest) :
    Calls Try.prog 63 #[v0, v1, .int .i64 (p : Int)] w fun e w' => e = .returned (.int .i64 ((p + u.flat.length : Nat) : Int)) ∧ Ext w w' := by
  have hend := endI_flat hu hd
  have hpl := drop_lt hd (flat_pos u)
  obtain ⟨A, n, c, rfl, ha⟩ := h0
  obtain ⟨B, m, d, rfl, hb⟩ := h1
  have hm := hb.le
  have hml := hb.len
  have HN := Lib.hid ha.len
  have HA := Lib.hid ha
  have HB := Lib.hid hb
  have HS := Lib.hid hs
  have HE := Lib.hid hend
  have HM := Lib.hid hml
  have hpm : p ≤ m := by omega
  clear ha hb hs hend hml hd hu hpl
  go_enter Try.func63, Try.ntmps63
  go_wp2_with fail
  obtain ⟨wo, hwo⟩ : ∃ wo, wo = w.alloc (.cells #[.slice A n c] 31) := ⟨_, rfl⟩
  have hb0 : wo.cell? ⟨w.heap.size, 0, none⟩ = some (.slice A n c) := by rw [hwo]; simp [go_sem]
  have hEo : Ext w wo := by rw [hwo]; exact extX
  rw [← hwo]
  clear hwo
  go_loopw [2, 7] (fun i nn wr => ∃ q nd : Nat, i = .int .i64 q ∧ nn = .int .i64 nd ∧ nd ≤ 1 + 3 * q ∧ q ≤ m ∧ Hid (ScanAt (arI ar) t p q nd) ∧ Ext wo wr) (fun i _ _ => m + 1 - (intOf i).toNat)
  case atStart => exact ⟨p, 1, rfl, rfl, by omega, by omega, Lib.hid (ScanAt.start (by rw [HM.out]; exact hpm)), by exact extX⟩
  case round =>
    obtain ⟨q, nd, rfl, rfl, hnd, hqm, hsc, hE⟩ := hrel
    have hr0 : wr.cell? ⟨w.heap.size, 0, none⟩ = some (.slice A n c) := Ext.keep hE hb0
    rcases nd with _ | nd
    · go_wp2
      go_ret
      exact ⟨ret_int (hsc.out.done.symm.trans HE.out), by exact extX⟩
    · by_cases hq : q = m
      · exfalso
        have h1 := hsc.out.out (by rw [HM.out]; exact hq)
        have h2 : endF (arI ar) t p = _ := HE.out
        rw [h1] at h2; omega
      · have hq' : q < m := by omega
        obtain ⟨b, o, x, rfl, hx, hcx⟩ := RI.at_ (RI.ext HB.out (by exact extX : Ext w wr)) hq'
        rcases hf : arI ar x with _ | a
        · exfalso
          have h1 := hsc.out.bad hx hf
          have h2 : endF (arI ar) t p = _ := HE.out
          rw [h1] at h2; omega
        · have ha3 := arI_le HS.out hf
          have HSC := Lib.hid (hsc.out.step hx hf)
          have hxl := arI_lt hf
          rw [HN.out] at hxl
          have hqi : (q : Int) < (m : Int) := by omega
          by_cases hx0 : x < 0
          · have ha0 : a = 0 := by rw [arI_neg hx0] at hf; cases hf; rfl
            subst ha0
            clear hf hx
            go_wp2
            go_roundw
            case rel => exact ⟨q + 1, nd, by go_num, by go_num, by omega, by omega, HSC, by exact extX⟩
            case measure => simp only [intOf]; omega
          · obtain ⟨z0, rfl⟩ := Int.eq_ofNat_of_zero_le (show 0 ≤ x by omega)
            have hzn : z0 < n := by omega
            obtain ⟨b2, o2, s, rfl, hs2, hcs⟩ := RI.at_ (RI.ext HA.out (by exact extX : Ext w wr)) hzn
            have has : (s : Int) = (a : Int) := by
              rw [arI_at (by omega) (by rw [Int.toNat_natCast]; exact hs2)] at hf
              have := HS.out.2.2 s (List.mem_of_getElem? hs2)
              injection hf with hf; omega
            subst has
            clear hf hx hs2
            go_wp2_with fail
            go_quiet (fail)
            go_wp2
            go_roundw
            case rel => exact ⟨q + 1, nd + a, by go_num, by go_num, by omega, by omega, HSC, by exact extX⟩
            case measure => simp only [intOf]; omega
theorem alloc_at (w : World) (o : Obj) : (w.alloc o).heap[w.heap.size]? = some o := by show (w.heap.push o)[w.heap.size]? = some o; simp
theorem slices_info : (Try.prog.info? 22).map (fun i => (i.zero, i.size, i.bytes)) = some (some (.slice none 0 0), 1, 24) := by kernel_rfl
set_option maxRecDepth 100000 in
set_option maxHeartbeats 2000000 in
theorem c_l13Parts {v0 v1 : Value} {ar : List Int} {x : Int} {us : List Tm} {w : World} (h0 : RdSig w v0 ar) (h1 : RdIc w v1 (Tm.node x us).flat) (hs : SigP ar) (hu : (Tm.node x us).Ok ar) :
    Calls Try.prog 99 #[v0, v1] w fun e w' => ∃ A n c, e = .returned (.slice A n c) ∧ n = us.length ∧ RS w' A n (us.map Tm.flat) ∧ Ext w w' := by
  obtain ⟨A, n, c, rfl, ha⟩ := h0
  obtain ⟨B, m, d, rfl, ⟨hmd, hd⟩, hb⟩ := h1
  have hm := hb.le
  have hml := hb.len
  have hnl := ha.len
  have hfl : (flatL us).length + 1 = (Tm.node x us).flat.length := by rw [flat_node]; rfl
  obtain ⟨hok, hol⟩ := Ok_node.1 hu
  have hal : us.length ≤ 3 := arI_le hs hok
  obtain ⟨b, o, y, rfl, hy, hcy⟩ := RI.at_ hb (show 0 < m by omega)
  rw [flat_node] at hy
  cases hy
  rw [Nat.add_zero] at hcy
  have hbl : b < w.heap.size := World.block_lt_of_cell? w _ hcy
  have hm0 : (0 : Int) < (m : Int) := by omega
  obtain ⟨i0, hii, hiz, his, hib⟩ := info_parts slices_info
  have HA := Lib.hid ha
  have HB := Lib.hid hb
  have HS := Lib.hid hs
  have HOK := Lib.hid hok
  have HOL := Lib.hid (OkL_iff.1 hol)
  have HFL := Lib.hid hfl
  have HM := Lib.hid hml
  have hxl := arI_lt hok
  clear ha hb hs hok hol hu hml
  by_cases hx0 : x < 0
  · have ha0 : us.length = 0 := by have := HOK.out; rw [arI_neg hx0] at this; injection this with this; exact this.symm
    have ha1 : us = [] := List.eq_nil_of_length_eq_zero ha0
    go_enter Try.func99, Try.ntmps99
    go_wp2
    go_ret
    exact ⟨_, _, _, rfl, by rw [ha0], ⟨⟨by simp [ha0], by omega⟩, fun j xs hx => by rw [ha1] at hx; simp at hx⟩, by exact extX⟩
  · obtain ⟨z0, rfl⟩ := Int.eq_ofNat_of_zero_le (show 0 ≤ x by omega)
    have hzn : z0 < n := by omega
    obtain ⟨b2, o2, s, rfl, hs2, hcs⟩ := RI.at_ HA.out hzn
    have has : (s : Int) = (us.length : Int) := by
      have hf := HOK.out
      rw [arI_at (by omega) (by rw [Int.toNat_natCast]; exact hs2)] at hf
      have := HS.out.2.2 s (List.mem_of_getElem? hs2)
      injection hf with hf; omega
    subst has
    have hzi : (z0 : Int) < (n : Int) := by omega
    have hbl2 : b2 < w.heap.size := World.block_lt_of_cell? w _ hcs
    clear hs2 hfl hnl hxl
    go_enter Try.func99, Try.ntmps99
    go_wp2_with fail
    obtain ⟨wo, hwo⟩ : ∃ wo, wo = (w.alloc (.cells #[.slice (some ⟨b2, o2, none⟩) n c] 31)).alloc (.cells #[] 22) := ⟨_, rfl⟩
    have hb0 : wo.cell? ⟨w.heap.size, 0, none⟩ = some (.slice (some ⟨b2, o2, none⟩) n c) := by rw [hwo]; simp [go_sem]
    have hh0 : wo.heap[w.heap.size + 1]? = some (.cells #[] 22 (0, 0)) := by rw [hwo]; have := alloc_at (w.alloc (.cells #[.slice (some ⟨b2, o2, none⟩) n c] 31)) (.cells #[] 22); rwa [World.size_alloc] at this
    have hsz0 : wo.heap.size = w.heap.size + 2 := by rw [hwo]; simp [go_sem]
    have hEo : Ext w wo := by rw [hwo]; exact extX
    rw [← hwo]
    clear hwo
    go_loopw [5, 6, 7] (fun ov av kv wr => ∃ k : Nat, kv = .int .i64 k ∧ k ≤ us.length ∧ (∃ q : Nat, av = .int .i64 (q : Int) ∧ Hid (q = 1 + (flatL (us.take k)).length) ∧ q ≤ m) ∧ (∃ g c, ov = .slice (some ⟨g, 0, none⟩) k c ∧ Hid (OwS w wr (w.heap.size + 1) (some ⟨g, 0, none⟩) k c ((us.take k).map Tm.flat))) ∧ Ext w wr ∧ wr.cell? ⟨w.heap.size, 0, none⟩ = some (.slice (some ⟨b2, o2, none⟩) n c)) (fun _ _ kv _ => us.length - (intOf kv).toNat)
    case atStart => exact ⟨0, rfl, Nat.zero_le _, ⟨1, by go_num, Lib.hid (by simp [flatL_nil]), by omega⟩, ⟨w.heap.size + 1, 0, rfl, Lib.hid ⟨by omega, [], ⟨rfl, .inr ⟨w.heap.size + 1, 0, #[], rfl, Nat.le_refl _, hh0, Nat.le_refl _, by decide, rfl, rfl⟩⟩, by simp, fun j v xs h => by simp at h⟩⟩, hEo, hb0⟩
    case round =>
      obtain ⟨k, rfl, hk, ⟨q, rfl, hq, hqm⟩, ⟨g, c1, rfl, hO⟩, hE, hr0⟩ := hrel
      have hcx : wr.cell? ⟨b, o, none⟩ = some (.int .i64 (z0 : Int)) := Ext.keep hE hcy
      have hcz : wr.cell? ⟨b2, o2 + z0, none⟩ = some (.int .i64 (us.length : Int)) := Ext.keep hE hcs
      by_cases hlt : k < us.length
      · obtain ⟨a, hak⟩ : ∃ a, us[k]? = some a := ⟨us[k], List.getElem?_eq_getElem hlt⟩
        have hda := drop_arg (x := (z0 : Int)) (t := (Tm.node (z0 : Int) us).flat) (p := 0) (rest := []) (by simp) hak
        rw [Nat.zero_add, ← hq.out] at hda
        have hao := HOL.out a (List.mem_of_getElem? hak)
        have hqa := drop_lt hda (flat_pos a)
        have hal2 := flat_pos a
        rw [HM.out] at hqa
        have hst : (us.take (k + 1)).map Tm.flat = (us.take k).map Tm.flat ++ [a.flat] := by rw [take_snoc hak]; simp
        have hfk : (flatL (us.take (k + 1))).length = (flatL (us.take k)).length + a.flat.length := by
          rw [take_snoc hak, flatL_append, flatL_cons, flatL_nil, List.append_nil, List.length_append]
        have HDA := Lib.hid hda
        have HAO := Lib.hid hao
        have HST := Lib.hid hst
        have HFK := Lib.hid hfk
        clear hda hao hst hfk hak
        have hlt' : (k : Int) < (us.length : Int) := by omega
        go_wp2_with fail
        go_quiet (fail)
        have hEd : Ext w (wr.drewN nq) := by exact extX
        have hrd : (wr.drewN nq).cell? ⟨w.heap.size, 0, none⟩ = some (.slice (some ⟨b2, o2, none⟩) n c) := hr0
        have hqd : (q : Int) ≤ ((q + a.flat.length : Nat) : Int) := by omega
        have hqd2 : ((q + a.flat.length : Nat) : Int) ≤ (d : Int) := by omega
        have hqd3 : (0 : Int) ≤ (q : Int) := by omega
        go_wp2_with fail
        (with_reducible refine (c_l13End (u := a) (RdSig.mk (RI.ext HA.out (by exact extX))) (RdI.mk (RI.ext HB.out (by exact extX))) HS.out HAO.out HDA.out).mono ?_)
        rintro e w5 ⟨rfl, hE5⟩
        have hE6 : Ext wr w5 := Ext.trans (Ext.drewN (Ext.refl _) _) hE5
        obtain ⟨hn5, vs, hown5, hl5, hr5⟩ := hO.out.ext hE6
        have hvl : vs.length = k := by have := hown5.1; simpa using this
        have HRI := Lib.hid (RdIc.mk (c := d - q) (by omega) (RI.sub HB.out HDA.out))
        have HR5 := Lib.hid hr5
        have hb5 : w5.cell? ⟨w.heap.size, 0, none⟩ = some (.slice (some ⟨b2, o2, none⟩) n c) := Ext.keep hE6 hr0
        have hE7 : Ext w w5 := by exact extX
        have hsz7 := hE7.size
        have hlt5 : w.heap.size < w5.heap.size := World.block_lt_of_cell? w5 _ hb5
        have hl8 : ((us.take k).map Tm.flat).length = k := hl5
        have HWN := Lib.hid hown5
        clear hn5 hl5 hr5 hown5 hO
        go_wp2_with (at_builtin; go_loud (refine wpList_append_lies _ rfl (.tmp 30) (.tmp 35) 29 rfl (w.heap.size + 1) 22 i0 (.slice none 0 0) 1 24 Try.underlying29 hii hiz his hib rfl (by decide) _ _ vs rfl (World.ownsRow.alloc HWN.out _) ⟨w5.heap.size, 0, none⟩ 1 1 [.slice (some ⟨b, o + q, none⟩) a.flat.length (d - q)] rfl rfl (one_cells _ _ _) (one_slice _ _ _) (by decide) (by unfold maxLen; omega) (by omega) (by simp [go_sem]; omega) _ rfl ?_))
        intro g2 cap2 wx hown hg hat hltg
        have hE8 : Ext w wx := Ext.grown (hE7.alloc _) hg (fun k' hk' => by have := World.ownsRow.lt HWN.out _ hk'; omega)
        have hbx : wx.cell? ⟨w.heap.size, 0, none⟩ = some (.slice (some ⟨b2, o2, none⟩) n c) := (hg.cell_far ⟨w.heap.size, 0, none⟩ (by simp [go_sem]; omega) (fun e => by have := World.ownsRow.lt HWN.out _ e.symm; simp at this; omega)).trans ((World.cell?_alloc_past _ _ _ (by omega)).trans hb5)
        have HNEW := Lib.hid (OwS.step (by omega) hl8 HR5.out hvl HRI.out hown)
        clear hown hg hat
        go_wp2
        go_roundw
        case rel => exact ⟨k + 1, by go_num, by omega, ⟨q + a.flat.length, by go_num, Lib.hid (by rw [HFK.out, hq.out]; omega), by omega⟩, ⟨_, _, rfl, by rw [HST.out]; exact HNEW⟩, hE8, hbx⟩
        case measure => simp only [intOf]; omega
      · have hkn : k = us.length := by omega
        have hlt' : decide ((k : Int) < (us.length : Int)) = false := by simp; omega
        go_wp2_with fail
        go_quiet (fail)
        go_wp2
        go_ret
        exact ⟨_, _, _, rfl, hkn, by have := hO.out.rs hE; rw [hkn, List.take_length] at this; rw [hkn]; exact this.ext (by exact extX), by exact extX⟩

end Go.Proofs.Ytempekmenkeigaa
