/- The reference's path orders: the table is made. -/
import Derived.Test.YtejmlbcafemieaaLpsR
import Derived.Test.YtejmlbcafemieaaLpsG
namespace Go.Proofs.Ytejmlbcafemieaa
open Go.RowKit
set_option linter.unusedSimpArgs false
set_option linter.unusedVariables false

set_option maxRecDepth 100000 in
set_option maxHeartbeats 4000000 in
theorem c_l13Args {v0 v1 : Value} {ar t rest : List Int} {p : Nat} {x : Int} {us : List Tm} {w : World} (h0 : RdSig w v0 ar) (h1 : RdI w v1 t) (hs : SigP ar) (hu : (Tm.node x us).Ok ar) (hd : t.drop p = (Tm.node x us).flat ++ rest) :
    Calls Try.prog 138 #[v0, v1, .int .i64 (p : Int)] w fun e w' => ∃ A c, e = .returned (.slice A us.length c) ∧ OwN w' w.heap.size A us.length c (starts (p + 1) us) ∧ Ext w w' := by
  obtain ⟨A, n, c, rfl, ha⟩ := h0
  obtain ⟨B, m, d, rfl, hb⟩ := h1
  have hm := hb.le
  have hml := hb.len
  have hnl := ha.len
  have hlt := drop_lt hd (flat_pos _)
  rw [hml] at hlt
  have hfl : (flatL us).length + 1 = (Tm.node x us).flat.length := by rw [flat_node]; rfl
  obtain ⟨hok, hol⟩ := Ok_node.1 hu
  have hal : us.length ≤ 3 := arI_le hs hok
  obtain ⟨b, o, y, rfl, hy, hcy⟩ := RI.at_ hb (show p < m by omega)
  rw [at_of hd] at hy; cases hy
  have hbl : b < w.heap.size := World.block_lt_of_cell? w _ hcy
  have hpm : (p : Int) < (m : Int) := by omega
  have hp0 : (0 : Int) ≤ (p : Int) := by omega
  obtain ⟨i0, hii, hiz, his, hib⟩ := info_parts int_info
  have HA := Lib.hid ha
  have HB := Lib.hid hb
  have HS := Lib.hid hs
  have HD := Lib.hid hd
  have HOK := Lib.hid hok
  have HOL := Lib.hid (OkL_iff.1 hol)
  have HFL := Lib.hid hfl
  have HM := Lib.hid hml
  have hxl := arI_lt hok
  clear ha hb hs hd hok hol hu hml
  by_cases hx0 : x < 0
  · have ha0 : us.length = 0 := by have := HOK.out; rw [arI_neg hx0] at this; injection this with this; exact this.symm
    have ha1 : us = [] := List.eq_nil_of_length_eq_zero ha0
    subst ha1
    go_enter Try.func138, Try.ntmps138
    go_wp2
    go_ret
    exact ⟨some ⟨w.heap.size + 1, 0, none⟩, 0, rfl, (by
      have := OwN.none0 (w := w.alloc (.cells #[.slice A n c] 29)) (D := w.heap.size) (by simp [go_sem])
      rw [World.size_alloc] at this
      exact this), by (repeat' (first | (with_reducible exact Ext.refl _) | (with_reducible assumption) | (with_reducible refine Ext.alloc ?_ _) | (with_reducible refine Ext.set ?_ ?_ _) | (with_reducible refine Ext.drewN ?_ _) | (with_reducible refine Ext.drew ?_) | (with_reducible refine Ext.trans ?_ (by with_reducible assumption)) | go_size))⟩
  · obtain ⟨z0, rfl⟩ := Int.eq_ofNat_of_zero_le (show 0 ≤ x by omega)
    have hzn : z0 < n := by omega
    obtain ⟨b2, o2, s, rfl, hs2, hcs⟩ := RI.at_ HA.out hzn
    have has : (s : Int) = (us.length : Int) := by
      have hf := HOK.out
      rw [arI_at (by omega) (by rw [Int.toNat_natCast]; exact hs2)] at hf
      have := HS.out.2.2 s (List.mem_of_getElem? hs2)
      injection hf with hf; omega
    subst has
    have hzi : (z0 : Int) < (n : Int) := by omega
    have hbl2 : b2 < w.heap.size := World.block_lt_of_cell? w _ hcs
    clear hs2 hfl hnl hxl
    go_enter Try.func138, Try.ntmps138
    go_wp2_with fail
    obtain ⟨wo, hwo⟩ : ∃ wo, wo = (w.alloc (.cells #[.slice (some ⟨b2, o2, none⟩) n c] 29)).alloc (.cells #[] 3) := ⟨_, rfl⟩
    have hb0 : wo.cell? ⟨w.heap.size, 0, none⟩ = some (.slice (some ⟨b2, o2, none⟩) n c) := by rw [hwo]; simp [go_sem]
    have HO0 := Lib.hid (show OwN wo w.heap.size (some ⟨w.heap.size + 1, 0, none⟩) 0 0 [] by
      have := OwN.none0 (w := w.alloc (.cells #[.slice (some ⟨b2, o2, none⟩) n c] 29)) (D := w.heap.size) (by simp [go_sem])
      rw [World.size_alloc] at this
      rw [hwo]; exact this)
    have hEo : Ext w wo := by rw [hwo]; (repeat' (first | (with_reducible exact Ext.refl _) | (with_reducible assumption) | (with_reducible refine Ext.alloc ?_ _) | (with_reducible refine Ext.set ?_ ?_ _) | (with_reducible refine Ext.drewN ?_ _) | (with_reducible refine Ext.drew ?_) | (with_reducible refine Ext.trans ?_ (by with_reducible assumption)) | go_size))
    have hne1 : Hid (∀ g, (some ⟨w.heap.size + 1, 0, none⟩ : Option Addr) = some ⟨g, 0, none⟩ → g ≠ w.heap.size) := Lib.hid (fun g e => by cases e; omega)
    rw [← hwo]
    clear hwo
    go_loopw [7, 8, 9] (fun ov av kv wr => ∃ k : Nat, kv = .int .i64 k ∧ k ≤ us.length ∧ (∃ q : Nat, av = .int .i64 (q : Int) ∧ Hid (q = p + 1 + (flatL (us.take k)).length) ∧ q ≤ m) ∧ (∃ A c, ov = .slice A k c ∧ Hid (OwN wr w.heap.size A k c (starts (p + 1) (us.take k)) ∧ ∀ g, A = some ⟨g, 0, none⟩ → g ≠ w.heap.size)) ∧ Ext w wr ∧ wr.cell? ⟨w.heap.size, 0, none⟩ = some (.slice (some ⟨b2, o2, none⟩) n c)) (fun _ _ kv _ => us.length - (intOf kv).toNat)
    case atStart => exact ⟨0, rfl, Nat.zero_le _, ⟨p + 1, by go_num, Lib.hid (by simp [flatL_nil]), by omega⟩, ⟨_, 0, rfl, Lib.hid ⟨by simp [starts]; exact HO0.out, hne1.out⟩⟩, hEo, hb0⟩
    case round =>
      obtain ⟨k, rfl, hk, ⟨q, rfl, hq, hqm⟩, ⟨A1, c1, rfl, hO⟩, hE, hr0⟩ := hrel
      have hcx : wr.cell? ⟨b, o + p, none⟩ = some (.int .i64 (z0 : Int)) := Ext.keep hE hcy
      have hcz : wr.cell? ⟨b2, o2 + z0, none⟩ = some (.int .i64 (us.length : Int)) := Ext.keep hE hcs
      by_cases hlt2 : k < us.length
      · obtain ⟨a, hak⟩ : ∃ a, us[k]? = some a := ⟨us[k], List.getElem?_eq_getElem hlt2⟩
        have hda := drop_arg HD.out hak
        rw [← hq.out] at hda
        have hao := HOL.out a (List.mem_of_getElem? hak)
        have hqa := drop_lt hda (flat_pos a)
        rw [HM.out] at hqa
        have hst : starts (p + 1) (us.take (k + 1)) = starts (p + 1) (us.take k) ++ [(q : Int)] := by
          rw [take_snoc hak, starts_append, ← hq.out]; rfl
        have hfk : (flatL (us.take (k + 1))).length = (flatL (us.take k)).length + a.flat.length := by
          rw [take_snoc hak, flatL_append, flatL_cons, flatL_nil, List.append_nil, List.length_append]
        have HDA := Lib.hid hda
        have HAO := Lib.hid hao
        have HST := Lib.hid hst
        have HFK := Lib.hid hfk
        clear hda hao hst hfk hak
        have hlt' : (k : Int) < (us.length : Int) := by omega
        go_wp2_with fail
        go_quiet (fail)
        obtain ⟨w5, hw5⟩ : ∃ w5, w5 = wr.drewN nq := ⟨_, rfl⟩
        have hE5 : Ext wr w5 := by rw [hw5]; (repeat' (first | (with_reducible exact Ext.refl _) | (with_reducible assumption) | (with_reducible refine Ext.alloc ?_ _) | (with_reducible refine Ext.set ?_ ?_ _) | (with_reducible refine Ext.drewN ?_ _) | (with_reducible refine Ext.drew ?_) | (with_reducible refine Ext.trans ?_ (by with_reducible assumption)) | go_size))
        rw [← hw5]
        clear hw5
        have HO5 := Lib.hid (hO.out.1.ext hE5)
        have HNE := Lib.hid hO.out.2
        have hE5w := Ext.trans hE hE5
        have hr5 := Ext.keep hE5 hr0
        have hsz5 := hE5w.size
        have hlt5 : w.heap.size < w5.heap.size := World.block_lt_of_cell? w5 _ hr5
        go_wp2_with (at_builtin; go_loud (refine wpList_append_lies _ rfl (.tmp 31) (.tmp 33) 168 rfl w.heap.size 3 i0 (.int .i64 0) 1 8 Try.underlying168 hii hiz his hib rfl (by decide) _ _ _ rfl (OwN.alloc HO5.out _).2 ⟨w5.heap.size, 0, none⟩ 1 1 [.int .i64 (q : Int)] rfl rfl (one_cells _ _ _) (one_one _) (by decide) (by unfold maxLen; omega) (by omega) (by go_size) _ rfl ?_))
        intro g cap wx hown hg hat hltg
        have hE6 : Ext w wx := Ext.grown (hE5w.alloc _) hg (fun k' hk' => HO5.out.ob k' hk')
        have HW := Lib.hid (show OwN wx w.heap.size (some ⟨g, 0, none⟩) (k + 1) cap (starts (p + 1) (us.take (k + 1))) from ⟨by omega, by rw [HST.out, List.map_append]; exact hown⟩)
        have hbx : wx.cell? ⟨w.heap.size, 0, none⟩ = some (.slice (some ⟨b2, o2, none⟩) n c) := (hg.cell_far ⟨w.heap.size, 0, none⟩ (by simp [go_sem]; omega) (fun e => HNE.out w.heap.size (HO5.out.ownB e.symm) rfl)).trans ((World.cell?_alloc_past _ _ _ (by omega)).trans hr5)
        have HN6 := Lib.hid (show ∀ g', (some ⟨g, 0, none⟩ : Option Addr) = some ⟨g', 0, none⟩ → g' ≠ w.heap.size from fun g' e => by
          cases e
          rcases hat with h | h
          · exact HNE.out g (HO5.out.ownB h)
          · omega)
        clear hown hg hat
        go_wp2_with (go_at_call 146; (with_reducible refine (c_l13End (u := a) (RdSig.mk (RI.ext HA.out (by (repeat' (first | (with_reducible exact Ext.refl _) | (with_reducible assumption) | (with_reducible refine Ext.alloc ?_ _) | (with_reducible refine Ext.set ?_ ?_ _) | (with_reducible refine Ext.drewN ?_ _) | (with_reducible refine Ext.drew ?_) | (with_reducible refine Ext.trans ?_ (by with_reducible assumption)) | go_size))))) (RdI.mk (RI.ext HB.out (by (repeat' (first | (with_reducible exact Ext.refl _) | (with_reducible assumption) | (with_reducible refine Ext.alloc ?_ _) | (with_reducible refine Ext.set ?_ ?_ _) | (with_reducible refine Ext.drewN ?_ _) | (with_reducible refine Ext.drew ?_) | (with_reducible refine Ext.trans ?_ (by with_reducible assumption)) | go_size))))) HS.out HAO.out HDA.out).mono ?_); rintro e w7 ⟨rfl, hE7⟩)
        have hb7 := Ext.keep hE7 hbx
        have HW7 := Lib.hid (HW.out.ext hE7)
        go_roundw
        case rel => exact ⟨k + 1, by go_num, by omega, ⟨q + a.flat.length, rfl, Lib.hid (by rw [HFK.out, hq.out]; omega), by omega⟩, ⟨_, _, rfl, Lib.hid ⟨HW7.out, HN6.out⟩⟩, Ext.trans hE6 hE7, hb7⟩
        case measure => simp only [intOf]; omega
      · have hkn : k = us.length := by omega
        subst hkn
        have hlt' : decide ((us.length : Int) < (us.length : Int)) = false := by simp
        go_wp2_with fail
        go_quiet (fail)
        go_wp2
        go_ret
        exact ⟨_, _, rfl, by have := hO.out.1; rw [List.take_length] at this; exact this.ext (by (repeat' (first | (with_reducible exact Ext.refl _) | (with_reducible assumption) | (with_reducible refine Ext.alloc ?_ _) | (with_reducible refine Ext.set ?_ ?_ _) | (with_reducible refine Ext.drewN ?_ _) | (with_reducible refine Ext.drew ?_) | (with_reducible refine Ext.trans ?_ (by with_reducible assumption)) | go_size))), by (repeat' (first | (with_reducible exact Ext.refl _) | (with_reducible assumption) | (with_reducible refine Ext.alloc ?_ _) | (with_reducible refine Ext.set ?_ ?_ _) | (with_reducible refine Ext.drewN ?_ _) | (with_reducible refine Ext.drew ?_) | (with_reducible refine Ext.trans ?_ (by with_reducible assumption)) | go_size))⟩

end Go.Proofs.Ytejmlbcafemieaa
