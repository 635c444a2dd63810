/- CappedOf of both. -/
import Derived.Test.YtempekmenkeigaaMgA
import Derived.Test.YtempekmenkeigaaDepI
import Derived.Test.YtempekmenkeigaaDepS
-- rd: RdSyK
namespace Go.Proofs.Ytempekmenkeigaa
open Go.RowKit
set_option linter.unusedSimpArgs false
set_option linter.unusedVariables false

noncomputable def mkAt (s : Sy) (p : Nat) (x : Int) : Int := if freshAt s p x = true then 2 else if p = 0 then 0 else 1
set_option maxHeartbeats 2000000 in
theorem c_markOf {v0 v1 : Value} {s : Sy} {t : List Int} {p : Nat} {x : Int} {w : World} (h0 : RdSyC w v0 s) (h1 : RdI w v1 t) (hs : SysP s) (hx : t[p]? = some x) :
    Calls Try.prog 87 #[v0, v1, .int .i64 (p : Int)] w fun e w' => e = .returned (.int .i64 (mkAt s p x)) ∧ Ext w w' := by
  obtain ⟨A, n, c, B, m, d, rfl, ha, hb⟩ := h0
  obtain ⟨D, q, l, rfl, hd⟩ := h1
  have hpq : p < q := by have := (List.getElem?_eq_some_iff.1 hx).1; rw [hd.len] at this; exact this
  obtain ⟨b, o, z, rfl, hz, hcz⟩ := RI.at_ hd hpq
  rw [hx] at hz; cases hz
  have HA := Lib.hid ha
  have HB := Lib.hid hb
  have HS := Lib.hid hs
  have hbl : b < w.heap.size := World.block_lt_of_cell? w _ hcz
  have hpi : (p : Int) < (q : Int) := by omega
  have hp0 : (0 : Int) ≤ (p : Int) := by omega
  clear ha hb hd hs hx
  by_cases hx0 : x < 0
  · have HR := Lib.hid (show mkAt s p x = 2 by unfold mkAt freshAt; simp [hx0])
    go_enter Try.func87, Try.ntmps87
    go_wp2
    go_ret
    exact ⟨ret_int HR.out.symm, by exact extX⟩
  · by_cases hpz : p = 0
    · have HR := Lib.hid (show mkAt s p x = 0 by unfold mkAt freshAt; simp [hx0, hpz])
      have hpe : ((p : Int) == 0) = true := by simp [hpz]
      clear hpz
      go_enter Try.func87, Try.ntmps87
      go_wp2
      go_ret
      exact ⟨ret_int HR.out.symm, by exact extX⟩
    · have hpe : ((p : Int) == 0) = false := by simp; omega
      have hpz' : ¬ (p : Int) = 0 := by omega
      cases hdf : dfd s x with
      | true =>
        have HR := Lib.hid (show mkAt s p x = 2 by unfold mkAt freshAt; simp [hdf, hpz])
        have HD := Lib.hid hdf
        clear hdf
        go_enter Try.func87, Try.ntmps87
        go_wp2_with (go_at_call 83; (with_reducible refine (c_isDefined' HD.out (RdSyK.mk (RI.ext HA.out (by exact extX)) (RR.ext HB.out (by exact extX))) HS.out).mono ?_); rintro e w1 ⟨rfl, hE1⟩; have hz1 := sz_of hE1; (try simp only [World.size_alloc, World.size_setCell, World.size_drew] at hz1); obtain ⟨hc1, hf1⟩ := bcell hE1; (try have hq1_0 : w.heap.size < w1.heap.size := by omega); (try have hq1_1 : w.heap.size + 1 < w1.heap.size := by omega); (try have hq1_2 : w.heap.size + 1 + 1 < w1.heap.size := by omega); (try have hq1_3 : w.heap.size + 1 + 1 + 1 < w1.heap.size := by omega); (try have hq1_4 : w.heap.size + 1 + 1 + 1 + 1 < w1.heap.size := by omega); (try have hq1_5 : w.heap.size + 1 + 1 + 1 + 1 + 1 < w1.heap.size := by omega))
        go_ret
        exact ⟨ret_int HR.out.symm, by exact extX⟩
      | false =>
        have HR := Lib.hid (show mkAt s p x = 1 by unfold mkAt freshAt; simp [hdf, hpz, hx0])
        have HD := Lib.hid hdf
        clear hdf
        go_enter Try.func87, Try.ntmps87
        go_wp2_with (go_at_call 83; (with_reducible refine (c_isDefined' HD.out (RdSyK.mk (RI.ext HA.out (by exact extX)) (RR.ext HB.out (by exact extX))) HS.out).mono ?_); rintro e w1 ⟨rfl, hE1⟩; have hz1 := sz_of hE1; (try simp only [World.size_alloc, World.size_setCell, World.size_drew] at hz1); obtain ⟨hc1, hf1⟩ := bcell hE1; (try have hq1_0 : w.heap.size < w1.heap.size := by omega); (try have hq1_1 : w.heap.size + 1 < w1.heap.size := by omega); (try have hq1_2 : w.heap.size + 1 + 1 < w1.heap.size := by omega); (try have hq1_3 : w.heap.size + 1 + 1 + 1 < w1.heap.size := by omega); (try have hq1_4 : w.heap.size + 1 + 1 + 1 + 1 < w1.heap.size := by omega); (try have hq1_5 : w.heap.size + 1 + 1 + 1 + 1 + 1 < w1.heap.size := by omega))
        go_ret
        exact ⟨ret_int HR.out.symm, by exact extX⟩
set_option maxRecDepth 100000 in
set_option maxHeartbeats 4000000 in
theorem c_capped {v0 v1 : Value} {s : Sy} {t : List Int} {w : World} (h0 : RdSyC w v0 s) (h1 : RdIc w v1 t) (hs : SysP s) (ht : TermP s.ar t) :
    Calls Try.prog 67 #[v0, v1] w fun e w' => ∃ A n c, e = .returned (.tuple #[.slice A n c, .bool (decide (capF s t ≤ 24))]) ∧ OwI w' w.heap.size A n c (capO s t) ∧ Ext w w' := by
  obtain ⟨A, n, c, B, m, d, rfl, ha, hb⟩ := h0
  obtain ⟨D, q, l, rfl, hcap, hd⟩ := h1
  have HA := Lib.hid ha
  have HB := Lib.hid hb
  have HD := Lib.hid hd
  have HDL := Lib.hid hd.len
  have HS := Lib.hid hs
  have HSG := Lib.hid (show SigP s.ar from hs.1)
  have HT := Lib.hid ht
  have hq60 : q ≤ 60 := by rw [← hd.len]; exact ht.2.1.2
  obtain ⟨i0, hii, hiz, his, hib⟩ := info_parts int64_info
  clear ha hb hd hs ht hcap
  go_enter Try.func67, Try.ntmps67
  go_wp2_with fail
  obtain ⟨wb, hwb⟩ : ∃ wb, wb = w.alloc (.cells #[.slice A n c, .slice B m d] 34) := ⟨_, rfl⟩
  have hs0 : wb.cell? ⟨w.heap.size, 0, none⟩ = some (.slice A n c) := by rw [hwb]; simp [go_sem]
  have hs1 : wb.cell? ⟨w.heap.size, 1, none⟩ = some (.slice B m d) := by rw [hwb]; simp [go_sem]
  have hbs : w.heap.size ≤ wb.heap.size := by rw [hwb]; simp [go_sem]
  have hEwb : Ext w wb := by rw [hwb]; exact extX
  rw [← hwb]
  clear hwb
  go_loopw [6, 7, 8] (fun ov fv pv wr => ∃ p f : Nat, pv = .int .i64 p ∧ fv = .int .i64 f ∧ p ≤ q ∧ f ≤ p ∧ (∃ A3 n3 c3, ov = .slice A3 n3 c3 ∧ n3 ≤ p ∧ Hid (∃ out, OwI wr wb.heap.size A3 n3 c3 out ∧ CapSt s t out p f)) ∧ Ext wb wr) (fun _ _ pv _ => q - (intOf pv).toNat)
  case atStart => exact ⟨0, 0, rfl, rfl, Nat.zero_le _, Nat.le_refl _, ⟨none, 0, 0, rfl, Nat.le_refl _, Lib.hid ⟨[], ⟨by omega, World.ownsRow_nil _ _ _ _⟩, CapSt.start s t⟩⟩, Ext.refl _⟩
  case round =>
    obtain ⟨p, f, rfl, rfl, hp, hfp, ⟨A3, n3, c3, rfl, hn3, hO⟩, hE⟩ := hrel
    obtain ⟨out, hOw, hst⟩ := hO.out
    have HO := Lib.hid hOw
    have HST := Lib.hid hst
    have hEw : Ext w wr := Ext.trans hEwb hE
    have hr0 := Ext.keep hE hs0
    have hr1 := Ext.keep hE hs1
    clear hO hOw hst
    by_cases hlt : p < q
    · obtain ⟨b, o, x, rfl, hx, hcx⟩ := RI.at_ (RI.ext HD.out hEw) hlt
      obtain ⟨hok, rest, hdr⟩ := subT_ok HT.out (show p < t.length by rw [HDL.out]; exact hlt)
      have HX := Lib.hid hx
      have HOK := Lib.hid hok
      have HDR := Lib.hid hdr
      have hpos := flat_pos (subT s.ar t p)
      obtain ⟨L, hL⟩ : ∃ L, L = (subT s.ar t p).flat.length := ⟨_, rfl⟩
      have hLq : p + L ≤ q := by
        have h1 := congrArg List.length hdr
        rw [List.length_drop, List.length_append, HDL.out, ← hL] at h1
        omega
      have HL := Lib.hid hL
      rw [← hL] at hpos
      have hpi : (p : Int) < (q : Int) := by omega
      have hp0 : (0 : Int) ≤ (p : Int) := by omega
      clear hx hok hdr hL
      cases hfr : freshAt s p x with
      | true =>
        have HM := Lib.hid (show mkAt s p x = 2 by unfold mkAt; rw [if_pos hfr])
        have HF := Lib.hid (HST.out.fresh HX.out hfr (by rw [← HL.out, HDL.out]; exact hLq) (by rw [← HL.out]; exact hpos))
        have hng : IntKind.i64.wrap (-((f : Int) + 1)) = -((f : Int) + 1) := IntWalk.i64_in _ (by omega)
        clear hfr
        go_wp2_with fail
        (with_reducible refine (c_markOf (t := t) (p := p) (RdSyK.mk (RI.ext HA.out hEw) (RR.ext HB.out hEw)) (RdI.mk (RI.ext HD.out hEw)) HS.out HX.out).mono ?_)
        rw [HM.out]
        rintro e5 w5 ⟨rfl, hE5⟩
        have HO5 := Lib.hid (HO.out.ext hE5)
        have hE5b := Ext.trans hE hE5
        have hsz5 := hE5b.size
        go_wp2_with (at_builtin; go_loud (refine wpList_append_lies _ rfl (.tmp 34) (.tmp 37) 22 rfl wb.heap.size 2 i0 (.int .i64 0) 1 8 Try.underlying22 hii hiz his hib rfl (by decide) _ _ _ rfl (OwI.alloc HO5.out _).2 ⟨w5.heap.size, 0, none⟩ 1 1 [.int .i64 (-((f : Int) + 1))] rfl rfl (one_cells _ _ _) (one_one _) (by decide) (by unfold maxLen; omega) (by omega) (by go_size) _ rfl ?_))
        intro g4 cap wx hown hg hat hltg
        have HON := Lib.hid (show OwI wx wb.heap.size (some ⟨g4, 0, none⟩) (n3 + 1) cap (out ++ [-((f : Int) + 1)]) from ⟨by omega, by simpa using hown⟩)
        have hob := OwI.ob2 HO5.out
        have hEx : Ext wb wx := Ext.grown (hE5b.alloc _) hg (fun b hb => (hob b hb).1)
        have hEwx : Ext w wx := Ext.trans hEwb hEx
        have hx0c := Ext.keep hEx hs0
        clear hown hg hat hob
        go_wp2_with fail
        (with_reducible refine (c_endAt_flat (u := subT s.ar t p) (p := p) (RdSig.mk (RI.ext HA.out hEwx)) (RdI.mk (RI.ext HD.out hEwx)) HSG.out HOK.out HDR.out).mono ?_)
        rw [← HL.out]
        rintro e6 w6 ⟨rfl, hE6⟩
        have HN := Lib.hid (HON.out.ext hE6)
        have HF2 := Lib.hid (show CapSt s t (out ++ [-((f : Int) + 1)]) (p + L) (f + 1) by rw [HL.out]; exact HF.out)
        go_wp2
        go_roundw
        case rel => exact ⟨p + L, f + 1, rfl, by go_num, hLq, by omega, ⟨_, _, _, rfl, by omega, Lib.hid ⟨_, HN.out, HF2.out⟩⟩, Ext.trans hEx hE6⟩
        case measure => simp only [intOf]; omega
      | false =>
        have HF := Lib.hid (HST.out.kept HX.out hfr)
        by_cases hpz : p = 0
        · have HM := Lib.hid (show mkAt s p x = 0 by unfold mkAt; rw [if_neg (by rw [hfr]; simp), if_pos hpz])
          clear hfr hpz
          go_wp2_with fail
          (with_reducible refine (c_markOf (t := t) (p := p) (RdSyK.mk (RI.ext HA.out hEw) (RR.ext HB.out hEw)) (RdI.mk (RI.ext HD.out hEw)) HS.out HX.out).mono ?_)
          rw [HM.out]
          rintro e5 w5 ⟨rfl, hE5⟩
          have HO5 := Lib.hid (HO.out.ext hE5)
          have hE5b := Ext.trans hE hE5
          have hsz5 := hE5b.size
          have hcx5 := Ext.keep hE5 hcx
          go_wp2_with (at_builtin; go_loud (refine wpList_append_lies _ rfl (.tmp 23) (.tmp 28) 22 rfl wb.heap.size 2 i0 (.int .i64 0) 1 8 Try.underlying22 hii hiz his hib rfl (by decide) _ _ _ rfl (OwI.alloc HO5.out _).2 ⟨w5.heap.size, 0, none⟩ 1 1 [.int .i64 x] rfl rfl (one_cells _ _ _) (one_one _) (by decide) (by unfold maxLen; omega) (by omega) (by go_size) _ rfl ?_))
          intro g4 cap wx hown hg hat hltg
          have HON := Lib.hid (show OwI wx wb.heap.size (some ⟨g4, 0, none⟩) (n3 + 1) cap (out ++ [x]) from ⟨by omega, by simpa using hown⟩)
          have hob := OwI.ob2 HO5.out
          have hEx : Ext wb wx := Ext.grown (hE5b.alloc _) hg (fun b hb => (hob b hb).1)
          have hEwx : Ext w wx := Ext.trans hEwb hEx
          have hx0c := Ext.keep hEx hs0
          clear hown hg hat hob
          go_wp2
          go_roundw
          case rel => exact ⟨p + 1, f, by go_num, rfl, by omega, by omega, ⟨_, _, _, rfl, by omega, Lib.hid ⟨_, HON.out, HF.out⟩⟩, hEx⟩
          case measure => simp only [intOf]; omega
        · have HM := Lib.hid (show mkAt s p x = 1 by unfold mkAt; rw [if_neg (by rw [hfr]; simp), if_neg hpz])
          clear hfr hpz
          go_wp2_with fail
          (with_reducible refine (c_markOf (t := t) (p := p) (RdSyK.mk (RI.ext HA.out hEw) (RR.ext HB.out hEw)) (RdI.mk (RI.ext HD.out hEw)) HS.out HX.out).mono ?_)
          rw [HM.out]
          rintro e5 w5 ⟨rfl, hE5⟩
          have HO5 := Lib.hid (HO.out.ext hE5)
          have hE5b := Ext.trans hE hE5
          have hsz5 := hE5b.size
          have hcx5 := Ext.keep hE5 hcx
          go_wp2_with (at_builtin; go_loud (refine wpList_append_lies _ rfl (.tmp 23) (.tmp 28) 22 rfl wb.heap.size 2 i0 (.int .i64 0) 1 8 Try.underlying22 hii hiz his hib rfl (by decide) _ _ _ rfl (OwI.alloc HO5.out _).2 ⟨w5.heap.size, 0, none⟩ 1 1 [.int .i64 x] rfl rfl (one_cells _ _ _) (one_one _) (by decide) (by unfold maxLen; omega) (by omega) (by go_size) _ rfl ?_))
          intro g4 cap wx hown hg hat hltg
          have HON := Lib.hid (show OwI wx wb.heap.size (some ⟨g4, 0, none⟩) (n3 + 1) cap (out ++ [x]) from ⟨by omega, by simpa using hown⟩)
          have hob := OwI.ob2 HO5.out
          have hEx : Ext wb wx := Ext.grown (hE5b.alloc _) hg (fun b hb => (hob b hb).1)
          have hEwx : Ext w wx := Ext.trans hEwb hEx
          have hx0c := Ext.keep hEx hs0
          clear hown hg hat hob
          go_wp2
          go_roundw
          case rel => exact ⟨p + 1, f, by go_num, rfl, by omega, by omega, ⟨_, _, _, rfl, by omega, Lib.hid ⟨_, HON.out, HF.out⟩⟩, hEx⟩
          case measure => simp only [intOf]; omega
    · have hpq : p = q := by omega
      obtain ⟨e1, e2⟩ := HST.out.done (by rw [HDL.out]; omega)
      have E1 := Lib.hid e1
      have E2 := Lib.hid e2
      clear e1 e2
      by_cases h24 : f ≤ 24
      · have hd24 : decide ((f : Int) ≤ 24) = true := by simp; omega
        have HR := Lib.hid (show decide (capF s t ≤ 24) = true by rw [← E2.out]; simpa using h24)
        go_wp2
        go_ret2
        exact ⟨A3, n3, c3, by rw [HR.out]; rfl, by rw [← E1.out]; exact HO.out.lower hbs, hEw⟩
      · have hd24 : decide ((f : Int) ≤ 24) = false := by simp; omega
        have HR := Lib.hid (show decide (capF s t ≤ 24) = false by rw [← E2.out]; simpa using h24)
        go_wp2
        go_ret2
        exact ⟨A3, n3, c3, by rw [HR.out]; rfl, by rw [← E1.out]; exact HO.out.lower hbs, hEw⟩

end Go.Proofs.Ytempekmenkeigaa
