/- The form of a symbol applied to forms, by the program. -/
import Derived.Test.YtjmdfjinicbkeaaFormB
import Derived.StillTailTactics
-- rd: RdPl RdPs
namespace Go.Proofs.Ytjmdfjinicbkeaa
open Go.RowKit
set_option linter.unusedSimpArgs false
set_option linter.unusedVariables false

set_option maxRecDepth 100000 in
set_option maxHeartbeats 2000000 in
theorem c_applied {v0 v1 : Value} {p : Pl} {fs : List Pl} {w : World} (h0 : RdPl w v0 p) (h1 : RdPs w v1 fs) (hP : Parts p fs) (hl : p.cf.length = fs.length) :
    Calls Try.prog 173 #[v0, v1] w (NewF w (appP p fs)) := by
  obtain ⟨A, n, c, rfl, ha⟩ := h0
  obtain ⟨B, m, d, rfl, hb⟩ := h1
  have hnm : m = n := by rw [← ha.len, ← hb.len, hl]
  subst hnm
  have hm3 : m ≤ 3 := by rw [← hb.len]; exact hP.2.2.1
  have HA := Lib.hid ha
  have HB := Lib.hid hb
  have HM := Lib.hid hb.len
  have HN := Lib.hid ha.len
  have HP := Lib.hid hP
  obtain ⟨i0, hii, hiz, his, hib⟩ := info_parts int64_info
  clear ha hb hP hl
  go_enter Try.func173, Try.ntmps173
  go_wp2_with fail
  obtain ⟨w1, hw1⟩ : ∃ w1, w1 = (w.alloc (.cells #[.int .i64 p.c, .slice A m c] 90)).alloc (.cells #[.int .i64 0, .slice none 0 0] 90) := ⟨_, rfl⟩
  have hs1 : w.heap.size + 1 + 1 = w1.heap.size := by rw [hw1]; simp [go_sem]
  have hb1 : w1.cell? ⟨w.heap.size, 1, none⟩ = some (.slice A m c) := by rw [hw1]; simp [go_sem]
  have hc0 : w1.cell? ⟨w.heap.size + 1, 0, none⟩ = some (.int .i64 0) := by rw [hw1]; simp [go_sem]
  have hc1 : w1.cell? ⟨w.heap.size + 1, 1, none⟩ = some (.slice none 0 0) := by rw [hw1]; simp [go_sem]
  have hcf : ∀ o, w1.frozen? ⟨w.heap.size + 1, o, none⟩ = false := by intro o; rw [hw1]; simp [go_sem]
  have hE1 : Ext w w1 := by rw [hw1]; exact extX
  rw [← hw1]
  clear hw1
  try rw [hs1]
  have hlo0 : w.heap.size < w1.heap.size := by omega
  have hlo1 : w.heap.size + 1 < w1.heap.size := by omega
  have HS1 := Lib.hid hs1
  clear hs1
  go_loopw [16] (fun i wr => ∃ k : Nat, i = .int .i64 k ∧ k ≤ m ∧ Hid (∃ A cA, PB w1 wr (sumTo p fs k).c A cA (sumTo p fs k).cf)) (fun i _ => m - (intOf i).toNat)
  case atStart => exact ⟨0, rfl, Nat.zero_le _, Lib.hid ⟨none, 0, PB.new w1 p.c _⟩⟩
  case round =>
    obtain ⟨k, rfl, hk, hP0⟩ := hrel
    obtain ⟨A1, cA, P0⟩ := hP0.out
    clear hP0
    have hEr : Ext w1 wr := P0.ex
    have hEw : Ext w wr := Ext.trans hE1 hEr
    have hup := sumTo_upto HP.out k
    obtain ⟨c1, hc1d⟩ : ∃ c1, c1 = (sumTo p fs k).c := ⟨_, rfl⟩
    obtain ⟨xs, hxsd⟩ : ∃ xs, xs = (sumTo p fs k).cf := ⟨_, rfl⟩
    have hcb := hup.1.1
    rw [← hc1d] at hcb
    have HXB := Lib.hid (fun j => hup.1.getD (by omega) j)
    rw [← hxsd] at HXB
    have hxl : xs.length ≤ 24 := by rw [hxsd]; exact hup.2
    rw [← hc1d, ← hxsd] at P0
    have HCD := Lib.hid hc1d
    have HXD := Lib.hid hxsd
    clear hc1d hxsd
    have hrb1 : wr.cell? ⟨w.heap.size, 1, none⟩ = some (.slice A m c) := Ext.keep hEr hb1
    have hrc0 := P0.c0
    have hrc1 := P0.c1
    have hrfr := P0.fr
    have hrlt := P0.lt
    by_cases hlt : k < m
    · obtain ⟨b, o, f, A', m', c', rfl, hf, hd1w, hd2w, hri⟩ := RP.at_ HB.out hlt
      obtain ⟨b2, o2, q, rfl, hq, hcqw⟩ := RI.at_ HA.out hlt
      have hd1 := Ext.keep hEw hd1w
      have hd2 := Ext.keep hEw hd2w
      have hcq := Ext.keep hEw hcqw
      have hqb := HP.out.2.1 q (List.mem_of_getElem? hq)
      have hff := HP.out.2.2.2 f (List.mem_of_getElem? hf)
      have hfl := hff.2
      have hfc := hff.1.1
      have HFB := Lib.hid (fun j => hff.1.getD (by omega) j)
      have hm' : f.cf.length = m' := hri.len
      have hqf := mul_bd hqb hfc
      have HSUM := Lib.hid (show sumTo p fs (k + 1) = addP (sumTo p fs k) f q from by
        rw [sumTo, List.getD_eq_getElem?_getD, hf, List.getD_eq_getElem?_getD, hq]; rfl)
      have hkk : (k : Int) ≤ 3 := by omega
      have hz1 : IntKind.i64.wrap (q * f.c) = q * f.c := IntWalk.i64_in _ (by omega)
      have hz2 : IntKind.i64.wrap (c1 + q * f.c) = c1 + q * f.c := IntWalk.i64_in _ (by omega)
      have hlt' : (k : Int) < (m : Int) := by omega
      have HF := Lib.hid hf
      have HQ := Lib.hid hq
      have HRI := Lib.hid hri
      have hbl : b < wr.heap.size := World.block_lt_of_cell? wr _ hd1
      have hbl2 : b2 < wr.heap.size := World.block_lt_of_cell? wr _ hcq
      clear hf hq hri hff hup
      go_wp2_with fail
      obtain ⟨wq, hwq⟩ : ∃ wq, wq = wr.alloc (.cells #[.int .i64 f.c, .slice A' m' c'] 90) := ⟨_, rfl⟩
      have hg0 : wq.cell? ⟨wr.heap.size, 0, none⟩ = some (.int .i64 f.c) := by rw [hwq]; simp [go_sem]
      have hg1 : wq.cell? ⟨wr.heap.size, 1, none⟩ = some (.slice A' m' c') := by rw [hwq]; simp [go_sem]
      have hEq : Ext wr wq := by rw [hwq]; exact extX
      rw [← hwq]
      clear hwq
      have hqs : wr.heap.size < wq.heap.size := World.block_lt_of_cell? wq _ hg0
      have P1 := P0.ext hEq
      have hqb1 := Ext.keep hEq hrb1
      have hqq := Ext.keep hEq hcq
      have hq0 := P1.c0
      have hq1 := P1.c1
      have hqf2 := P1.fr
      clear hrb1 hcq hrc0 hrc1 hrfr hd1 hd2 hbl hbl2
      go_still_tail 12, (by kernel_rfl)
      change wpList _ _ _ _ _ wq.drew
      go_wp2_with fail
      have P2 := (P1.setC (c1 + q * f.c)).ext ((Ext.refl (wq.setCell ⟨w1.heap.size, 0, none⟩ (.int .i64 (c1 + q * f.c)))).drew)
      have hne : wr.heap.size ≠ w1.heap.size := by omega
      have hA1 : ∀ g o s, A1 = some ⟨g, o, s⟩ → g ≠ wr.heap.size := fun g o s e => by have := (P0.oA.bd g o s e).2; omega
      have hg2 : (wq.setCell ⟨w1.heap.size, 0, none⟩ (.int .i64 (c1 + q * f.c))).drew.cell? ⟨wr.heap.size, 1, none⟩ = some (.slice A' m' c') := by
        show (wq.setCell ⟨w1.heap.size, 0, none⟩ (.int .i64 (c1 + q * f.c))).cell? _ = _
        rw [World.cell?_setCell_other _ _ _ _ (by simp; try omega)]; exact hg1
      obtain ⟨wd, hwd⟩ : ∃ wd, wd = (wq.setCell ⟨w1.heap.size, 0, none⟩ (.int .i64 (c1 + q * f.c))).drew := ⟨_, rfl⟩
      rw [← hwd] at P2 hg2 ⊢
      clear hwd P1 P0 hq0 hq1 hqf2 hqb1 hqq hg0 hg1
      obtain ⟨wo, rfl⟩ : ∃ wo : World, wo = wr := ⟨_, rfl⟩
      go_loopw [] (fun wr => ∃ t : Nat, xs.length + t ≤ max xs.length m' ∧ Hid (∃ A cA, PB w1 wr (c1 + q * f.c) A cA (xs ++ List.replicate t 0) ∧ ∀ g o s, A = some ⟨g, o, s⟩ → g ≠ wo.heap.size) ∧ wr.cell? ⟨wo.heap.size, 1, none⟩ = some (.slice A' m' c')) (fun wr => max xs.length m' - lenAt wr w1.heap.size)
      case atStart => exact ⟨0, by omega, Lib.hid ⟨A1, cA, by simpa using P2, hA1⟩, hg2⟩
      case round =>
        obtain ⟨t, ht, hP3, hg3⟩ := hrel
        obtain ⟨A2, cA2, P3, hA2⟩ := hP3.out
        clear hP3
        have hE3 : Ext w1 wr := P3.ex
        have hEw3 : Ext w wr := Ext.trans hE1 hE3
        have h30 := P3.c0
        have h31 := P3.c1
        have h3f := P3.fr
        have h3lt := P3.lt
        have hpl : (xs ++ List.replicate t (0 : Int)).length = xs.length + t := by simp
        rw [hpl] at h31
        have hg3l : wo.heap.size < wr.heap.size := World.block_lt_of_cell? wr _ hg3
        by_cases hmore : xs.length + t < m'
        · have HP3 := Lib.hid P3
          have HO := Lib.hid (show OwI wr (w1.heap.size + 1) A2 (xs.length + t) cA2 (xs ++ List.replicate t 0) by have := P3.oA; rwa [hpl] at this)
          have HPL := Lib.hid hpl
          have HA2 := Lib.hid hA2
          clear P3 hpl hA2
          have hmi : ((xs.length + t : Nat) : Int) < (m' : Int) := by omega
          go_wp2_with (at_builtin; go_loud (refine wpList_append_lies _ rfl (.tmp 41) (.tmp 42) 22 rfl (w1.heap.size + 1) 2 i0 (.int .i64 0) 1 8 Try.underlying22 hii hiz his hib rfl (by decide) _ _ _ rfl (OwI.alloc HO.out _).2 ⟨wr.heap.size, 0, none⟩ 1 1 [.int .i64 0] rfl rfl (one_cells _ _ _) (one_one _) (by decide) (by unfold maxLen; omega) (by omega) (by go_size) _ rfl ?_))
          intro g cap wx hown hg hat hltg
          have HFar := Lib.hid (PB.far HP3.out (by rw [HPL.out]; exact hg))
          have hx0 : wx.cell? ⟨w1.heap.size, 1, none⟩ = some (.slice A2 (xs.length + t) cA2) := (HFar.out.1 1).trans h31
          have hxf : ∀ j, wx.frozen? ⟨w1.heap.size, j, none⟩ = false := HFar.out.2
          have hP4 := PB.push HP3.out (y := 0) (by rw [HPL.out]; omega) (by rw [HPL.out, List.map_append, List.map_replicate, List.append_assoc]; exact hown) (by rw [HPL.out]; exact hg) (by rw [HPL.out]; exact hat.imp id (fun e => e.trans (by simp [go_sem]))) hltg
          rw [HPL.out, List.append_assoc, show List.replicate t (0 : Int) ++ [0] = List.replicate (t + 1) 0 from List.replicate_succ'.symm] at hP4
          have hg4 : wx.cell? ⟨wo.heap.size, 1, none⟩ = some (.slice A' m' c') := (hg.cell_far ⟨wo.heap.size, 1, none⟩ (by simp [go_sem]; omega) (fun e => by
            cases A2 with
            | none => cases e
            | some a => obtain ⟨g', o', s'⟩ := a; simp [Value.ownBlock] at e; exact HA2.out _ _ _ rfl e.symm)).trans ((World.cell?_alloc_past _ _ _ hg3l).trans hg3)
          have hgn : g ≠ wo.heap.size := by
            rcases hat with e | e
            · cases A2 with
              | none => cases e
              | some a => obtain ⟨g', o', s'⟩ := a; simp [Value.ownBlock] at e; subst e; exact HA2.out _ _ _ rfl
            · first | omega | (simp [go_sem] at e; omega)
          have hL4 := hP4.lenAt
          have hL3 := HP3.out.lenAt
          have HP4 := Lib.hid hP4
          have HL4 := Lib.hid hL4
          have HL3 := Lib.hid hL3
          clear hown hg hat hP4 hL4 hL3
          go_wp2
          go_roundw
          case rel => exact ⟨t + 1, by omega, Lib.hid ⟨_, _, HP4.out, fun g' o' s' e => by cases e; exact hgn⟩, by rw [World.cell?_setCell_other _ _ _ _ (by simp; try omega)]; exact hg4⟩
          case measure => rw [HL4.out, HL3.out]; simp; omega
        · have htx : xs.length + t = max xs.length m' := by omega
          have HAT := Lib.hid (AddTo.start (bs := f.cf) (m := q) (old := xs) (t := t) (by rw [hm']; exact htx))
          have HP3 := Lib.hid P3
          have hmi : ¬ ((xs.length + t : Nat) : Int) < (m' : Int) := by omega
          have hAx : max xs.length m' ≤ 24 := by omega
          clear P3 hA2 hpl
          go_wp2_with fail
          obtain ⟨wp, rfl⟩ : ∃ wp : World, wp = wr := ⟨_, rfl⟩
          go_loopw [48] (fun i wr => ∃ j : Nat, i = .int .i64 j ∧ j ≤ m' ∧ Hid (∃ A cA ys, PB w1 wr (c1 + q * f.c) A cA ys ∧ AddTo xs f.cf q j ys)) (fun i _ => m' - (intOf i).toNat)
          case atStart => exact ⟨0, rfl, Nat.zero_le _, Lib.hid ⟨A2, cA2, _, HP3.out, HAT.out⟩⟩
          case round =>
            obtain ⟨j, rfl, hj, hP5⟩ := hrel
            obtain ⟨A5, cA5, ys, P5, hAT⟩ := hP5.out
            clear hP5
            have hE5 : Ext w1 wr := P5.ex
            have hEw5 : Ext w wr := Ext.trans hE1 hE5
            have h50 := P5.c0
            have h51 := P5.c1
            have h5f := P5.fr
            have h5lt := P5.lt
            have hyl : ys.length = max xs.length m' := by rw [hAT.1, hm']
            by_cases hlt5 : j < m'
            · obtain ⟨b5, o5, fb, rfl, hfb, hcfb⟩ := RI.at_ (RI.ext HRI.out hEw5) hlt5
              rcases P5.oA.form with ⟨rfl, h0, _⟩ | ⟨g5, rfl, hg5, hg5l⟩
              · omega
              obtain ⟨y, hy, hcy, hfy⟩ := OwI.at_ P5.oA (k := j) (by omega)
              have hyv : y = nth xs j := by
                have h1 := hAT.2 j
                rw [if_neg (by omega), Int.add_zero, getD_at hy] at h1; exact h1
              have hyb : 0 ≤ y ∧ y ≤ 9 + 9 * (k * 1000000000000) := by rw [hyv]; exact HXB.out j
              have hfbv : fb = nth f.cf j := (getD_at hfb).symm
              have hfbb : 0 ≤ fb ∧ fb ≤ 1000000000000 := by rw [hfbv]; exact HFB.out j
              have hqm := mul_bd hqb hfbb
              have hz3 : IntKind.i64.wrap (q * fb) = q * fb := IntWalk.i64_in _ (by omega)
              have hz4 : IntKind.i64.wrap (y + q * fb) = y + q * fb := IntWalk.i64_in _ (by omega)
              have hcq5 := Ext.keep hEw5 hcqw
              have hb15 := Ext.keep hE5 hb1
              have HP5 := Lib.hid P5
              have HAT2 := Lib.hid (hAT.step hy hfb)
              have HYL := Lib.hid hyl
              have hjy : (j : Int) < (ys.length : Int) := by omega
              have hj0 : (0 : Int) ≤ (j : Int) := by omega
              have hjm : (j : Int) < (m' : Int) := by omega
              clear P5 hAT hy hfb hyv hfbv hyl
              go_wp2_with fail
              go_still_tail 14, (by kernel_rfl)
              change wpList _ _ _ _ _ wr.drew
              go_wp2
              go_roundw
              case rel => exact ⟨j + 1, by go_num, by omega, Lib.hid ⟨_, cA5, _, (HP5.out.setE j (y + q * fb)).ext ((Ext.refl _).drew), HAT2.out⟩⟩
              case measure => simp only [intOf]; omega
            · have hjm : j = f.cf.length := by omega
              subst hjm
              have HEND := Lib.hid hAT.done
              have HP5 := Lib.hid P5
              clear P5 hAT
              go_wp2
              go_roundw
              case rel => exact ⟨k + 1, by go_num, by omega, Lib.hid ⟨A5, cA5, by rw [HSUM.out]; show PB w1 _ ((sumTo p fs k).c + q * f.c) A5 cA5 (addL (sumTo p fs k).cf f.cf q); rw [← HCD.out, ← HXD.out, ← HEND.out]; exact HP5.out⟩⟩
              case measure => simp only [intOf]; omega
    · have hkm : k = m := by omega
      have hq0 : wr.cell? ⟨w.heap.size + 1, 0, none⟩ = some (.int .i64 0) := Ext.keep hEr hc0
      have hq1 : wr.cell? ⟨w.heap.size + 1, 1, none⟩ = some (.slice none 0 0) := Ext.keep hEr hc1
      have hqf : ∀ o, wr.frozen? ⟨w.heap.size + 1, o, none⟩ = false := fun o => (Below.frozen (p := ⟨w.heap.size + 1, o, none⟩) hEr (by simp; omega)).trans (hcf o)
      have hq1l : w.heap.size + 1 < wr.heap.size := World.block_lt_of_cell? wr _ hq0
      have HAP := Lib.hid (show appP p fs = @ite _ (Big (sumTo p fs k)) (Classical.propDecidable _) none (some (sumTo p fs k)) by unfold appP; rw [HM.out, hkm])
      have HPP := Lib.hid P0
      by_cases hbc : 1000000000000 < c1
      · have HR := Lib.hid (show appP p fs = none by rw [HAP.out, if_pos (.inl (by rw [← HCD.out]; exact hbc))])
        go_wp2
        refine bodyPost_ret (v := .tuple #[.agg #[.int .i64 0, .slice none 0 0], .bool false]) (by simp [results, Try.results173, go_sem, hq0, hq1, hqf]) rfl ?_
        rw [HR.out]
        exact ⟨none, 0, 0, rfl, ⟨by omega, World.ownsRow_nil _ _ _ _⟩, by exact extX⟩
      · have hlenc : (xs.length : Int) ≤ 24 := by omega
        by_cases hx0 : xs.length = 0
        · have HR := Lib.hid (show appP p fs = some (sumTo p fs k) by
            rw [HAP.out, if_neg]
            rw [big_nil (by rw [← HXD.out]; exact List.eq_nil_of_length_eq_zero hx0), ← HCD.out]; exact hbc)
          have hx1 : ¬ (0 : Int) < (xs.length : Int) := by omega
          go_wp2
          all_goals first
            | (exfalso; omega)
            | (refine bodyPost_ret (v := .tuple #[.agg #[.int .i64 c1, .slice A1 0 cA], .bool true]) (by simp [results, Try.results173, go_sem, hq0, hq1, hqf]) rfl ?_
               rw [HR.out]
               refine ⟨A1, 0, cA, by rw [HCD.out]; rfl, ?_, by exact extX⟩
               have h1 : OwI wr w.heap.size A1 xs.length cA (rp (some (sumTo p fs k))).cf := by
                 show OwI _ _ _ _ _ (sumTo p fs k).cf
                 rw [← HXD.out]; exact HPP.out.oA.lower (by omega)
               rw [hx0] at h1
               (repeat' (first | (with_reducible exact h1) | (with_reducible refine OwI.setFar ?_ _ (fun g o s e => ?_))))
               all_goals (have h3 := HPP.out.oA.bd g o s e; show g ≠ w.heap.size + 1; omega))
        · have hx1 : (0 : Int) < (xs.length : Int) := by omega
          have hne : xs ≠ [] := by intro e; rw [e] at hx0; exact hx0 rfl
          by_cases hmx : 1000000000000 < maxL xs
          · have HR := Lib.hid (show appP p fs = none by
              rw [HAP.out, if_pos]
              rw [big_max (by rw [← HXD.out]; exact hne), ← HXD.out]; exact .inr hmx)
            clear hne
            go_wp2_with (go_at_call 185; (with_reducible refine (c_slicesMax (t := xs) (RdI.mk HPP.out.oA.ri) (by omega)).mono ?_); rintro e w5 ⟨rfl, rfl⟩)
            all_goals first
            | (exfalso; omega)
            | (refine bodyPost_ret (v := .tuple #[.agg #[.int .i64 0, .slice none 0 0], .bool false]) (by simp [results, Try.results173, go_sem, hq0, hq1, hqf]) rfl ?_
               rw [HR.out]
               exact ⟨none, 0, 0, rfl, ⟨by omega, World.ownsRow_nil _ _ _ _⟩, by exact extX⟩)
          · have HR := Lib.hid (show appP p fs = some (sumTo p fs k) by
              rw [HAP.out, if_neg]
              rw [big_max (by rw [← HXD.out]; exact hne), ← HXD.out, ← HCD.out]; exact fun h => h.elim hbc hmx)
            clear hne
            go_wp2_with (go_at_call 185; (with_reducible refine (c_slicesMax (t := xs) (RdI.mk HPP.out.oA.ri) (by omega)).mono ?_); rintro e w5 ⟨rfl, rfl⟩)
            all_goals first
            | (exfalso; omega)
            | (refine bodyPost_ret (v := .tuple #[.agg #[.int .i64 c1, .slice A1 xs.length cA], .bool true]) (by simp [results, Try.results173, go_sem, hq0, hq1, hqf]) rfl ?_
               rw [HR.out]
               refine ⟨A1, xs.length, cA, by rw [HCD.out]; rfl, ?_, by exact extX⟩
               have h1 : OwI wr w.heap.size A1 xs.length cA (rp (some (sumTo p fs k))).cf := by
                 show OwI _ _ _ _ _ (sumTo p fs k).cf
                 rw [← HXD.out]; exact HPP.out.oA.lower (by omega)
               skip
               (repeat' (first | (with_reducible exact h1) | (with_reducible refine OwI.setFar ?_ _ (fun g o s e => ?_))))
               all_goals (have h3 := HPP.out.oA.bd g o s e; show g ≠ w.heap.size + 1; omega))

end Go.Proofs.Ytjmdfjinicbkeaa
