/- Counting up by the reference; systems. -/
import Derived.Test.YtjmdfjinicbkeaaUp
import Derived.Test.YtjmdfjinicbkeaaCopy
import Derived.Test.YtjmdfjinicbkeaaSysOk
import Derived.Test.YtjmdfjinicbkeaaOpenT
-- rd: RdSyK
namespace Go.Proofs.Ytjmdfjinicbkeaa
open Go.RowKit
set_option linter.unusedSimpArgs false
set_option linter.unusedVariables false

theorem OwI.freshP {w : World} (x : Int) : OwI (w.alloc (.cells #[.int .i64 x] 2)) w.heap.size (some ⟨w.heap.size, 0, none⟩) 1 1 [x] :=
  ⟨by simp, by simp, .inr ⟨w.heap.size, 1, _, rfl, Nat.le_refl _, heap_alloc_new w _, Nat.le_refl _, by unfold maxLen; omega, by simp, by simp⟩⟩
theorem c_sSysOkP {v : Value} {s : Sy} {w : World} {b : Bool} (hb : sysOk s = b) (h0 : RdSyC w v s) :
    Calls Try.prog 38 #[v] w fun e w' => e = .returned (.bool b) ∧ Ext w w' :=
  (c_sSystemOk h0).mono fun _ _ ⟨he, hw⟩ => ⟨he.trans (ret_bool hb), hw⟩
theorem c_iSysOkP {v : Value} {s : Sy} {w : World} {b : Bool} (hb : sysOk s = b) (h0 : RdSyC w v s) :
    Calls Try.prog 55 #[v] w fun e w' => e = .returned (.bool b) ∧ Ext w w' :=
  (c_iSystemOk h0).mono fun _ _ ⟨he, hw⟩ => ⟨he.trans (ret_bool hb), hw⟩
set_option maxRecDepth 100000 in
set_option maxHeartbeats 4000000 in
theorem c_l16Next {A L : Option Addr} {n c lc : Nat} {most : Int} {xs ls ys : List Int} {b : Bool} {w : World} (hu : up xs ls (List.replicate n most) = (ys, b)) (h0 : RI w A n xs) (h1 : RI w L n ls) (hbt : Btw xs ls (List.replicate n most)) (hm : 1 ≤ most ∧ most ≤ 3) (hlow : ∀ (k : Nat) (l : Int), ls[k]? = some l → -1000000 ≤ l) :
    Calls Try.prog 54 #[.slice A n c, .slice L n lc, .int .i64 most] w fun e w' => ∃ A' c', e = .returned (.tuple #[.slice A' n c', .bool b]) ∧ OwI w' w.heap.size A' n c' ys ∧ Ext w w' := by
  have hn := h0.le
  have hxl := h0.len
  have hll := h1.len
  have H0 := Lib.hid h0
  have HL := Lib.hid h1
  have HU := Lib.hid hu
  have HBT := Lib.hid hbt
  have HLOW := Lib.hid hlow
  have hhl : (List.replicate n most).length = n := List.length_replicate
  clear h0 h1 hu hbt hlow
  go_enter Try.func54, Try.ntmps54
  go_wp2_with fail
  (with_reducible refine (c_l1Copy H0.out).mono ?_)
  rintro e w2 ⟨A2, n2, c2, rfl, hO2, hE2⟩
  obtain rfl : n2 = n := by have := hO2.len; omega
  have HO2 := Lib.hid hO2
  clear hO2
  go_wp2_with fail
  go_loopw [9] (fun i wr => ∃ j : Nat, i = .int .i64 ((j : Int) - 1) ∧ j ≤ n2 ∧ Hid (OwI wr w.heap.size A2 n2 c2 (xs.take j ++ ls.drop j) ∧ up (xs.drop j) (ls.drop j) ((List.replicate n2 most).drop j) = (ls.drop j, false)) ∧ Hid (Ext w wr)) (fun i _ => (intOf i + 1).toNat)
  case atStart => exact ⟨n2, by go_num, Nat.le_refl _, Lib.hid ⟨by rw [List.take_of_length_le (by omega), List.drop_of_length_le (by omega), List.append_nil]; exact HO2.out, by rw [List.drop_of_length_le (by omega), List.drop_of_length_le (by omega), List.drop_of_length_le (by omega)]; rfl⟩, Lib.hid hE2⟩
  case round =>
    obtain ⟨j1, rfl, hj1, hO, hG⟩ := hrel
    rcases Nat.eq_zero_or_pos j1 with hz | hz
    · subst hz
      have hz0 : ¬ ((0 : Nat) : Int) - 1 ≥ 0 := by omega
      have HE := Lib.hid (show ys = ls ∧ b = false by
        have h3 := hO.out.2
        rw [List.drop_zero, List.drop_zero, List.drop_zero, HU.out] at h3
        cases h3; exact ⟨rfl, rfl⟩)
      have HO := Lib.hid (show OwI wr w.heap.size A2 n2 c2 ls by have := hO.out.1; simpa using this)
      go_wp2
      rw [HE.out.1, HE.out.2]
      refine bodyPost_ret (v := .tuple #[.slice A2 n2 c2, .bool false]) (by simp [results, Try.results54, go_sem]) rfl ?_
      exact ⟨A2, c2, rfl, HO.out, hG.out⟩
    · obtain ⟨j, rfl⟩ : ∃ j, j1 = j + 1 := ⟨j1 - 1, by omega⟩
      have hji : (((j + 1 : Nat) : Int)) - 1 = (j : Int) := by omega
      rw [hji]
      have hjn : j < n2 := by omega
      obtain ⟨g, rfl, hgB, _⟩ : ∃ g, A2 = some ⟨g, 0, none⟩ ∧ w.heap.size ≤ g ∧ g < wr.heap.size := by
        rcases hO.out.1.form with ⟨_, h0, _⟩ | h
        · omega
        · exact h
      obtain ⟨x, hx⟩ : ∃ x, xs[j]? = some x := ⟨_, List.getElem?_eq_getElem (by omega)⟩
      obtain ⟨l, h, hl, hh, hlx, hxh⟩ := HBT.out.at_ hx
      obtain ⟨x', hx', hcx, hfx⟩ := OwI.at_ hO.out.1 hjn
      rw [up_get hx] at hx'; cases hx'
      obtain ⟨bl, ol, l', rfl, hl', hcl⟩ := RI.at_ (RI.ext HL.out hG.out) hjn
      rw [hl] at hl'; cases hl'
      have hhm : h = most := by rw [List.getElem?_replicate, if_pos hjn] at hh; cases hh; rfl
      subst hhm
      have HXJ := Lib.hid hx
      have HLJ := Lib.hid hl
      have HHJ := Lib.hid hh
      have hj0 : (0 : Int) ≤ (j : Int) := by omega
      have hjd : decide ((0 : Int) ≤ (j : Int)) = true := by simp
      have hjni : (j : Int) < (n2 : Int) := by omega
      have hgl : g < wr.heap.size := World.block_lt_of_cell? wr _ hcx
      clear hl hh hx
      by_cases hxh2 : x < h
      · have hd2 : decide (x < h) = true := by simpa using hxh2
        have HE := Lib.hid (show ys = xs.take j ++ (x + 1) :: ls.drop (j + 1) ∧ b = true by
          have h3 := up_at (by omega) (by omega) HXJ.out HHJ.out hxh2 hO.out.2
          rw [HU.out] at h3
          cases h3; exact ⟨rfl, rfl⟩)
        have hxl0 : -1000000 ≤ x := by
          rcases Int.lt_or_le x (-1000000) with h5 | h5
          · exact absurd HLOW.out (by intro h6; have := h6 j l HLJ.out; omega)
          · exact h5
        have hw1 : IntKind.i64.wrap (x + 1) = x + 1 := IntWalk.i64_in _ (by omega)
        have HN := Lib.hid (show OwI (wr.setCell ⟨g, j, none⟩ (.int .i64 (x + 1))) w.heap.size (some ⟨g, 0, none⟩) n2 c2 (xs.take j ++ (x + 1) :: ls.drop (j + 1)) by rw [← up_mid2 (x + 1) HXJ.out]; exact OwI.set hO.out.1 j (x + 1))
        have HG := Lib.hid (Ext.set hG.out (show w.heap.size ≤ (⟨g, j, none⟩ : Addr).block from hgB) (.int .i64 (x + 1)))
        go_wp2
        rw [HE.out.1, HE.out.2]
        refine bodyPost_ret (v := .tuple #[.slice (some ⟨g, 0, none⟩) n2 c2, .bool true]) (by simp [results, Try.results54, go_sem]) rfl ?_
        exact ⟨_, c2, rfl, HN.out, HG.out⟩
      · have hd2 : decide (x < h) = false := by simpa using hxh2
        have HB := Lib.hid (up_back HXJ.out HLJ.out HHJ.out hxh2 hO.out.2)
        have HN := Lib.hid (show OwI (wr.setCell ⟨g, j, none⟩ (.int .i64 l)) w.heap.size (some ⟨g, 0, none⟩) n2 c2 (xs.take j ++ ls.drop j) by rw [← up_mid (by omega) HLJ.out]; exact OwI.set hO.out.1 j l)
        have HG := Lib.hid (Ext.set hG.out (show w.heap.size ≤ (⟨g, j, none⟩ : Addr).block from hgB) (.int .i64 l))
        go_wp2
        go_roundw
        case rel => exact ⟨j, by go_num, by omega, Lib.hid ⟨HN.out, HB.out⟩, HG⟩
        case measure => simp only [intOf]; omega

end Go.Proofs.Ytjmdfjinicbkeaa
