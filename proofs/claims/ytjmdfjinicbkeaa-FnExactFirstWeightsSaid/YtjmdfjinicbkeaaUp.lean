/- Numbers counted up in place: the program's. -/
import Derived.Test.YtjmdfjinicbkeaaMUp
import Derived.Test.YtjmdfjinicbkeaaMark
import Derived.Test.YtjmdfjinicbkeaaHeld
-- rd: RdI
namespace Go.Proofs.Ytjmdfjinicbkeaa
open Go.RowKit
set_option linter.unusedSimpArgs false
set_option linter.unusedVariables false

/-- Numbers, so many of which are still to be looked at. -/
theorem up_mid {xs ls : List Int} {j : Nat} {l : Int} (hl : xs.length = ls.length) (h : ls[j]? = some l) : (xs.take (j + 1) ++ ls.drop (j + 1)).set j l = xs.take j ++ ls.drop j := by
  obtain ⟨h1, h2⟩ := List.getElem?_eq_some_iff.1 h
  have hj : j < xs.length := by omega
  rw [List.take_add_one, List.getElem?_eq_getElem hj, List.append_assoc]
  rw [List.set_append_right _ _ (by simp; omega), List.length_take, Nat.min_eq_left (by omega), Nat.sub_self]
  simp [List.drop_eq_getElem_cons h1, h2]
theorem up_mid2 {xs ls : List Int} {j : Nat} {x : Int} (y : Int) (h : xs[j]? = some x) : (xs.take (j + 1) ++ ls.drop (j + 1)).set j y = xs.take j ++ y :: ls.drop (j + 1) := by
  obtain ⟨h1, h2⟩ := List.getElem?_eq_some_iff.1 h
  rw [List.take_add_one, h, List.append_assoc]
  rw [List.set_append_right _ _ (by simp; omega), List.length_take, Nat.min_eq_left (by omega), Nat.sub_self]
  simp
theorem up_get {xs ls : List Int} {j : Nat} {x : Int} (h : xs[j]? = some x) : (xs.take (j + 1) ++ ls.drop (j + 1))[j]? = some x := by
  obtain ⟨h1, h2⟩ := List.getElem?_eq_some_iff.1 h
  rw [List.getElem?_append_left (by simp; omega), List.getElem?_take, if_pos (by omega), h]
set_option maxRecDepth 100000 in
set_option maxHeartbeats 4000000 in
theorem c_countUp {A L H : Option Addr} {n c lc hc B : Nat} {xs ls hs ys : List Int} {b : Bool} {w : World} (hu : up xs ls hs = (ys, b)) (h0 : OwI w B A n c xs) (h1 : RI w L n ls) (h2 : RI w H n hs) (hbt : Btw xs ls hs)
    (hL : ∀ g o s g' o' s', A = some ⟨g, o, s⟩ → L = some ⟨g', o', s'⟩ → g' ≠ g) (hH : ∀ g o s g' o' s', A = some ⟨g, o, s⟩ → H = some ⟨g', o', s'⟩ → g' ≠ g) (hbig : (∀ (k : Nat) (h : Int), hs[k]? = some h → h ≤ 1000000) ∧ ∀ (k : Nat) (l : Int), ls[k]? = some l → -1000000 ≤ l) :
    Calls Try.prog 60 #[.slice A n c, .slice L n lc, .slice H n hc] w fun e w' => e = .returned (.bool b) ∧ OwI w' B A n c ys ∧ OnlyA w w' A := by
  have hn := h0.le
  have hxl := h0.len
  have hll := h1.len
  have hhl := h2.len
  have H0 := Lib.hid h0
  have HL := Lib.hid h1
  have HH := Lib.hid h2
  have HU := Lib.hid hu
  have HBT := Lib.hid hbt
  have HBIG := Lib.hid hbig
  clear h0 h1 h2 hu hbt hbig
  go_enter Try.func60, Try.ntmps60
  go_wp2_with fail
  go_loopw [7] (fun i wr => ∃ j : Nat, i = .int .i64 ((j : Int) - 1) ∧ j ≤ n ∧ Hid (OwI wr B A n c (xs.take j ++ ls.drop j) ∧ up (xs.drop j) (ls.drop j) (hs.drop j) = (ls.drop j, false)) ∧ Hid (OnlyA w wr A)) (fun i _ => (intOf i + 1).toNat)
  case atStart => exact ⟨n, by go_num, Nat.le_refl _, Lib.hid ⟨by rw [List.take_of_length_le (by omega), List.drop_of_length_le (by omega), List.append_nil]; exact H0.out, by rw [List.drop_of_length_le (by omega), List.drop_of_length_le (by omega), List.drop_of_length_le (by omega)]; rfl⟩, Lib.hid (OnlyA.refl _ _)⟩
  case round =>
    obtain ⟨j1, rfl, hj1, hO, hG⟩ := hrel
    rcases Nat.eq_zero_or_pos j1 with hz | hz
    · subst hz
      have hz0 : ¬ ((0 : Nat) : Int) - 1 ≥ 0 := by omega
      have HE := Lib.hid (show ys = ls ∧ b = false by
        have h3 := hO.out.2
        rw [List.drop_zero, List.drop_zero, List.drop_zero, HU.out] at h3
        cases h3; exact ⟨rfl, rfl⟩)
      have HO := Lib.hid (show OwI wr B A n c ls by have := hO.out.1; simpa using this)
      go_wp2
      go_ret
      exact ⟨ret_bool HE.out.2.symm, by rw [HE.out.1]; exact HO.out, hG.out⟩
    · obtain ⟨j, rfl⟩ : ∃ j, j1 = j + 1 := ⟨j1 - 1, by omega⟩
      have hji : (((j + 1 : Nat) : Int)) - 1 = (j : Int) := by omega
      rw [hji]
      have hjn : j < n := by omega
      obtain ⟨g, rfl, hgB, _⟩ : ∃ g, A = some ⟨g, 0, none⟩ ∧ B ≤ g ∧ g < wr.heap.size := by
        rcases hO.out.1.form with ⟨_, h0, _⟩ | h
        · omega
        · exact h
      obtain ⟨x, hx⟩ : ∃ x, xs[j]? = some x := ⟨_, List.getElem?_eq_getElem (by omega)⟩
      obtain ⟨l, h, hl, hh, hlx, hxh⟩ := HBT.out.at_ hx
      obtain ⟨x', hx', hcx, hfx⟩ := OwI.at_ hO.out.1 hjn
      rw [up_get hx] at hx'; cases hx'
      obtain ⟨bl, ol, l', rfl, hl', hcl⟩ := RI.at_ (RI.onlyA HL.out hG.out hL) hjn
      rw [hl] at hl'; cases hl'
      obtain ⟨bh, oh, h', rfl, hh', hch⟩ := RI.at_ (RI.onlyA HH.out hG.out hH) hjn
      rw [hh] at hh'; cases hh'
      have hhb := HBIG.out.1 j h hh
      have hlb := HBIG.out.2 j l hl
      have HXJ := Lib.hid hx
      have HLJ := Lib.hid hl
      have HHJ := Lib.hid hh
      have hj0 : (0 : Int) ≤ (j : Int) := by omega
      have hjd : decide ((0 : Int) ≤ (j : Int)) = true := by simp
      have hjni : (j : Int) < (n : Int) := by omega
      have hgl : g < wr.heap.size := World.block_lt_of_cell? wr _ hcx
      clear hx hl hh
      by_cases hxh2 : x < h
      · have hd2 : decide (x < h) = true := by simpa using hxh2
        have HE := Lib.hid (show ys = xs.take j ++ (x + 1) :: ls.drop (j + 1) ∧ b = true by
          have h3 := up_at (by omega) (by omega) HXJ.out HHJ.out hxh2 hO.out.2
          rw [HU.out] at h3
          cases h3; exact ⟨rfl, rfl⟩)
        have hw1 : IntKind.i64.wrap (x + 1) = x + 1 := IntWalk.i64_in _ (by omega)
        go_wp2_with fail
        go_quiet (fail)
        have HN := Lib.hid (show OwI ((wr.drewN nq).setCell ⟨g, j, none⟩ (.int .i64 (x + 1))) B (some ⟨g, 0, none⟩) n c (xs.take j ++ (x + 1) :: ls.drop (j + 1)) by rw [← up_mid2 (x + 1) HXJ.out]; exact OwI.set (OwI.drewN hO.out.1 nq) j (x + 1))
        have HG := Lib.hid (OnlyA.trans (OnlyA.trans hG.out (OnlyA.of_ext (by exact extX : Ext wr (wr.drewN nq)) _)) (Only.setCell (wr.drewN nq) g j (.int .i64 (x + 1))))
        go_wp2
        go_ret
        exact ⟨ret_bool HE.out.2.symm, by rw [HE.out.1]; exact HN.out, HG.out⟩
      · have hd2 : decide (x < h) = false := by simpa using hxh2
        have HB := Lib.hid (up_back HXJ.out HLJ.out HHJ.out hxh2 hO.out.2)
        go_wp2_with fail
        go_quiet (fail)
        have HN := Lib.hid (show OwI ((wr.drewN nq).setCell ⟨g, j, none⟩ (.int .i64 l)) B (some ⟨g, 0, none⟩) n c (xs.take j ++ ls.drop j) by rw [← up_mid (by omega) HLJ.out]; exact OwI.set (OwI.drewN hO.out.1 nq) j l)
        have HG := Lib.hid (OnlyA.trans (OnlyA.trans hG.out (OnlyA.of_ext (by exact extX : Ext wr (wr.drewN nq)) _)) (Only.setCell (wr.drewN nq) g j (.int .i64 l)))
        go_wp2
        go_roundw
        case rel => exact ⟨j, by go_num, by omega, Lib.hid ⟨HN.out, HB.out⟩, HG⟩
        case measure => simp only [intOf]; omega

end Go.Proofs.Ytjmdfjinicbkeaa
