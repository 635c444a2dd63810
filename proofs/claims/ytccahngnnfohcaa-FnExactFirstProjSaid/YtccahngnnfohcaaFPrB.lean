/- The first projection: the program's. -/
import Derived.Test.YtccahngnnfohcaaFPrA
import Derived.Test.YtccahngnnfohcaaRep
import Derived.Test.YtccahngnnfohcaaUp
-- rd: RdSyK RdDp RdDq
namespace Go.Proofs.Ytccahngnnfohcaa
open Go.RowKit
set_option linter.unusedSimpArgs false
set_option linter.unusedVariables false

theorem OwB.setFar {u m : Nat} {w : World} {us : List Bool} (h : OwB u m w us) {p : Addr} (v : Value) (hp : p.block ≠ u) : OwB u m (w.setCell p v) us := h.block (Below.heap_setCell w p v u (fun e => hp e.symm))
theorem OwB.drewN {u m : Nat} {w : World} {us : List Bool} (h : OwB u m w us) (k : Nat) : OwB u m (w.drewN k) us := h
/-- How many lists are still to be looked at. -/
noncomputable def fpMeas (T : List Int → Prop) (ls hs : List Int) (o : Option (List Int)) (B g n c : Nat) (mv : Value) (w : World) : Nat := match mv with
  | .bool true => leastOf (fun k => ∃ xs, OwI w B (some ⟨g, 0, none⟩) n c xs ∧ OnWay T ls hs o k xs) + 1
  | _ => 0
theorem fpMeas_t {T : List Int → Prop} {ls hs : List Int} {o : Option (List Int)} {B g n c : Nat} {w : World} : fpMeas T ls hs o B g n c (.bool true) w = leastOf (fun k => ∃ xs, OwI w B (some ⟨g, 0, none⟩) n c xs ∧ OnWay T ls hs o k xs) + 1 := rfl
theorem fpMeas_f {T : List Int → Prop} {ls hs : List Int} {o : Option (List Int)} {B g n c : Nat} {w : World} : fpMeas T ls hs o B g n c (.bool false) w = 0 := rfl
theorem fp_big {ar : List Int} {ps : List DepP} {set : List Int} (hs : SigP ar) : (∀ (k : Nat) (h : Int), (highP ar ps set)[k]? = some h → h ≤ 1000000) ∧ ∀ (k : Nat) (l : Int), (lowP ar ps set)[k]? = some l → -1000000 ≤ l := by
  refine ⟨fun k h hh => ?_, fun k l hl => ?_⟩
  · have hk : k < ar.length := by have := (List.getElem?_eq_some_iff.1 hh).1; simpa [highP, highK_len] using this
    rw [highP, highK_at hk] at hh
    have hak : ar[k]? = some ar[k] := List.getElem?_eq_getElem hk
    have h0 := hs.2.2 ar[k] (List.getElem_mem hk)
    rw [List.getD_eq_getElem?_getD, hak] at hh
    split at hh
    · simp at hh; omega
    · simp at hh; omega
  · have hk : k < ar.length := by have := (List.getElem?_eq_some_iff.1 hl).1; simpa [lowP, lowK_len] using this
    rw [lowP, lowK_at hk] at hl
    split at hl <;> (simp at hl; omega)
set_option maxRecDepth 100000 in
set_option maxHeartbeats 8000000 in
theorem c_firstProj {v0 v2 : Value} {A : Option Addr} {n c m : Nat} {ar set : List Int} {ps : List DepP} {o : Option (List Int)} {w : World} (ho : fpGo ar ps set = o) (hm : ar.length = m) (hs : SigP ar) (h0 : RdSig w v0 ar) (h1 : RE w A n ps) (h2 : RdI w v2 set) (hpp : ∀ q ∈ ps, PairP ar q) (hset : SetP n set) :
    Calls Try.prog 55 #[v0, .slice A n c, v2] w (NewOb w o) := by
  obtain ⟨S, sn, sc, rfl, hsr⟩ := h0
  obtain ⟨D, d, dc, rfl, hd⟩ := h2
  obtain rfl : sn = m := by rw [← hsr.len, hm]
  have hm8 : sn ≤ 8 := by rw [← hm]; exact hs.2.1
  have hm1 : 1 ≤ sn := by rw [← hm]; exact hs.1
  have HS := Lib.hid hsr
  have HA := Lib.hid h1
  have HD := Lib.hid hd
  have HPP := Lib.hid hpp
  have HST := Lib.hid hset
  have HM := Lib.hid hm
  have HSP := Lib.hid hs
  have HO := Lib.hid ho
  clear hsr h1 hd hpp hset hs ho
  go_enter Try.func55, Try.ntmps55
  go_wp2_with fail
  obtain ⟨wo, hwo⟩ : ∃ wo, wo = w.alloc (.cells #[.slice S sn sc] 31) := ⟨_, rfl⟩
  have hw0 : wo.cell? ⟨w.heap.size, 0, none⟩ = some (.slice S sn sc) := by rw [hwo]; simp [go_sem]
  have hEo : Ext w wo := by rw [hwo]; (repeat' (first | (with_reducible exact Ext.refl _) | (with_reducible assumption) | (with_reducible refine Ext.alloc ?_ _) | (with_reducible refine Ext.set ?_ ?_ _) | (with_reducible refine Ext.drewN ?_ _) | (with_reducible refine Ext.drew ?_) | (with_reducible refine Ext.trans ?_ (by with_reducible assumption)) | go_size))
  have hos : wo.heap.size = w.heap.size + 1 := by rw [hwo]; simp [go_sem]
  rw [← hwo]
  clear hwo
  refine wp_region_held_drew (S := (fun w' => w'.cell? ⟨w.heap.size, 0, none⟩ = some (.slice S sn sc) ∧ Ext wo w')) (by kernel_rfl) ?_ (fun hH => ?_)
  · exact ⟨hw0, (Ext.refl wo).drew⟩
  refine wpAnyH_take_dst (i := 0) (v := .pointer (some ⟨w.heap.size, 0, none⟩)) (d := some 16) rfl rfl (by kernel_rfl) (by kernel_rfl) (by kernel_rfl) (fun _ _ _ h => h) (Or.inl ⟨by rfl, ?_⟩) hH ?_
  · (intro w hSw; (try dsimp only at hSw); go_split_ands; go_simp; try with_reducible rfl)
  try simp only [Act.put, List.setIfInBounds_toArray, List.set_cons_zero, List.set_cons_succ]
  refine wpAnyH_take_dst (i := 1) (v := .slice S sn sc) (d := some 17) rfl rfl (by kernel_rfl) (by kernel_rfl) (by kernel_rfl) (fun _ _ _ h => h) (Or.inl ⟨by rfl, ?_⟩) hH ?_
  · (intro w hSw; (try dsimp only at hSw); go_split_ands; go_simp; try with_reducible rfl)
  try simp only [Act.put, List.setIfInBounds_toArray, List.set_cons_zero, List.set_cons_succ]
  refine wpAnyH_take_dst (i := 2) (v := .int .i64 (sn : Int)) (d := some 18) rfl rfl (by kernel_rfl) (by kernel_rfl) (by kernel_rfl) (fun _ _ _ h => h) (Or.inl ⟨by rfl, ?_⟩) hH ?_
  · (intro w hSw; (try dsimp only at hSw); go_split_ands; go_simp; try with_reducible rfl)
  try simp only [Act.put, List.setIfInBounds_toArray, List.set_cons_zero, List.set_cons_succ]
  refine wpAnyH_take_dst (i := 4) (v := .pointer (some ⟨w.heap.size, 0, none⟩)) (d := some 20) rfl rfl (by kernel_rfl) (by kernel_rfl) (by kernel_rfl) (fun _ _ _ h => h) (Or.inl ⟨by rfl, ?_⟩) hH ?_
  · (intro w hSw; (try dsimp only at hSw); go_split_ands; go_simp; try with_reducible rfl)
  try simp only [Act.put, List.setIfInBounds_toArray, List.set_cons_zero, List.set_cons_succ]
  refine wpAnyH_take_dst (i := 5) (v := .slice S sn sc) (d := some 21) rfl rfl (by kernel_rfl) (by kernel_rfl) (by kernel_rfl) (fun _ _ _ h => h) (Or.inl ⟨by rfl, ?_⟩) hH ?_
  · (intro w hSw; (try dsimp only at hSw); go_split_ands; go_simp; try with_reducible rfl)
  try simp only [Act.put, List.setIfInBounds_toArray, List.set_cons_zero, List.set_cons_succ]
  refine wpAnyH_take_dst (i := 6) (v := .int .i64 (sn : Int)) (d := some 22) rfl rfl (by kernel_rfl) (by kernel_rfl) (by kernel_rfl) (fun _ _ _ h => h) (Or.inl ⟨by rfl, ?_⟩) hH ?_
  · (intro w hSw; (try dsimp only at hSw); go_split_ands; go_simp; try with_reducible rfl)
  try simp only [Act.put, List.setIfInBounds_toArray, List.set_cons_zero, List.set_cons_succ]
  refine wpAnyH_ready (rs := [3]) (by kernel_rfl) (by simp) ?_
  refine AllReadyH.cons rfl (fun K hK => ?_) AllReadyH.nil
  rw [if_pos (by rfl)]
  go_wp2_with (go_at_call 96; (with_reducible refine ((c_repeated (by omega))).mono ?_); rintro e w5 ⟨A8, n8, c8, rfl, hO8, hE9⟩)
  refine hK.out _ _ ⟨Ext.keep hE9 hH.1, Ext.trans hH.2 hE9⟩ (fun hH9 => ?_)
  clear hK hH; have hH := hH9; clear hH9
  try simp only [Act.put, List.setIfInBounds_toArray, List.set_cons_zero, List.set_cons_succ]
  refine wpAnyH_ready (rs := [7]) (by kernel_rfl) (by simp) ?_
  refine AllReadyH.cons rfl (fun K hK => ?_) AllReadyH.nil
  rw [if_pos (by rfl)]
  go_wp2_with (go_at_call 96; (with_reducible refine ((c_repeated (by omega))).mono ?_); rintro e w6 ⟨A9, n9, c9, rfl, hO9, hE9⟩)
  refine hK.out _ _ ⟨Ext.keep hE9 hH.1, Ext.trans hH.2 hE9⟩ (fun hH9 => ?_)
  clear hK hH; have hH := hH9; clear hH9
  try simp only [Act.put, List.setIfInBounds_toArray, List.set_cons_zero, List.set_cons_succ]
  refine wpAnyH_take_dst (i := 8) (v := .slice A8 n8 c8) (d := some 8) rfl rfl (by kernel_rfl) (by kernel_rfl) (by kernel_rfl) (fun _ _ _ h => h) (Or.inl ⟨by rfl, ?_⟩) hH ?_
  · (intro w hSw; (try dsimp only at hSw); go_split_ands; go_simp; try with_reducible rfl)
  try simp only [Act.put, List.setIfInBounds_toArray, List.set_cons_zero, List.set_cons_succ]
  refine wpAnyH_take_dst (i := 9) (v := .slice A9 n9 c9) (d := some 9) rfl rfl (by kernel_rfl) (by kernel_rfl) (by kernel_rfl) (fun _ _ _ h => h) (Or.inl ⟨by rfl, ?_⟩) hH ?_
  · (intro w hSw; (try dsimp only at hSw); go_split_ands; go_simp; try with_reducible rfl)
  try simp only [Act.put, List.setIfInBounds_toArray, List.set_cons_zero, List.set_cons_succ]
  refine wpAnyH_done (by kernel_rfl) ?_ _
  obtain rfl : n8 = sn := by have := hO8.len; simpa using this.symm
  obtain rfl : n9 = n8 := by have := hO9.len; simpa using this.symm
  have hE6 := hH.2
  have hc6 := hH.1
  have hEw6 := Ext.trans hEo hE6
  have hbd8 := hO8.bd
  have hbd9 := hO9.bd
  have hsz6 := hE6.size
  have hO8 := hO8.ext hE9
  obtain ⟨g8, rfl, hg8, hg8l⟩ : ∃ g, A8 = some ⟨g, 0, none⟩ ∧ w.heap.size + 1 ≤ g ∧ g < w6.heap.size := by
    rcases hO8.form with ⟨_, h, _⟩ | ⟨g, hA, h1, h2⟩
    · omega
    · exact ⟨g, hA, by simp [go_sem] at h1; omega, h2⟩
  obtain ⟨g9, rfl, hg9, hg9l⟩ : ∃ g, A9 = some ⟨g, 0, none⟩ ∧ w.heap.size + 1 ≤ g ∧ g < w6.heap.size := by
    rcases hO9.form with ⟨_, h, _⟩ | ⟨g, hA, h1, h2⟩
    · omega
    · exact ⟨g, hA, by have := (hE9).size; have := (hbd8 g8 0 none rfl).1; simp [go_sem] at *; omega, h2⟩
  have hg89 : g8 ≠ g9 := by
    have h1 := (hbd8 g8 0 none rfl).2
    have h2 := (hbd9 g9 0 none rfl).1
    omega
  have hwod : wo.drew.heap.size = w.heap.size + 1 := by simpa [World.size_drew] using hos
  have HO8 := Lib.hid (show OwI w6 (w.heap.size + 1) (some ⟨g8, 0, none⟩) n9 c8 (lowK ps set n9 0) by rw [← lowK_zero]; exact hO8.lower (by omega))
  have HO9 := Lib.hid (show OwI w6 (w.heap.size + 1) (some ⟨g9, 0, none⟩) n9 c9 (highK ar ps set n9 0) by rw [← highK_zero]; exact hO9.lower (by have := hbd8 g8 0 none rfl; omega))
  clear hO8 hO9 hbd8 hbd9 hH hE9
  go_wp2_with fail
  (with_reducible refine (c_heads HM.out HSP.out (RdSig.mk (RI.ext HS.out hEw6)) (RE.ext HA.out hEw6) (RdI.mk (RI.ext HD.out hEw6)) HPP.out HST.out).mono ?_)
  rintro e w7 ⟨rfl, hB7, hE7⟩
  have HB7 := Lib.hid hB7
  have hc7 := Ext.keep hE7 hc6
  have hEw7 := Ext.trans hEw6 hE7
  have HO8 := Lib.hid (HO8.out.ext hE7)
  have HO9 := Lib.hid (HO9.out.ext hE7)
  have hg8l7 : g8 < w7.heap.size := by have := hE7.size; omega
  have hg9l7 : g9 < w7.heap.size := by have := hE7.size; omega
  clear hB7
  go_wp2_with fail
  go_loopw [29] (fun kv wr => ∃ k : Nat, kv = .int .i64 k ∧ k ≤ n9 ∧ Hid (OwI wr (w.heap.size + 1) (some ⟨g8, 0, none⟩) n9 c8 (lowK ps set n9 k) ∧ OwI wr (w.heap.size + 1) (some ⟨g9, 0, none⟩) n9 c9 (highK ar ps set n9 k) ∧ OwB (w6.heap.size + 1) n9 wr (hdL ps set n9) ∧ ∀ f, f < k → hdB ps set (f : Int) = true → ¬ ar[f]? = some 0) ∧ Ext wo wr ∧ w7.heap.size ≤ wr.heap.size) (fun kv _ => n9 - (intOf kv).toNat)
  case atStart => exact ⟨0, rfl, Nat.zero_le _, Lib.hid ⟨HO8.out, HO9.out, HB7.out, fun f h => by omega⟩, Ext.trans hE6 hE7, Nat.le_refl _⟩
  case round =>
    obtain ⟨k, rfl, hk, hI, hE, hsz⟩ := hrel
    have hEw := Ext.trans hEo hE
    have hcr := Ext.keep hE hw0
    by_cases hlt : k < n9
    · obtain ⟨bk, hbk, hcb, hfb⟩ := hI.out.2.2.1.at_ hlt
      rw [hdL_get hlt] at hbk
      have hbk' := Option.some.inj hbk
      obtain ⟨x8, hx8, hc8, hf8⟩ := OwI.at_ hI.out.1 hlt
      obtain ⟨x9, hx9, hc9, hf9⟩ := OwI.at_ hI.out.2.1 hlt
      obtain ⟨bs, os, x, rfl, hx, hcx⟩ := RI.at_ HS.out hlt
      have hcx' := Ext.keep hEw hcx
      have hbsl : bs < w.heap.size := World.block_lt_of_cell? w _ hcx
      have hx3 : 0 ≤ x ∧ x ≤ 3 := HSP.out.2.2 x (List.mem_of_getElem? hx)
      have HX := Lib.hid hx
      rw [lowK_at hlt] at hx8
      rw [highK_at hlt] at hx9
      rw [if_neg (by omega)] at hx8 hx9
      cases hx8; cases hx9
      have hki : (k : Int) < (n9 : Int) := by omega
      have hk0 : (0 : Int) ≤ (k : Int) := by omega
      have hgw8 : g8 ≠ w6.heap.size + 1 := by omega
      have hgw9 : g9 ≠ w6.heap.size + 1 := by omega
      have hgs8 : bs ≠ g8 := by omega
      have hgs9 : bs ≠ g9 := by omega
      have hgb8 : w.heap.size ≠ g8 := by omega
      have hg98 : g9 ≠ g8 := fun e => hg89 e.symm
      have hg8r : g8 < wr.heap.size := by omega
      have hg9r : g9 < wr.heap.size := by omega
      clear hx hbk
      cases bk with
      | false =>
        have HN8 := Lib.hid (lowK_no (m := n9) hbk')
        have HN9 := Lib.hid (highK_no (ar := ar) (m := n9) hbk')
        have HNF := Lib.hid (show ∀ f, f < k + 1 → hdB ps set (f : Int) = true → ¬ ar[f]? = some 0 from fun f h1 h2 => by
          rcases Nat.lt_or_ge f k with h3 | h3
          · exact hI.out.2.2.2 f h3 h2
          · obtain rfl : f = k := by omega
            rw [hbk'] at h2; cases h2)
        go_wp2_with fail
        go_quiet (fail)
        go_wp2
        go_roundw
        case rel => exact ⟨k + 1, by go_num, by omega, Lib.hid ⟨by rw [← HN8.out]; exact OwI.drewN hI.out.1 nq, by rw [← HN9.out]; exact OwI.drewN hI.out.2.1 nq, hI.out.2.2.1.ext (by (repeat' (first | (with_reducible exact Ext.refl _) | (with_reducible assumption) | (with_reducible refine Ext.alloc ?_ _) | (with_reducible refine Ext.set ?_ ?_ _) | (with_reducible refine Ext.drewN ?_ _) | (with_reducible refine Ext.drew ?_) | (with_reducible refine Ext.trans ?_ (by with_reducible assumption)) | go_size))), HNF.out⟩, by (repeat' (first | (with_reducible exact Ext.refl _) | (with_reducible assumption) | (with_reducible refine Ext.alloc ?_ _) | (with_reducible refine Ext.set ?_ ?_ _) | (with_reducible refine Ext.drewN ?_ _) | (with_reducible refine Ext.drew ?_) | (with_reducible refine Ext.trans ?_ (by with_reducible assumption)) | go_size)), hsz⟩
        case measure => simp only [intOf]; omega
      | true =>
        have HN8 := Lib.hid (lowK_yes (m := n9) hlt hbk')
        have HN9 := Lib.hid (highK_yes (m := n9) hlt HX.out hbk')
        have hw1 : IntKind.i64.wrap (x - 1) = x - 1 := IntWalk.i64_in _ (by omega)
        by_cases hx0 : x = 0
        · have HP := Lib.hid (show o = none by rw [← HO.out]; exact fpGo_bad (by rw [HM.out]; exact hlt) hbk' HX.out hx0)
          subst hx0
          have hd2 : decide ((0 : Int) - 1 < 0) = true := by decide
          go_wp2_with fail
          go_quiet (fail)
          go_wp2
          refine bodyPost_ret (v := .tuple #[.slice none 0 0, .bool false]) (by simp [results, Try.results55, go_sem]) rfl ?_
          rw [HP.out]
          exact ⟨none, 0, 0, rfl, ⟨by omega, World.ownsRow_nil _ _ _ _⟩, (Ext.set (Ext.set hEw (show w.heap.size ≤ g8 by omega) _ (p := ⟨g8, k, none⟩)) (show w.heap.size ≤ g9 by omega) _ (p := ⟨g9, k, none⟩)).drewN nq⟩
        · have HNF := Lib.hid (show ∀ f, f < k + 1 → hdB ps set (f : Int) = true → ¬ ar[f]? = some 0 from fun f h1 h2 => by
            rcases Nat.lt_or_ge f k with h3 | h3
            · exact hI.out.2.2.2 f h3 h2
            · obtain rfl : f = k := by omega
              rw [HX.out]; intro e; cases e; exact hx0 rfl)
          have hd2 : decide (x - 1 < 0) = false := by simp; omega
          go_wp2_with fail
          go_quiet (fail)
          have HS8 := Lib.hid (OwI.drewN (OwI.setFar (OwI.set hI.out.1 k 0) (p := ⟨g9, k, none⟩) (.int .i64 (x - 1)) (fun g o s e => by cases e; exact hg89)) nq)
          have HS9 := Lib.hid (OwI.drewN (OwI.set (OwI.setFar hI.out.2.1 (p := ⟨g8, k, none⟩) (.int .i64 0) (fun g o s e => by cases e; exact hg98)) k (x - 1)) nq)
          have HSB := Lib.hid (OwB.drewN (OwB.setFar (OwB.setFar hI.out.2.2.1 (p := ⟨g8, k, none⟩) (.int .i64 0) hgw8) (p := ⟨g9, k, none⟩) (.int .i64 (x - 1)) hgw9) nq)
          rw [HN8.out] at HS8
          rw [HN9.out] at HS9
          have hE9 := (Ext.set (Ext.set hE (show wo.heap.size ≤ g8 by omega) (.int .i64 0) (p := ⟨g8, k, none⟩)) (show wo.heap.size ≤ g9 by omega) (.int .i64 (x - 1)) (p := ⟨g9, k, none⟩)).drewN nq
          go_wp2
          go_roundw
          case rel => exact ⟨k + 1, by go_num, by omega, Lib.hid ⟨HS8.out, HS9.out, HSB.out, HNF.out⟩, hE9, by go_size⟩
          case measure => simp only [intOf]; omega
    · obtain rfl : k = n9 := by omega
      obtain ⟨wq, rfl⟩ : ∃ wq : World, wq = wr := ⟨_, rfl⟩
      have HNB := Lib.hid (show ¬ BadH ar ps set from fun ⟨f, h1, h2, h3⟩ => hI.out.2.2.2 f (by rw [HM.out] at h1; exact h1) h2 h3)
      have HL := Lib.hid (show OwI wq (w.heap.size + 1) (some ⟨g8, 0, none⟩) k c8 (lowP ar ps set) by unfold lowP; rw [HM.out]; exact hI.out.1)
      have HH := Lib.hid (show OwI wq (w.heap.size + 1) (some ⟨g9, 0, none⟩) k c9 (highP ar ps set) by unfold highP; rw [HM.out]; exact hI.out.2.1)
      have HWAY := Lib.hid (fp_start HSP.out HNB.out HO.out)
      have HBIG := Lib.hid (fp_big (ps := ps) (set := set) HSP.out)
      clear hI
      go_wp2_with fail
      (with_reducible refine (c_clone HL.out.ri).mono ?_)
      rintro e w8 ⟨A5, n5, c5, rfl, hO5, hE8⟩
      obtain rfl : n5 = k := by have h1 := hO5.len; have h2 := HL.out.len; omega
      obtain ⟨g5, rfl, hg5, hg5l⟩ : ∃ g, A5 = some ⟨g, 0, none⟩ ∧ wq.heap.size ≤ g ∧ g < w8.heap.size := by
        rcases hO5.form with ⟨_, h, _⟩ | h
        · omega
        · exact h
      have HO5 := Lib.hid hO5
      have HL8 := Lib.hid HL.out.ri
      have HH8 := Lib.hid HH.out.ri
      have hE8w := Ext.trans hEw hE8
      have hrsz : wq.heap.size ≤ w8.heap.size := hE8.size
      have hg8r : g8 < wq.heap.size := by omega
      have hg9r : g9 < wq.heap.size := by omega
      have hc8w := Ext.keep hE8 hcr
      clear hO5 HL HH
      go_wp2_with fail
      go_loopw [13] (fun mv wr => ∃ more : Bool, mv = .bool more ∧ Hid ((more = true → ∃ k xs, OwI wr wq.heap.size (some ⟨g5, 0, none⟩) n5 c5 xs ∧ OnWay (GoesBy ar ps set) (lowP ar ps set) (highP ar ps set) o k xs) ∧ (more = false → o = none)) ∧ Ext wq wr) (fun mv wr => fpMeas (GoesBy ar ps set) (lowP ar ps set) (highP ar ps set) o wq.heap.size g5 n5 c5 mv wr)
      case atStart => exact ⟨true, rfl, Lib.hid ⟨fun _ => by
        obtain ⟨k, hk⟩ := HWAY.out
        exact ⟨k, _, HO5.out, hk⟩, fun h => by cases h⟩, hE8⟩
      case round =>
        obtain ⟨more, rfl, hI, hEr⟩ := hrel
        have hErw := Ext.trans hEw hEr
        have hcr2 := Ext.keep hEr hcr
        cases more with
        | false =>
          have HP := Lib.hid (hI.out.2 rfl)
          go_wp2_with fail
          refine bodyPost_ret (v := .tuple #[.slice none 0 0, .bool false]) (by simp [results, Try.results55, go_sem]) rfl ?_
          rw [HP.out]
          exact ⟨none, 0, 0, rfl, ⟨by omega, World.ownsRow_nil _ _ _ _⟩, hErw⟩
        | true =>
          have hex : ∃ k xs, OwI wr wq.heap.size (some ⟨g5, 0, none⟩) n5 c5 xs ∧ OnWay (GoesBy ar ps set) (lowP ar ps set) (highP ar ps set) o k xs := hI.out.1 rfl
          obtain ⟨⟨xs, hX, hW⟩, _⟩ := leastOf_spec hex
          have HX := Lib.hid hX
          have HW := Lib.hid hW
          have HPJ := Lib.hid (btw_proj HSP.out hW.btw)
          obtain ⟨o', ho'⟩ : ∃ o', prjGo ar xs ps set [] = o' := ⟨_, rfl⟩
          have HO' := Lib.hid ho'
          clear hX hW ho' hex
          go_wp2_with fail
          (with_reducible refine (c_project HO'.out (RdSig.mk (RI.ext HS.out hErw)) (RE.ext HA.out hErw) (RdI.mk (RI.ext HD.out hErw)) (RdI.mk HX.out.ri) HPP.out HPJ.out HST.out).mono ?_)
          rintro e w9 ⟨A7, n7, c7, rfl, hO7, hE9⟩
          have hn7 := hO7.len
          have hE9q := Ext.trans hEr hE9
          have hE9w := Ext.trans hErw hE9
          have HX9 := Lib.hid (HX.out.ext hE9)
          have hc9 := Ext.keep hE9 hcr2
          clear hO7
          by_cases hgo : GoesBy ar ps set xs
          · have HP := Lib.hid (HW.out.yes hgo)
            obtain ⟨y, ys, hy⟩ := hgo
            rw [HO'.out] at hy
            subst hy
            simp at hn7
            have h7 : (n7 : Int) > 0 := by omega
            have h7p : 0 < n7 := by omega
            simp only [Option.isSome_some]
            go_wp2_with fail
            refine bodyPost_ret (v := .tuple #[.slice (some ⟨g5, 0, none⟩) n5 c5, .bool true]) (by simp [results, Try.results55, go_sem]) rfl ?_
            rw [HP.out]
            exact ⟨_, _, _, rfl, HX9.out.lower (by have := hEw.size; omega), hE9w⟩
          · have h0 : o' = none ∨ o' = some [] := by
              cases o' with
              | none => exact .inl rfl
              | some l => cases l with
                | nil => exact .inr rfl
                | cons y ys => exact absurd ⟨y, ys, HO'.out⟩ hgo
            rcases hup : up xs (lowP ar ps set) (highP ar ps set) with ⟨ys, bb⟩
            have HUP := Lib.hid hup
            have HNX := Lib.hid (show (bb = true → ∃ m, m < leastOf (fun k => ∃ xs, OwI wr wq.heap.size (some ⟨g5, 0, none⟩) n5 c5 xs ∧ OnWay (GoesBy ar ps set) (lowP ar ps set) (highP ar ps set) o k xs) ∧ OnWay (GoesBy ar ps set) (lowP ar ps set) (highP ar ps set) o m ys) ∧ (bb = false → o = none) from ⟨fun e => by subst e; exact HW.out.next hgo hup, fun e => by subst e; exact HW.out.stop hgo hup⟩)
            clear hup
            rcases h0 with rfl | rfl
            · simp only [Option.isSome_none]
              go_wp2_with fail
              (with_reducible refine (c_countUp HUP.out HX9.out (RI.ext HL8.out hE9q) (RI.ext HH8.out hE9q) HW.out.btw (fun g o s g' o' s' e e' => by cases e; cases e'; omega) (fun g o s g' o' s' e e' => by cases e; cases e'; omega) HBIG.out).mono ?_)
              rintro e w10 ⟨rfl, hO10, hA10⟩
              have hE10 : Ext wq w10 := OnlyA.ext hA10 hE9q (fun g o s e => by cases e; exact hg5)
              have HO10 := Lib.hid hO10
              clear hO10 hA10
              go_wp2_with fail
              go_roundw
              case rel => exact ⟨bb, rfl, Lib.hid ⟨fun e => by
                obtain ⟨m, _, hm⟩ := HNX.out.1 e
                exact ⟨m, ys, HO10.out, hm⟩, HNX.out.2⟩, hE10⟩
              case measure =>
                rw [fpMeas_t]
                cases bb with
                | false => rw [fpMeas_f]; omega
                | true =>
                  rw [fpMeas_t]
                  obtain ⟨m, hm1', hm2⟩ := HNX.out.1 rfl
                  have := leastOf_le (R := fun k => ∃ xs, OwI w10 wq.heap.size (some ⟨g5, 0, none⟩) n5 c5 xs ∧ OnWay (GoesBy ar ps set) (lowP ar ps set) (highP ar ps set) o k xs) ⟨ys, HO10.out, hm2⟩
                  omega
            · obtain rfl : n7 = 0 := by simpa using hn7.symm
              simp only [Option.isSome_some]
              go_wp2_with fail
              (with_reducible refine (c_countUp HUP.out HX9.out (RI.ext HL8.out hE9q) (RI.ext HH8.out hE9q) HW.out.btw (fun g o s g' o' s' e e' => by cases e; cases e'; omega) (fun g o s g' o' s' e e' => by cases e; cases e'; omega) HBIG.out).mono ?_)
              rintro e w10 ⟨rfl, hO10, hA10⟩
              have hE10 : Ext wq w10 := OnlyA.ext hA10 hE9q (fun g o s e => by cases e; exact hg5)
              have HO10 := Lib.hid hO10
              clear hO10 hA10
              go_wp2_with fail
              go_roundw
              case rel => exact ⟨bb, rfl, Lib.hid ⟨fun e => by
                obtain ⟨m, _, hm⟩ := HNX.out.1 e
                exact ⟨m, ys, HO10.out, hm⟩, HNX.out.2⟩, hE10⟩
              case measure =>
                rw [fpMeas_t]
                cases bb with
                | false => rw [fpMeas_f]; omega
                | true =>
                  rw [fpMeas_t]
                  obtain ⟨m, hm1', hm2⟩ := HNX.out.1 rfl
                  have := leastOf_le (R := fun k => ∃ xs, OwI w10 wq.heap.size (some ⟨g5, 0, none⟩) n5 c5 xs ∧ OnWay (GoesBy ar ps set) (lowP ar ps set) (highP ar ps set) o k xs) ⟨ys, HO10.out, hm2⟩
                  omega
theorem sysP_sig {s : Sy} (h : SysP s) : SigP s.ar := by unfold SysP at h; exact h.1
set_option maxRecDepth 100000 in
set_option maxHeartbeats 4000000 in
theorem c_iFirstProj {v0 v1 : Value} {s : Sy} {set : List Int} {o : Option (List Int)} {w : World} (ho : fpV s set = o) (h0 : RdSyC w v0 s) (h1 : RdI w v1 set) :
    Calls Try.prog 13 #[v0, v1] w (NewOb w o) := by
  obtain ⟨A0, n0, c0, B0, m0, d0, rfl, ha, hb⟩ := h0
  obtain ⟨D, m, d, rfl, hd⟩ := h1
  have HA := Lib.hid ha
  have HB := Lib.hid hb
  have HD := Lib.hid hd
  clear ha hb hd
  cases hpb : prB s with
  | false =>
    have HO := Lib.hid (show o = none by rw [← ho]; exact fpV_no1 hpb)
    clear ho
    go_enter Try.func13, Try.ntmps13
    go_wp2_with fail
    (with_reducible refine (c_iPairsOf rfl hpb (RdSyK.mk (RI.ext HA.out (by (repeat' (first | (with_reducible exact Ext.refl _) | (with_reducible assumption) | (with_reducible refine Ext.alloc ?_ _) | (with_reducible refine Ext.set ?_ ?_ _) | (with_reducible refine Ext.drewN ?_ _) | (with_reducible refine Ext.drew ?_) | (with_reducible refine Ext.trans ?_ (by with_reducible assumption)) | go_size)))) (RR.ext HB.out (by (repeat' (first | (with_reducible exact Ext.refl _) | (with_reducible assumption) | (with_reducible refine Ext.alloc ?_ _) | (with_reducible refine Ext.set ?_ ?_ _) | (with_reducible refine Ext.drewN ?_ _) | (with_reducible refine Ext.drew ?_) | (with_reducible refine Ext.trans ?_ (by with_reducible assumption)) | go_size)))))).mono ?_)
    rintro e w2 ⟨A2, n2, c2, rfl, hO2, hE2⟩
    clear hO2
    go_wp2_with fail
    refine bodyPost_ret (v := .tuple #[.slice none 0 0, .bool false]) (by simp [results, Try.results13, go_sem]) rfl ?_
    rw [HO.out]
    exact ⟨none, 0, 0, rfl, ⟨by omega, World.ownsRow_nil _ _ _ _⟩, by (repeat' (first | (with_reducible exact Ext.refl _) | (with_reducible assumption) | (with_reducible refine Ext.alloc ?_ _) | (with_reducible refine Ext.set ?_ ?_ _) | (with_reducible refine Ext.drewN ?_ _) | (with_reducible refine Ext.drew ?_) | (with_reducible refine Ext.trans ?_ (by with_reducible assumption)) | go_size))⟩
  | true =>
    have HPB := Lib.hid hpb
    go_enter Try.func13, Try.ntmps13
    go_wp2_with fail
    (with_reducible refine (c_iPairsOf rfl hpb (RdSyK.mk (RI.ext HA.out (by (repeat' (first | (with_reducible exact Ext.refl _) | (with_reducible assumption) | (with_reducible refine Ext.alloc ?_ _) | (with_reducible refine Ext.set ?_ ?_ _) | (with_reducible refine Ext.drewN ?_ _) | (with_reducible refine Ext.drew ?_) | (with_reducible refine Ext.trans ?_ (by with_reducible assumption)) | go_size)))) (RR.ext HB.out (by (repeat' (first | (with_reducible exact Ext.refl _) | (with_reducible assumption) | (with_reducible refine Ext.alloc ?_ _) | (with_reducible refine Ext.set ?_ ?_ _) | (with_reducible refine Ext.drewN ?_ _) | (with_reducible refine Ext.drew ?_) | (with_reducible refine Ext.trans ?_ (by with_reducible assumption)) | go_size)))))).mono ?_)
    rintro e w2 ⟨A2, n2, c2, rfl, hO2, hE2⟩
    have hlen := hO2.1.2.1
    have h64 := prV_le hpb
    rw [hlen] at h64
    have HR2 := Lib.hid hO2.re
    have hEw2 : Ext w w2 := by (repeat' (first | (with_reducible exact Ext.refl _) | (with_reducible assumption) | (with_reducible refine Ext.alloc ?_ _) | (with_reducible refine Ext.set ?_ ?_ _) | (with_reducible refine Ext.drewN ?_ _) | (with_reducible refine Ext.drew ?_) | (with_reducible refine Ext.trans ?_ (by with_reducible assumption)) | go_size))
    have hb0 : w2.cell? ⟨w.heap.size, 0, none⟩ = some (.slice A0 n0 c0) := Ext.keep hE2 (by simp [go_sem])
    clear hO2
    cases hst : setB (prV s).length set with
    | false =>
      have HO := Lib.hid (show o = none by rw [← ho]; exact fpV_no2 hst)
      rw [hlen] at hst
      clear ho
      go_wp2_with fail
      (with_reducible refine (c_setOk hst (RdI.mk (RI.ext HD.out hEw2)) (by omega)).mono ?_)
      rintro e w3 ⟨rfl, hE3⟩
      go_wp2_with fail
      refine bodyPost_ret (v := .tuple #[.slice none 0 0, .bool false]) (by simp [results, Try.results13, go_sem]) rfl ?_
      rw [HO.out]
      exact ⟨none, 0, 0, rfl, ⟨by omega, World.ownsRow_nil _ _ _ _⟩, by (repeat' (first | (with_reducible exact Ext.refl _) | (with_reducible assumption) | (with_reducible refine Ext.alloc ?_ _) | (with_reducible refine Ext.set ?_ ?_ _) | (with_reducible refine Ext.drewN ?_ _) | (with_reducible refine Ext.drew ?_) | (with_reducible refine Ext.trans ?_ (by with_reducible assumption)) | go_size))⟩
    | true =>
      have HST := Lib.hid (setB_iff.1 hst)
      have hst' := hst
      rw [hlen] at hst'
      have HO := Lib.hid (show fpGo s.ar (prV s) set = o by rw [← ho]; exact (fpV_yes hpb hst).symm)
      rw [hlen] at HST
      clear ho
      go_wp2_with fail
      (with_reducible refine (c_setOk hst' (RdI.mk (RI.ext HD.out hEw2)) (by omega)).mono ?_)
      rintro e w3 ⟨rfl, hE3⟩
      have hEw3 := Ext.trans hEw2 hE3
      have hb3 := Ext.keep hE3 hb0
      go_wp2_with fail
      (with_reducible refine (c_firstProj HO.out rfl (sysP_sig (prB_sys HPB.out)) (RdSig.mk (RI.ext HA.out hEw3)) (RE.ext HR2.out hE3) (RdI.mk (RI.ext HD.out hEw3)) (prV_ok HPB.out) HST.out).mono ?_)
      rintro e w5 ⟨A5, n5, c5, rfl, hO5, hE5⟩
      have HO5 := Lib.hid hO5
      clear hO5
      go_wp2_with fail
      refine bodyPost_ret (v := .tuple #[.slice A5 n5 c5, .bool o.isSome]) (by simp [results, Try.results13, go_sem]) rfl ?_
      exact ⟨A5, n5, c5, rfl, HO5.out.lower (sz_of hEw3), Ext.trans hEw3 hE5⟩

end Go.Proofs.Ytccahngnnfohcaa
