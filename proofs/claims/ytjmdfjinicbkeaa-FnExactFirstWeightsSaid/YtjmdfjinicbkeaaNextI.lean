/- Sorting, reversing and stepping on lists of the call's own: the program's NextRank. -/
import Derived.Test.YtjmdfjinicbkeaaMNext
import Derived.Test.YtjmdfjinicbkeaaUseS
import Derived.Lib.OwnBridge
import Derived.Shelf.SortM.Plain
import Derived.Shelf.SortM.SortNone
import Derived.Shelf.SlicesG.Reverse
namespace Go.Proofs.Ytjmdfjinicbkeaa
open Go.RowKit
set_option linter.unusedSimpArgs false
set_option linter.unusedVariables false

/-- A row of the call's own of which the end is put anew. -/
theorem ownsRow_putRowAt {w : World} {base : Nat} {e : TypeId} {g n cap q off : Nat} {zs ys : List Int} (h : w.ownsRow base e 1 (.slice (some ⟨g, 0, none⟩) n cap) n (zs.map (Value.int .i64))) (hy : off + ys.length = n) :
    (Go.Sort.putRow (Value.int .i64) (Go.Sort.ahead w q) g off ys.toArray).ownsRow base e 1 (.slice (some ⟨g, 0, none⟩) n cap) n ((zs.take off ++ ys).map (Value.int .i64)) := by
  have hzl : zs.length = n := by simpa using h.1
  rcases h.2 with ⟨e0, _⟩ | ⟨g', cap', cur, e0, hb, hg, hn, hm, hs, ht⟩
  · cases e0
  · injection e0 with e1 _ e3
    injection e1 with e1
    injection e1 with e1
    subst e1; subst e3
    refine ⟨by simp; omega, .inr ⟨g, cap, Go.Sort.putCells (Value.int .i64) off ys.toArray cur, rfl, hb, ?_, by omega, hm, by simpa [Go.Sort.putCells] using hs, ?_⟩⟩
    · simp [Go.Sort.putRow, Go.Sort.mapBlock, Go.Sort.ahead, Array.getElem?_modify, hg, Go.Sort.onCells]
    · apply List.ext_getElem?
      intro j
      have htj : (cur.toList.take (n * 1))[j]? = (zs.map (Value.int .i64))[j]? := by rw [ht]
      rw [List.getElem?_take, Nat.mul_one, Array.getElem?_toList] at htj
      rw [List.getElem?_take, Nat.mul_one, Array.getElem?_toList, List.getElem?_map]
      by_cases hj : j < n
      · have hjc : j < cur.size := by omega
        rw [if_pos hj] at htj ⊢
        rw [Array.getElem?_eq_getElem hjc, List.getElem?_map] at htj
        simp only [Go.Sort.putCells, Array.getElem?_mapIdx, Array.getElem?_eq_getElem hjc, Option.map_some]
        by_cases hjo : off ≤ j
        · rw [if_pos ⟨hjo, by simp; omega⟩, List.getElem?_append_right (by rw [List.length_take]; omega), List.length_take, Nat.min_eq_left (by omega), List.getElem?_eq_getElem (by omega)]
          simp [getElem!_pos, show j - off < ys.length by omega]
        · rw [if_neg (fun h => hjo h.1), htj, List.getElem?_append_left (by rw [List.length_take]; omega), List.getElem?_take, if_pos (by omega)]
      · rw [if_neg hj, List.getElem?_eq_none (by rw [List.length_append, List.length_take]; omega)]; rfl
theorem below_putRowAt {B : Nat} {w : World} {g q off : Nat} {d : Array Int} (hg : B ≤ g) : Below B w (Go.Sort.putRow (Value.int .i64) (Go.Sort.ahead w q) g off d) :=
  ⟨rfl, rfl, rfl, by simp [Go.Sort.putRow, Go.Sort.mapBlock, Go.Sort.ahead], fun k hk => by
    simp [Go.Sort.putRow, Go.Sort.mapBlock, Go.Sort.ahead, Array.getElem?_modify, show g ≠ k by omega]⟩
theorem below_growS {B : Nat} {w : World} (os : Array Obj) (hB : B ≤ w.heap.size) : Below B w (Go.Sort.grow w os) :=
  ⟨rfl, rfl, rfl, by simp, fun k hk => by
    unfold Go.Sort.grow
    simp [Array.getElem?_append, show k < w.heap.size by omega]⟩

def lay5_ren : Go.Shelf.Ren := ⟨fun | 5 => 75 | 8 => 110 | 7 => 109 | 19 => 140 | 20 => 141 | 10 => 131 | 11 => 132 | 12 => 133 | 13 => 134 | 14 => 135 | 15 => 136 | 16 => 137 | 17 => 138 | 18 => 139 | 30 => 161 | 31 => 162 | 32 => 163 | 33 => 164 | 34 => 165 | 35 => 166 | 40 => 179 | n => n, fun | 23 => 22 | 25 => 2 | 3 => 3 | 32 => 127 | 22 => 22 | 0 => 0 | 44 => 166 | 46 => 57 | 4 => 4 | 36 => 158 | 35 => 157 | 41 => 163 | 5 => 5 | 9 => 9 | 53 => 189 | 57 => 193 | 63 => 207 | 64 => 208 | n => n, fun n => n⟩
theorem lay5 : SlLaysM.n5 Try.prog lay5_ren := { mixed := by kernel_rfl, f5 := ⟨Try.f75.name, by decide, Try.func75.trans (congrArg some (by kernel_rfl))⟩, f7 := ⟨Try.f109.name, by decide, Try.func109.trans (congrArg some (by kernel_rfl))⟩, f8 := Try.func110.trans (congrArg some (by kernel_rfl)), f10 := ⟨Try.f131.name, by decide, Try.func131.trans (congrArg some (by kernel_rfl))⟩, f11 := ⟨Try.f132.name, by decide, Try.func132.trans (congrArg some (by kernel_rfl))⟩, f12 := ⟨Try.f133.name, by decide, Try.func133.trans (congrArg some (by kernel_rfl))⟩, f13 := ⟨Try.f134.name, by decide, Try.func134.trans (congrArg some (by kernel_rfl))⟩, f14 := ⟨Try.f135.name, by decide, Try.func135.trans (congrArg some (by kernel_rfl))⟩, f15 := ⟨Try.f136.name, by decide, Try.func136.trans (congrArg some (by kernel_rfl))⟩, f16 := ⟨Try.f137.name, by decide, Try.func137.trans (congrArg some (by kernel_rfl))⟩, f17 := ⟨Try.f138.name, by decide, Try.func138.trans (congrArg some (by kernel_rfl))⟩, f18 := ⟨Try.f139.name, by decide, Try.func139.trans (congrArg some (by kernel_rfl))⟩, f19 := Try.func140.trans (congrArg some (by kernel_rfl)), f20 := Try.func141.trans (congrArg some (by kernel_rfl)), f30 := ⟨Try.f161.name, by decide, Try.func161.trans (congrArg some (by kernel_rfl))⟩, f31 := Try.func162.trans (congrArg some (by kernel_rfl)), f32 := Try.func163.trans (congrArg some (by kernel_rfl)), f33 := ⟨Try.f164.name, by decide, Try.func164.trans (congrArg some (by kernel_rfl))⟩, f34 := ⟨Try.f165.name, by decide, Try.func165.trans (congrArg some (by kernel_rfl))⟩, f35 := ⟨Try.f166.name, by decide, Try.func166.trans (congrArg some (by kernel_rfl))⟩, f40 := ⟨Try.f179.name, by decide, Try.func179.trans (congrArg some (by kernel_rfl))⟩, t0 := Try.underlying0, a0 := Try.isAgg0, z0 := Try.sizeOf0, v0 := Try.zeroValue0, t3 := Try.underlying3, a3 := Try.isAgg3, z3 := Try.sizeOf3, v3 := Try.zeroValue3, t4 := Try.underlying4, a4 := Try.isAgg4, z4 := Try.sizeOf4, v4 := Try.zeroValue4, t5 := Try.underlying5, a5 := Try.isAgg5, z5 := Try.sizeOf5, v5 := Try.zeroValue5, t9 := Try.underlying9, a9 := Try.isAgg9, z9 := Try.sizeOf9, v9 := Try.zeroValue9, t22 := Try.underlying22, a22 := Try.isAgg22, z22 := Try.sizeOf22, v22 := Try.zeroValue22, t23 := Try.underlying22, a23 := Try.isAgg22, z23 := Try.sizeOf22, v23 := Try.zeroValue22, t25 := Try.underlying2, a25 := Try.isAgg2, z25 := Try.sizeOf2, v25 := Try.zeroValue2, t32 := Try.underlying127, a32 := Try.isAgg127, z32 := Try.sizeOf127, v32 := Try.zeroValue127, t35 := Try.underlying157, a35 := Try.isAgg157, z35 := Try.sizeOf157, v35 := Try.zeroValue157, t36 := Try.underlying158, a36 := Try.isAgg158, z36 := Try.sizeOf158, v36 := Try.zeroValue158, t41 := Try.underlying163, a41 := Try.isAgg163, z41 := Try.sizeOf163, v41 := Try.zeroValue163, t44 := Try.underlying166, a44 := Try.isAgg166, z44 := Try.sizeOf166, v44 := Try.zeroValue166, t46 := Try.underlying57, a46 := Try.isAgg57, z46 := Try.sizeOf57, v46 := Try.zeroValue57, t53 := Try.underlying189, a53 := Try.isAgg189, z53 := Try.sizeOf189, v53 := Try.zeroValue189, t57 := Try.underlying193, a57 := Try.isAgg193, z57 := Try.sizeOf193, v57 := Try.zeroValue193, t63 := Try.underlying207, a63 := Try.isAgg207, z63 := Try.sizeOf207, v63 := Try.zeroValue207, t64 := Try.underlying208, a64 := Try.isAgg208, z64 := Try.sizeOf208, v64 := Try.zeroValue208 }
def srt (xs : List Int) : List Int := xs.mergeSort fun x y => decide (x ≤ y)
theorem c_sortI {B n c : Nat} {A : Option Addr} {xs : List Int} {w : World} (h : OwI w B A n c xs) (hB : B ≤ w.heap.size) :
    Calls Try.prog 75 #[.slice A n c] w fun e w' => e = .returned (.tuple #[]) ∧ OwI w' B A n c (srt xs) ∧ Below B w w' := by
  have hl := h.len
  rcases Nat.eq_zero_or_pos n with h0 | h0
  · subst h0
    have hx : xs = [] := List.length_eq_zero_iff.1 hl
    subst hx
    refine (AnyM.slices_Sort_int_none lay5 A c w).mono ?_
    rintro e w' ⟨rfl, rfl⟩
    exact ⟨rfl, by simpa [srt] using h, Below.refl _ _⟩
  · obtain ⟨g, cap, hv, hg, hgl, _, _, _, hH⟩ := Go.Lib.holds_of_ownsRow (enc := Value.int .i64) h.2 (by rintro e; cases e; omega)
    cases hv
    subst hl
    refine (AnyM.slices_Sort_int lay5 g 0 c xs w hH hgl (by have := h.1; omega)).mono ?_
    rintro e w' ⟨rfl, q, os, rfl⟩
    have hs : (srt xs).length = xs.length := by unfold srt; exact List.length_mergeSort xs
    have h1 := ownsRow_putRowAt (q := q) (off := 0) (ys := srt xs) h.2 (by omega)
    rw [List.take_zero, List.nil_append] at h1
    have hsz : (Go.Sort.putRow (Value.int .i64) (Go.Sort.ahead w q) g 0 (srt xs).toArray).heap.size = w.heap.size := by simp
    rw [show (xs.mergeSort fun x y => decide (x ≤ y)) = srt xs from rfl]
    refine ⟨rfl, ?_, ?_⟩
    · refine OwI.heap ⟨h.1, h1⟩ fun g' e => ?_
      cases e
      unfold Go.Sort.grow
      simp [Array.getElem?_append, hgl]
    · exact (below_putRowAt hg).trans (below_growS os (by rw [hsz]; exact hB))
def lay35_ren : Go.Shelf.Ren := ⟨fun | 35 => 99 | n => n, fun | 22 => 22 | 23 => 2 | 3 => 3 | 4 => 4 | 0 => 0 | n => n, fun n => n⟩
theorem lay35 : SlLaysN.n35 Try.prog lay35_ren := { mixed := by kernel_rfl, f35 := ⟨Try.f99.name, by decide, Try.func99.trans (congrArg some (by kernel_rfl))⟩, t0 := Try.underlying0, a0 := Try.isAgg0, z0 := Try.sizeOf0, v0 := Try.zeroValue0, t3 := Try.underlying3, a3 := Try.isAgg3, z3 := Try.sizeOf3, v3 := Try.zeroValue3, t4 := Try.underlying4, a4 := Try.isAgg4, z4 := Try.sizeOf4, v4 := Try.zeroValue4, t22 := Try.underlying22, a22 := Try.isAgg22, z22 := Try.sizeOf22, v22 := Try.zeroValue22, t23 := Try.underlying2, a23 := Try.isAgg2, z23 := Try.sizeOf2, v23 := Try.zeroValue2 }
theorem c_reverseI {g n c B k m cap : Nat} {xs : List Int} {w : World} (h : OwI w B (some ⟨g, 0, none⟩) n c xs) (hk : k ≤ n) (hm : m = n - k) (hg : B ≤ g) :
    Calls Try.prog 99 #[.slice (some ⟨g, k, none⟩) m cap] w fun e w' => e = .returned (.tuple #[]) ∧ OwI w' B (some ⟨g, 0, none⟩) n c (xs.take k ++ (xs.drop k).reverse) ∧ Below B w w' := by
  have hl := h.len
  have hd : (xs.drop k).length = m := by rw [List.length_drop]; omega
  subst hd
  have hH : Go.Sort.Holds (Value.int .i64) w g k (xs.drop k).toArray := fun j hj => by
    have hj' : j < xs.length - k := by simpa using hj
    obtain ⟨x, hx, hc, hf⟩ := OwI.at_ h (show k + j < n by omega)
    refine ⟨?_, hf⟩
    rw [hc]
    have e : (xs.drop k).toArray[j]! = x := by
      rw [getElem!_pos (xs.drop k).toArray j hj]
      simpa using (List.getElem?_eq_some_iff.1 hx).2
    rw [e]
  refine (AnyG.slices_Reverse_int lay35 g k cap (xs.drop k) w hH (by rw [List.length_drop]; have := h.1; omega)).mono ?_
  rintro e w' ⟨rfl, q, rfl⟩
  have h1 := ownsRow_putRowAt (q := q) (off := k) (ys := (xs.drop k).reverse) h.2 (by simp; omega)
  exact ⟨rfl, ⟨h.1, h1⟩, below_putRowAt hg⟩
set_option maxRecDepth 100000 in
set_option maxHeartbeats 1000000 in
theorem c_firstPerm {n : Nat} {w : World} (hn : n ≤ 1000) : Calls Try.prog 65 #[.int .i64 (n : Int)] w (NewI w (upI 0 n)) := by
  obtain ⟨i0, hi0, hz0, hz1, hz2⟩ := info_parts int64_info
  go_enter Try.func65, Try.ntmps65
  go_wp2_with (at_make; refine wpList_make_full _ rfl _ _ 22 rfl w.heap.size 2 i0 _ 1 Try.underlying22 hi0 hz0 hz1 _ _ _ _ n rfl rfl rfl rfl (by rw [hz2]; omega) (by simp only [maxLen]; omega) (Nat.le_refl _) ?_)
  intro w1 hown0 hg
  rw [madeInts] at hown0
  have hown := OwI.made hown0 (by omega)
  have hE : Ext w w1 := Ext.grown (Ext.refl _) hg (fun k hk => by cases hk)
  go_wp2
  go_loopw [9] (fun i wr => ∃ k : Nat, i = .int .i64 k ∧ k ≤ n ∧ Hid (OwI wr w.heap.size (some ⟨w.heap.size, 0, none⟩) n n ((upI 0 n).take k ++ List.replicate (n - k) 0)) ∧ Ext w wr) (fun i _ => n - (intOf i).toNat)
  case atStart => exact ⟨0, rfl, Nat.zero_le _, Lib.hid (by rw [List.take_zero, List.nil_append, Nat.sub_zero]; exact hown), hE⟩
  case round =>
    obtain ⟨k, rfl, hk, hO, hw⟩ := hrel
    by_cases hlt : k < n
    · obtain ⟨z, hz, hcz, hfz⟩ := OwI.at_ hO.out hlt
      have hx := upI_get n 0 k hlt
      rw [Int.zero_add] at hx
      have HN := Lib.hid (show OwI (wr.setCell ⟨w.heap.size, k, none⟩ (.int .i64 (k : Int))) w.heap.size (some ⟨w.heap.size, 0, none⟩) n n ((upI 0 n).take (k + 1) ++ List.replicate (n - (k + 1)) 0) by
        have := OwI.set hO.out k (k : Int)
        rw [set_take (upI_len 0 n) hx] at this
        exact this)
      have hlt' : (k : Int) < (n : Int) := by omega
      clear hz hx
      go_wp2
      go_roundw
      case rel => exact ⟨k + 1, by go_num, by omega, HN, Ext.set hw (Nat.le_refl _) _⟩
      case measure => simp only [intOf]; omega
    · go_wp2
      go_ret
      have hkn : k = n := by omega
      subst hkn
      have e : (upI 0 k).take k ++ List.replicate (k - k) 0 = upI 0 k := by rw [Nat.sub_self, List.take_of_length_le (by rw [upI_len]; exact Nat.le_refl _)]; simp
      have hO2 := hO.out
      rw [e] at hO2
      exact ⟨_, _, _, rfl, hO2, hw⟩
theorem upAt_end {xs : List Int} (h : xs.length ≤ 1) : upAt xs = none := by
  unfold upAt; rw [show xs.length - 1 = 0 by omega]; rfl
set_option maxRecDepth 100000 in
set_option maxHeartbeats 4000000 in
theorem c_nextRank {A : Option Addr} {n c B : Nat} {xs : List Int} {w : World} (hok : permOk xs = true) (h : OwI w B A n c xs) (hB : B ≤ w.heap.size) :
    Calls Try.prog 66 #[.slice A n c] w fun e w' => e = .returned (.bool (nextB xs)) ∧ Below B w w' ∧ (nextB xs = true → OwI w' B A n c (nextV xs)) := by
  have hl := h.len
  have hn8 : n ≤ 8 := by rw [← hl]; exact (permOk_iff.1 hok).2.2
  have HO := Lib.hid h
  have HL := Lib.hid hl
  have HOK := Lib.hid hok
  have hcap := h.cap
  clear h hl hok
  go_enter Try.func66, Try.ntmps66
  go_wp2_with fail
  go_loopw [3] (fun iv wr => ∃ (z : Int) (k : Nat), iv = .int .i64 z ∧ (z = (k : Int) - 1 ∨ z = -2 ∧ k = 0) ∧ k ≤ n - 1 ∧ Hid (upGo xs k = upAt xs ∧ fallsFrom xs k) ∧ Ext w wr) (fun iv _ => (intOf iv + 2).toNat)
  case atStart => exact ⟨(n : Int) - 2, n - 1, by go_num, by omega, by omega, Lib.hid ⟨by rw [← HL.out]; rfl, falls_last _ _ (by rw [HL.out]; omega)⟩, by exact extX⟩
  case round =>
    obtain ⟨z, k, rfl, hz, hk, hST, hE⟩ := hrel
    rcases Nat.eq_zero_or_pos k with hk0 | hk0
    · subst hk0
      have hzn : z < 0 := by omega
      have hzb : decide (0 ≤ z) = false := by simp; omega
      have HU := Lib.hid (next_none (xs := xs) hST.out.1.symm)
      go_wp2_with fail
      go_quiet (fail)
      go_wp2
      go_ret
      exact ⟨ret_bool HU.out.2.symm, Below.mono (show Ext w _ by exact extX) hB, fun h => by rw [HU.out.2] at h; cases h⟩
    · obtain ⟨p, rfl⟩ : ∃ p, k = p + 1 := ⟨k - 1, by omega⟩
      have hzp : z = (p : Int) := by omega
      subst hzp
      have hp1 : p + 1 < n := by omega
      obtain ⟨g, rfl, hgB, _⟩ : ∃ g, A = some ⟨g, 0, none⟩ ∧ B ≤ g ∧ g < w.heap.size := by
        rcases HO.out.form with ⟨_, h0, _⟩ | h
        · omega
        · exact h
      obtain ⟨x, hx, hcx, _⟩ := OwI.at_ (HO.out.ext hE) (show p < n by omega)
      obtain ⟨y, hy, hcy, _⟩ := OwI.at_ (HO.out.ext hE) hp1
      have HX := Lib.hid hx
      have HY := Lib.hid hy
      have hpz : (0 : Int) ≤ (p : Int) := by omega
      have hpd : decide ((0 : Int) ≤ (p : Int)) = true := by simp
      have hpi : (p : Int) < (n : Int) := by omega
      have hpi1 : (p : Int) + 1 < (n : Int) := by omega
      clear hx hy
      by_cases hxy : y < x
      · have hd2 : decide (y < x) = true := by simpa using hxy
        have HN := Lib.hid (show upGo xs p = upAt xs ∧ fallsFrom xs p from ⟨by rw [← hST.out.1, upGo_go HX.out HY.out hxy], falls_down hST.out.2 HX.out HY.out hxy⟩)
        go_wp2_with fail
        go_quiet (fail)
        go_wp2
        go_roundw
        case rel => exact ⟨(p : Int) - 1, p, by go_num, by omega, by omega, HN, by exact extX⟩
        case measure => simp only [intOf]; omega
      · have hd2 : decide (y < x) = false := by simpa using hxy
        have HUP := Lib.hid (show upAt xs = some p by rw [← hST.out.1, upGo_stop HX.out HY.out hxy])
        go_wp2_with fail
        go_quiet (fail)
        obtain ⟨k0, a0, b0, hN⟩ := nextI HOK.out HUP.out
        have hik := hN.ik
        have hkn : k0 < n := by have := (List.getElem?_eq_some_iff.1 hN.hb).1; rw [HL.out] at this; exact this
        have ha0 : x = a0 := by have := hN.ha; rw [HX.out] at this; exact Option.some.inj this
        subst ha0
        have HNX := Lib.hid hN
        have HNV := Lib.hid (nextV_some HOK.out HUP.out hN)
        have HNB := Lib.hid (nextB_some HOK.out HUP.out)
        clear hN
        go_wp2_with fail
        go_loopw [4] (fun kv wr => ∃ q : Nat, kv = .int .i64 q ∧ k0 ≤ q ∧ q < n ∧ Ext w wr) (fun kv _ => (intOf kv).toNat)
        case atStart => exact ⟨n - 1, by go_num, by omega, by omega, by exact extX⟩
        case round =>
          obtain ⟨q, rfl, hkq, hqn, hE2⟩ := hrel
          obtain ⟨u, hu, hcu, hfu⟩ := OwI.at_ (HO.out.ext hE2) hqn
          obtain ⟨x', hx', hcx', hfx'⟩ := OwI.at_ (HO.out.ext hE2) (show p < n by omega)
          rw [HX.out] at hx'; cases hx'
          have hq0 : (0 : Int) ≤ (q : Int) := by omega
          have hqi : (q : Int) < (n : Int) := by omega
          rcases Nat.lt_or_ge k0 q with hlt | hge
          · have hux : u < x := HNX.out.low q u hlt hu
            have hud : decide (u < x) = true := by simpa using hux
            clear hu
            go_wp2_with fail
            go_quiet (fail)
            go_wp2
            go_roundw
            case rel => exact ⟨q - 1, by go_num, by omega, by omega, by exact extX⟩
            case measure => simp only [intOf]; omega
          · have hqk : q = k0 := by omega
            subst hqk
            have hub : u = b0 := by have := HNX.out.hb; rw [hu] at this; exact Option.some.inj this
            subst hub
            have hxu := HNX.out.nx.lt
            have hud : decide (u < x) = false := by simp; omega
            have HSW := Lib.hid (nextL_set HX.out hik hu)
            clear hu
            have hpq : ¬ p = q := by omega
            have hqp : ¬ q = p := by omega
            have HOr := Lib.hid (HO.out.ext hE2)
            go_wp2_with fail
            go_quiet (fail)
            go_wp2_with fail
            go_region_o
            have HS := Lib.hid (show OwI (((wr.drewN (nq + 1)).setCell ⟨g, p, none⟩ (.int .i64 u)).setCell ⟨g, q, none⟩ (.int .i64 x)) B (some ⟨g, 0, none⟩) n c ((xs.set p u).set q x) from OwI.set (OwI.set (OwI.drewN HOr.out (nq + 1)) p u) q x)
            have hBS : Below B w (((wr.drewN (nq + 1)).setCell ⟨g, p, none⟩ (.int .i64 u)).setCell ⟨g, q, none⟩ (.int .i64 x)) := Below.setCell (Below.setCell (Below.mono (show Ext w _ from hE2.drewN _) hB) hgB _) hgB _
            obtain ⟨ws, hws⟩ : ∃ ws, ws = ((wr.drewN (nq + 1)).setCell ⟨g, p, none⟩ (.int .i64 u)).setCell ⟨g, q, none⟩ (.int .i64 x) := ⟨_, rfl⟩
            rw [← hws] at HS hBS ⊢
            clear hws
            have hci : ¬ c = p + 1 := by omega
            have hp1c : (p : Int) + 1 ≤ (c : Int) := by omega
            have hp1n : (p : Int) + 1 ≤ (n : Int) := by omega
            go_wp2_with fail
            (with_reducible refine (c_reverseI (k := p + 1) HS.out (by omega) (by omega) hgB).mono ?_)
            rintro e w5 ⟨rfl, hO5, hB5⟩
            have HO5 := Lib.hid hO5
            clear hO5
            go_wp2
            go_ret
            exact ⟨ret_bool HNB.out.symm, hBS.trans hB5, fun _ => by rw [HNV.out, ← HSW.out]; exact HO5.out⟩
theorem c_nextRank2 {A : Option Addr} {n c B : Nat} {xs : List Int} {b : Bool} {w : World} (hb : nextB xs = b) (hok : permOk xs = true) (h : OwI w B A n c xs) (hB : B ≤ w.heap.size) :
    Calls Try.prog 66 #[.slice A n c] w fun e w' => e = .returned (.bool b) ∧ Below B w w' ∧ (b = true → OwI w' B A n c (nextV xs)) := by subst hb; exact c_nextRank hok h hB
theorem c_slicesEqualN {v0 v1 : Value} {xs ys : List Int} {b : Bool} {w : World} (hb : (xs == ys) = b) (h0 : RdI w v0 xs) (h1 : RdI w v1 ys) :
    Calls Try.prog 76 #[v0, v1] w fun e w' => e = .returned (.bool b) ∧ Ext w w' := by subst hb; exact c_slicesEqual h0 h1
theorem nextB_perm {xs : List Int} (h : nextB xs = false) : nextV xs = [] := by
  unfold nextB at h
  cases hp : permOk xs with
  | false => exact (next_bad hp).1
  | true =>
    rw [hp, Bool.true_and] at h
    exact (next_none (Option.not_isSome_iff_eq_none.1 (by rw [h]; decide))).1
def NewNx (w : World) (xs : List Int) (e : Ending) (w' : World) : Prop := ∃ A n c, e = .returned (.tuple #[.slice A n c, .bool (nextB xs)]) ∧ OwI w' w.heap.size A n c (nextV xs) ∧ Ext w w'
theorem NewNx.bad {w w' : World} {xs : List Int} (h : nextB xs = false) (hE : Ext w w') : NewNx w xs (.returned (.tuple #[.slice none 0 0, .bool false])) w' :=
  ⟨none, 0, 0, by rw [h], by rw [nextB_perm h]; exact ⟨by omega, World.ownsRow_nil _ _ _ _⟩, hE⟩
set_option maxRecDepth 100000 in
set_option maxHeartbeats 4000000 in
theorem c_iNextRank {v0 : Value} {xs : List Int} {w : World} (h0 : RdI w v0 xs) : Calls Try.prog 35 #[v0] w (NewNx w xs) := by
  obtain ⟨A, n, c, rfl, ha⟩ := h0
  have hn := ha.le
  have HA := Lib.hid ha
  have HL := Lib.hid ha.len
  clear ha
  go_enter Try.func35, Try.ntmps35
  go_wp2_with fail
  (with_reducible refine (c_clone HA.out).mono ?_)
  rintro e w1 ⟨A1, n1, c1, rfl, hO1, hE1⟩
  have hn1 : n1 = n := by rw [← hO1.len, HL.out]
  subst hn1
  go_wp2_with fail
  (with_reducible refine (c_sortI hO1 hE1.size).mono ?_)
  rintro e w2 ⟨rfl, hO2, hB2⟩
  have HO2 := Lib.hid hO2
  have hE2 : Ext w w2 := Below.trans hE1 hB2
  clear hO1 hE1 hB2 hO2
  by_cases h8 : 8 < n1
  · have HBAD := Lib.hid (next_bad (permOk_big (by rw [HL.out]; exact h8)))
    have h8i : (8 : Int) < (n1 : Int) := by omega
    go_wp2
    refine bodyPost_ret (v := .tuple #[.slice none 0 0, .bool false]) (by simp [results, Try.results35, go_sem]) rfl ?_
    exact NewNx.bad HBAD.out.2 hE2
  · have h8i : ¬ (8 : Int) < (n1 : Int) := by omega
    go_wp2_with fail
    (with_reducible refine (c_firstPerm (n := n1) (by omega)).mono ?_)
    rintro e w3 ⟨A3, n3, c3, rfl, hO3, hE3⟩
    have HR3 := Lib.hid hO3.ri
    have hE23 : Ext w w3 := Ext.trans hE2 hE3
    obtain ⟨b, hb⟩ : ∃ b, permOk xs = b := ⟨_, rfl⟩
    have HEQ := Lib.hid (show (srt xs == upI 0 n1) = b by rw [← hb, ← HL.out]; exact permOk_sorted (by rw [HL.out]; omega))
    have HB := Lib.hid hb
    clear hb hO3
    go_wp2_with fail
    (with_reducible refine (c_slicesEqualN HEQ.out (RdI.mk (RI.ext HO2.out.ri hE3)) (RdI.mk HR3.out)).mono ?_)
    rintro e w4 ⟨rfl, hE4⟩
    have hE04 : Ext w w4 := Ext.trans hE23 hE4
    cases b with
    | false =>
      have HBAD := Lib.hid (next_bad HB.out)
      go_wp2
      refine bodyPost_ret (v := .tuple #[.slice none 0 0, .bool false]) (by simp [results, Try.results35, go_sem]) rfl ?_
      exact NewNx.bad HBAD.out.2 hE04
    | true =>
      go_wp2_with fail
      (with_reducible refine (c_clone (RI.ext HA.out hE04)).mono ?_)
      rintro e w5 ⟨A5, n5, c5, rfl, hO5, hE5⟩
      have HO5 := Lib.hid (hO5.lower (show w.heap.size ≤ w4.heap.size from sz_of hE04))
      have hE05 : Ext w w5 := Ext.trans hE04 hE5
      have hsz5 := sz_of hE05
      obtain ⟨b2, hb2⟩ : ∃ b, nextB xs = b := ⟨_, rfl⟩
      have HB2 := Lib.hid hb2
      clear hO5 hb2
      go_wp2_with fail
      (with_reducible refine (c_nextRank2 HB2.out HB.out HO5.out hsz5).mono ?_)
      rintro e w6 ⟨rfl, hB6, hO6⟩
      have HO6 := Lib.hid hO6
      have hE06 : Ext w w6 := Below.trans hE05 hB6
      clear hO6
      cases b2 with
      | false =>
        go_wp2
        refine bodyPost_ret (v := .tuple #[.slice none 0 0, .bool false]) (by simp [results, Try.results35, go_sem]) rfl ?_
        exact NewNx.bad HB2.out hE06
      | true =>
        go_wp2
        refine bodyPost_ret (v := .tuple #[.slice A5 n5 c5, .bool true]) (by simp [results, Try.results35, go_sem]) rfl ?_
        exact ⟨_, _, _, by rw [HB2.out], HO6.out trivial, hE06⟩
theorem c_iNextRank' {v0 : Value} {xs oo : List Int} {bb : Bool} {w : World} (hv : oo = nextV xs) (hb : bb = nextB xs) (h0 : RdI w v0 xs) :
    Calls Try.prog 35 #[v0] w fun e w' => ∃ A n c, e = .returned (.tuple #[.slice A n c, .bool bb]) ∧ OwI w' w.heap.size A n c oo ∧ Ext w w' := by
  subst hv hb
  exact c_iNextRank h0

end Go.Proofs.Ytjmdfjinicbkeaa
