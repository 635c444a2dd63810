/- Lists of lists of integers: their size, their copy, what compares them. -/
import Derived.Test.YtejmlbcafemieaaParts
import Derived.Test.YtejmlbcafemieaaMPoly
import Derived.Test.YtejmlbcafemieaaCopy
import Derived.StillTailTactics
namespace Go.Proofs.Ytejmlbcafemieaa
open Go.RowKit
set_option linter.unusedSimpArgs false
set_option linter.unusedVariables false

/-- The slice value reads as these lists, of whatever length. -/
def RSJ (w : World) (A : Option Addr) (n : Nat) (xss : List (List Int)) : Prop :=
  (xss.length = n ∧ n ≤ 9223372036854775807) ∧ ∀ (j : Nat) (xs : List Int), xss[j]? = some xs → ∃ b o A' m' c', A = some ⟨b, o, none⟩ ∧ w.cell? ⟨b, o + j, none⟩ = some (.slice A' m' c') ∧ RJ w A' m' xs
/-- .. of short ones. -/
def RSI (w : World) (A : Option Addr) (n : Nat) (xss : List (List Int)) : Prop :=
  (xss.length = n ∧ n ≤ 4194304) ∧ ∀ (j : Nat) (xs : List Int), xss[j]? = some xs → ∃ b o A' m' c', A = some ⟨b, o, none⟩ ∧ w.cell? ⟨b, o + j, none⟩ = some (.slice A' m' c') ∧ RI w A' m' xs
section
variable {w w' : World} {A : Option Addr} {n k : Nat} {xss : List (List Int)}
theorem RSJ.ext (h : RSJ w A n xss) (k : Ext w w') : RSJ w' A n xss :=
  ⟨h.1, fun j xs hx => by
    obtain ⟨b, o, A', m', c', e, h1, h2⟩ := h.2 j xs hx
    exact ⟨b, o, A', m', c', e, Ext.keep k h1, h2.ext k⟩⟩
theorem RSI.ext (h : RSI w A n xss) (k : Ext w w') : RSI w' A n xss :=
  ⟨h.1, fun j xs hx => by
    obtain ⟨b, o, A', m', c', e, h1, h2⟩ := h.2 j xs hx
    exact ⟨b, o, A', m', c', e, Ext.keep k h1, h2.ext k⟩⟩
theorem RSI.len (h : RSI w A n xss) : xss.length = n := h.1.1
theorem RSI.le (h : RSI w A n xss) : n ≤ 4194304 := h.1.2
theorem RSJ.at_ (h : RSJ w A n xss) (hk : k < n) : ∃ b o xs A' m' c', A = some ⟨b, o, none⟩ ∧ xss[k]? = some xs ∧ w.cell? ⟨b, o + k, none⟩ = some (.slice A' m' c') ∧ RJ w A' m' xs := by
  have hl : k < xss.length := by rw [h.1.1]; exact hk
  have hx := List.getElem?_eq_getElem hl
  obtain ⟨b, o, A', m', c', e, h1, h2⟩ := h.2 k _ hx
  exact ⟨b, o, _, A', m', c', e, hx, h1, h2⟩
theorem RSI.at_ (h : RSI w A n xss) (hk : k < n) : ∃ b o xs A' m' c', A = some ⟨b, o, none⟩ ∧ xss[k]? = some xs ∧ w.cell? ⟨b, o + k, none⟩ = some (.slice A' m' c') ∧ RI w A' m' xs := by
  have hl : k < xss.length := by rw [h.1.1]; exact hk
  have hx := List.getElem?_eq_getElem hl
  obtain ⟨b, o, A', m', c', e, h1, h2⟩ := h.2 k _ hx
  exact ⟨b, o, _, A', m', c', e, hx, h1, h2⟩
theorem RSJ.rsi (h : RSJ w A n xss) (hn : n ≤ 4194304) (hp : ∀ xs ∈ xss, xs.length ≤ 4194304) : RSI w A n xss :=
  ⟨⟨h.1.1, hn⟩, fun j xs hx => by
    obtain ⟨b, o, A', m', c', e, h1, h2⟩ := h.2 j xs hx
    exact ⟨b, o, A', m', c', e, h1, h2.ri (by rw [← h2.1.1]; exact hp xs (List.mem_of_getElem? hx))⟩⟩
theorem RS.rsi (h : RS w A n xss) : RSI w A n xss :=
  ⟨h.1, fun j xs hx => by
    obtain ⟨b, o, v, e, h1, A', m', c', rfl, _, h3⟩ := h.2 j xs hx
    exact ⟨b, o, A', m', c', e, h1, h3⟩⟩
end
def RdSS (w : World) (v : Value) (xss : List (List Int)) : Prop := ∃ A n c, v = .slice A n c ∧ RSI w A n xss
theorem RdSS.mk {w : World} {A : Option Addr} {n c : Nat} {xss : List (List Int)} (h : RSI w A n xss) : RdSS w (.slice A n c) xss := ⟨A, n, c, rfl, h⟩
theorem RdSS.ext {w w' : World} {v : Value} {xss : List (List Int)} (h : RdSS w v xss) (k : Ext w w') : RdSS w' v xss := by
  obtain ⟨A, n, c, e, h1⟩ := h; exact ⟨A, n, c, e, h1.ext k⟩
def RawSS (w : World) (v : Value) (xss : List (List Int)) : Prop := ∃ A n c, v = .slice A n c ∧ RSJ w A n xss
theorem RawSS.mk {w : World} {A : Option Addr} {n c : Nat} {xss : List (List Int)} (h : RSJ w A n xss) : RawSS w (.slice A n c) xss := ⟨A, n, c, rfl, h⟩
/-- With its room. -/
def RdSc (w : World) (v : Value) (xss : List (List Int)) : Prop := ∃ A n c, v = .slice A n c ∧ (n ≤ c ∧ c ≤ 9223372036854775807) ∧ RS w A n xss
theorem RdSc.mk {w : World} {A : Option Addr} {n c : Nat} {xss : List (List Int)} (hc : n ≤ c ∧ c ≤ 9223372036854775807) (h : RS w A n xss) : RdSc w (.slice A n c) xss := ⟨A, n, c, rfl, hc, h⟩
theorem RdSc.ext {w w' : World} {v : Value} {xss : List (List Int)} (h : RdSc w v xss) (k : Ext w w') : RdSc w' v xss := by
  obtain ⟨A, n, c, e, h0, h1⟩ := h; exact ⟨A, n, c, e, h0, h1.ext k⟩
theorem RdSc.rd {w : World} {v : Value} {xss : List (List Int)} (h : RdSc w v xss) : RdSS w v xss := by
  obtain ⟨A, n, c, e, h0, h1⟩ := h; exact ⟨A, n, c, e, h1.rsi⟩

def asPs (xss : List (List Int)) : List Pl := xss.map fun xs => ⟨0, xs⟩
def szSS (left : Int) (xss : List (List Int)) : Int := szPolys left (asPs xss)
theorem asPs_len (xss : List (List Int)) : (asPs xss).length = xss.length := by simp [asPs]
theorem asPs_at {xss : List (List Int)} {k : Nat} {xs : List Int} (h : xss[k]? = some xs) : (asPs xss)[k]? = some ⟨0, xs⟩ := by simp [asPs, h]
theorem szSS_bd (left : Int) (xss : List (List Int)) (h : -1 ≤ left ∧ left ≤ 1048576) : -1 ≤ szSS left xss ∧ szSS left xss ≤ 1048576 := szPolys_bd left _ h
theorem szSS_ok {left : Int} {xss : List (List Int)} (hl : -1 ≤ left ∧ left ≤ 1048576) (h : 0 ≤ szSS left xss) : (xss.length : Int) ≤ left ∧ szSS left xss ≤ left ∧ ∀ xs ∈ xss, (xs.length : Int) ≤ left := by
  have h1 := szPolys_ok hl h
  rw [asPs_len] at h1
  refine ⟨h1.1, h1.2.1, fun xs hx => ?_⟩
  have := h1.2.2 ⟨0, xs⟩ (by unfold asPs; exact List.mem_map.2 ⟨xs, hx, rfl⟩)
  exact this

set_option maxHeartbeats 400000 in
theorem c_szInt64SS {v : Value} {xss : List (List Int)} {left : Int} {w : World} (h0 : RawSS w v xss) (hl : -1 ≤ left) (hl2 : left ≤ 1048576) :
    Calls Try.prog 10 #[v, .int .i64 left] w fun e w' => e = .returned (.int .i64 (szSS left xss)) ∧ Ext w w' := by
  obtain ⟨A, n, c, rfl, ha⟩ := h0
  have hn := ha.1.2
  have hlen := ha.1.1
  have HJ := Lib.hid ha
  have HL := Lib.hid hlen
  clear ha hlen
  by_cases h : left - n < 0
  · go_enter Try.func10, Try.ntmps10
    go_wp2
    go_ret
    exact ⟨ret_int (by unfold szSS szPolys; rw [asPs_len, HL.out, szI_m1 h, szPsF_m1]), by (repeat' (first | (with_reducible exact Ext.refl _) | (with_reducible assumption) | (with_reducible refine Ext.alloc ?_ _) | (with_reducible refine Ext.set ?_ ?_ _) | (with_reducible refine Ext.drewN ?_ _) | (with_reducible refine Ext.drew ?_) | (with_reducible refine Ext.trans ?_ (by with_reducible assumption)) | go_size))⟩
  · have e0 : szSS left xss = szPsF (left - n) (asPs xss) := by unfold szSS szPolys; rw [asPs_len, HL.out, szI_sub (by omega)]
    have E0 := Lib.hid e0
    clear e0
    go_enter Try.func10, Try.ntmps10
    go_wp2
    go_loopw [1, 5] (fun x i wr => ∃ k : Nat, i = .int .i64 k ∧ k ≤ n ∧ (∃ y, x = .int .i64 y ∧ Hid (y = szPsF (left - n) ((asPs xss).take k)) ∧ 0 ≤ y ∧ y ≤ 1048576) ∧ Ext w wr) (fun _ i _ => n - (intOf i).toNat)
    case atStart => exact ⟨0, rfl, Nat.zero_le _, ⟨_, rfl, rfl, by omega, by omega⟩, by (repeat' (first | (with_reducible exact Ext.refl _) | (with_reducible assumption) | (with_reducible refine Ext.alloc ?_ _) | (with_reducible refine Ext.set ?_ ?_ _) | (with_reducible refine Ext.drewN ?_ _) | (with_reducible refine Ext.drew ?_) | (with_reducible refine Ext.trans ?_ (by with_reducible assumption)) | go_size))⟩
    case round =>
      obtain ⟨k, rfl, hk, ⟨y, rfl, hy, hy0, hy1⟩, hw⟩ := hrel
      by_cases hlt : k < n
      · obtain ⟨b, o, p, A', m', c', rfl, hx, hc1, hri⟩ := RSJ.at_ (RSJ.ext HJ.out hw) hlt
        have HX := Lib.hid (asPs_at hx)
        have HR := Lib.hid hri
        clear hx hri
        have hlt' : (k : Int) < (n : Int) := by omega
        have h1 := szI_bd y p.length ⟨by omega, hy1⟩
        have h2 := h1.1
        have h3 := h1.2
        clear h1
        have e1 : szI y p.length = szPsF (left - n) ((asPs xss).take (k + 1)) := by rw [take_snoc HX.out, szPsF_snoc, hy.out]
        have E1 := Lib.hid e1
        clear e1
        go_wp2_with (go_at_call 49; (with_reducible refine (c_szInt64S (xs := p) (left := y) (RawI.mk (RJ.ext HR.out (by (repeat' (first | (with_reducible exact Ext.refl _) | (with_reducible assumption) | (with_reducible refine Ext.alloc ?_ _) | (with_reducible refine Ext.set ?_ ?_ _) | (with_reducible refine Ext.drewN ?_ _) | (with_reducible refine Ext.drew ?_) | (with_reducible refine Ext.trans ?_ (by with_reducible assumption)) | go_size))))) (by omega) hy1).mono ?_); rintro e w2 ⟨rfl, hE2⟩)
        · have hneg : szI y p.length < 0 := by assumption
          go_ret
          exact ⟨ret_int (by rw [E0.out, szPsF_neg (k := k + 1) (by rw [← E1.out]; omega)]), by (repeat' (first | (with_reducible exact Ext.refl _) | (with_reducible assumption) | (with_reducible refine Ext.alloc ?_ _) | (with_reducible refine Ext.set ?_ ?_ _) | (with_reducible refine Ext.drewN ?_ _) | (with_reducible refine Ext.drew ?_) | (with_reducible refine Ext.trans ?_ (by with_reducible assumption)) | go_size))⟩
        · go_roundw
          case rel => exact ⟨k + 1, by go_num, by omega, ⟨_, rfl, E1.out, by assumption, h3⟩, by (repeat' (first | (with_reducible exact Ext.refl _) | (with_reducible assumption) | (with_reducible refine Ext.alloc ?_ _) | (with_reducible refine Ext.set ?_ ?_ _) | (with_reducible refine Ext.drewN ?_ _) | (with_reducible refine Ext.drew ?_) | (with_reducible refine Ext.trans ?_ (by with_reducible assumption)) | go_size))⟩
          case measure => simp [intOf]; omega
      · go_wp2
        go_ret
        exact ⟨ret_int (by rw [hy.out, E0.out, List.take_of_length_le (by rw [asPs_len, HL.out]; omega)]), by (repeat' (first | (with_reducible exact Ext.refl _) | (with_reducible assumption) | (with_reducible refine Ext.alloc ?_ _) | (with_reducible refine Ext.set ?_ ?_ _) | (with_reducible refine Ext.drewN ?_ _) | (with_reducible refine Ext.drew ?_) | (with_reducible refine Ext.trans ?_ (by with_reducible assumption)) | go_size))⟩

/-- Lists of the call's own: read, with their room. -/
def NewSS (w : World) (xss : List (List Int)) (e : Ending) (w' : World) : Prop := ∃ A n c, e = .returned (.slice A n c) ∧ (n ≤ c ∧ c ≤ 9223372036854775807) ∧ RS w' A n xss ∧ Ext w w'
theorem NewSS.out {w w' : World} {xss : List (List Int)} {e : Ending} (h : NewSS w xss e w') : ∃ v, e = .returned v ∧ RdSc w' v xss ∧ Ext w w' := by
  obtain ⟨A, n, c, e, h0, h1, h2⟩ := h; exact ⟨_, e, RdSc.mk h0 h1, h2⟩
/-- The first k of them are there, in the row g. -/
def RSG (w : World) (g : Nat) (cs : Array Value) (k : Nat) (xss : List (List Int)) : Prop :=
  ∀ (j : Nat) (xs : List Int), j < k → xss[j]? = some xs → ∃ A' m' c', cs[j]? = some (.slice A' m' c') ∧ (m' ≤ c' ∧ c' ≤ 9223372036854775807) ∧ RI w A' m' xs ∧ ∀ b o s, A' = some ⟨b, o, s⟩ → b ≠ g
theorem RI.setFar {w : World} {A : Option Addr} {n : Nat} {xs : List Int} (h : RI w A n xs) {p : Addr} (v : Value) (hp : ∀ b o s, A = some ⟨b, o, s⟩ → b ≠ p.block) : RI (w.setCell p v) A n xs :=
  ⟨h.1, fun hn => by
    obtain ⟨b, o, e, hc⟩ := h.2 hn
    exact ⟨b, o, e, fun j x hx => by rw [World.cell?_of_block (w := w) (a := ⟨b, o + j, none⟩) (Below.heap_setCell _ _ _ _ (hp b o none e))]; exact hc j x hx⟩⟩
theorem RSG.step {w w1 : World} {g k : Nat} {cs : Array Value} {xss : List (List Int)} {xs : List Int} {A1 : Option Addr} {n1 c1 : Nat} {T : TypeId}
    (hh : w.heap[g]? = some (.cells cs T (0, 0))) (hG : RSG w g cs k xss) (hx : xss[k]? = some xs) (hsz : k < cs.size) (hE : Ext w w1) (hO : OwI w1 w.heap.size A1 n1 c1 xs) :
    (w1.setCell ⟨g, k, none⟩ (.slice A1 n1 c1)).heap[g]? = some (.cells (cs.setIfInBounds k (.slice A1 n1 c1)) T (0, 0)) ∧ RSG (w1.setCell ⟨g, k, none⟩ (.slice A1 n1 c1)) g (cs.setIfInBounds k (.slice A1 n1 c1)) (k + 1) xss := by
  have hg : g < w.heap.size := (Array.getElem?_eq_some_iff.1 hh).1
  have hh1 : w1.heap[g]? = some (.cells cs T (0, 0)) := (hE.block g hg).trans hh
  have hbd := hO.bd
  refine ⟨by simp [World.setCell, Array.getElem?_modify, hh1], fun j q hj hq => ?_⟩
  by_cases hjk : j = k
  · subst hjk
    rw [hx] at hq; cases hq
    refine ⟨A1, n1, c1, Array.getElem?_setIfInBounds_self_of_lt hsz, hO.cap, hO.ri.setFar _ fun b o s e => ?_, fun b o s e => ?_⟩
    · have := hbd b o s e; show b ≠ g; omega
    · have := hbd b o s e; omega
  · obtain ⟨A', m', c', h1, h2, h3, h4⟩ := hG j q (by omega) hq
    refine ⟨A', m', c', by rw [Array.getElem?_setIfInBounds_ne (by omega)]; exact h1, h2, (h3.ext hE).setFar _ fun b o s e => h4 b o s e, h4⟩

theorem ints_info : (Try.prog.info? 22).map (fun i => (i.zero, i.size, i.bytes)) = some (some (.slice none 0 0), 1, 24) := by kernel_rfl
set_option maxHeartbeats 1000000 in
theorem c_toInt64SS {v : Value} {xss : List (List Int)} {w : World} (h0 : RdSS w v xss) : Calls Try.prog 14 #[v] w (NewSS w xss) := by
  obtain ⟨A, n, c, rfl, ha⟩ := h0
  have hn := ha.le
  have HA := Lib.hid ha
  clear ha
  obtain ⟨i0, hi0, hz0, hz1, hz2⟩ := info_parts ints_info
  go_enter Try.func14, Try.ntmps14
  go_wp2_with (at_make; refine wpList_make_full _ rfl _ _ 25 rfl w.heap.size 22 i0 _ 1 Try.underlying25 hi0 hz0 hz1 _ _ _ _ n rfl rfl rfl rfl (by rw [hz2]; omega) (by simp only [maxLen]; omega) (Nat.le_refl _) ?_)
  intro w1 hown hg
  have hE : Ext w w1 := Ext.grown (Ext.refl _) hg (fun k hk => by cases hk)
  obtain ⟨cs, hh, hsz⟩ : ∃ cs, w1.heap[w.heap.size]? = some (.cells cs 22 (0, 0)) ∧ cs.size = n := by
    rcases hown.2 with ⟨h0, _⟩ | ⟨g, cap, cur, hv, _, hh, _, _, hcs, _⟩
    · cases h0
    · cases hv; exact ⟨cur, hh, by simpa using hcs⟩
  have hgl : w.heap.size < w1.heap.size := (Array.getElem?_eq_some_iff.1 hh).1
  clear hown
  go_wp2
  go_loopw [4] (fun i wr => ∃ k : Nat, i = .int .i64 k ∧ k ≤ n ∧ Hid (∃ cs, wr.heap[w.heap.size]? = some (.cells cs 22 (0, 0)) ∧ cs.size = n ∧ RSG wr w.heap.size cs k xss) ∧ Ext w wr) (fun i _ => n - (intOf i).toNat)
  case atStart => exact ⟨0, rfl, Nat.zero_le _, ⟨cs, hh, hsz, fun j p hj => by omega⟩, hE⟩
  case round =>
    obtain ⟨k, rfl, hk, hT, hw⟩ := hrel
    obtain ⟨cs2, hh2, hsz2, hG⟩ := hT.out
    clear hT hh hsz
    have hgl2 : w.heap.size < wr.heap.size := (Array.getElem?_eq_some_iff.1 hh2).1
    by_cases hlt : k < n
    · obtain ⟨b, o, p, A', m', c', rfl, hx, hc1, hri⟩ := RSI.at_ (RSI.ext HA.out hw) hlt
      have HX := Lib.hid hx
      have HR := Lib.hid hri
      have HH := Lib.hid hh2
      have HG := Lib.hid hG
      have HS := Lib.hid hsz2
      clear hx hri hh2 hG hsz2
      have hlt' : (k : Int) < (n : Int) := by omega
      go_wp2_with fail
      (with_reducible refine (c_toInt64S (xs := p) (RdI.mk (RI.ext HR.out (by (repeat' (first | (with_reducible exact Ext.refl _) | (with_reducible assumption) | (with_reducible refine Ext.alloc ?_ _) | (with_reducible refine Ext.set ?_ ?_ _) | (with_reducible refine Ext.drewN ?_ _) | (with_reducible refine Ext.drew ?_) | (with_reducible refine Ext.trans ?_ (by with_reducible assumption)) | go_size)))))).mono ?_)
      rintro e w2 ⟨A1, n1, c1, rfl, hO, hE2⟩
      have hh3 : w2.heap[w.heap.size]? = some (.cells cs2 22 (0, 0)) := (hE2.block _ hgl2).trans HH.out
      have hs1 : k < cs2.size := by have := HS.out; omega
      obtain ⟨z1, ce1⟩ : ∃ z, w2.cell? ⟨w.heap.size, k, none⟩ = some z := ⟨cs2[k]'(by omega), by rw [cell_of_row w2 _ _ cs2 _ (0, 0) hh3]; exact Array.getElem?_eq_getElem _⟩
      have fe1 : ∀ i, w2.frozen? ⟨w.heap.size, i, none⟩ = false := fun i => frozen_of_row w2 _ _ cs2 _ hh3
      have hst := RSG.step HH.out HG.out HX.out hs1 hE2 hO
      have HST := Lib.hid hst
      have HSZ := Lib.hid (show (cs2.setIfInBounds k (.slice A1 n1 c1)).size = n by simpa using HS.out)
      clear hst hh3 hs1 hO
      go_wp2
      go_roundw
      case rel => exact ⟨k + 1, by go_num, by omega, ⟨_, HST.out.1, HSZ.out, HST.out.2⟩, by (repeat' (first | (with_reducible exact Ext.refl _) | (with_reducible assumption) | (with_reducible refine Ext.alloc ?_ _) | (with_reducible refine Ext.set ?_ ?_ _) | (with_reducible refine Ext.drewN ?_ _) | (with_reducible refine Ext.drew ?_) | (with_reducible refine Ext.trans ?_ (by with_reducible assumption)) | go_size))⟩
      case measure => simp [intOf]; omega
    · go_wp2
      go_ret
      have hkn : k = n := by omega
      subst hkn
      refine ⟨_, _, _, rfl, by omega, ⟨⟨HA.out.len, hn⟩, fun j xs hx => ?_⟩, hw⟩
      have hj : j < k := by have := (List.getElem?_eq_some_iff.1 hx).1; rw [HA.out.len] at this; exact this
      obtain ⟨A', m', c', h1, h2, h3, _⟩ := hG j xs hj hx
      exact ⟨_, 0, _, rfl, by rw [Nat.zero_add, cell_of_row wr _ _ cs2 _ (0, 0) hh2]; exact h1, RdIc.mk h2 h3⟩

set_option maxRecDepth 100000 in
set_option maxHeartbeats 1000000 in
theorem c_eqInt64SS_self {v v' : Value} {xss : List (List Int)} {w : World} (h0 : RdSS w v xss) (h1 : RdSS w v' xss) :
    Calls Try.prog 18 #[v, v'] w fun e w' => e = .returned (.bool true) ∧ Ext w w' := by
  obtain ⟨A, n, c, rfl, ha⟩ := h0
  obtain ⟨B, m, d, rfl, hb⟩ := h1
  have hn := ha.le
  have hmn : m = n := by rw [← ha.len, ← hb.len]
  subst hmn
  have HA := Lib.hid ha
  have HB := Lib.hid hb
  clear ha hb
  have hnn : ((m : Int) != (m : Int)) = false := by simp
  go_enter Try.func18, Try.ntmps18
  go_wp2
  go_loopw [5] (fun i wr => ∃ k : Nat, i = .int .i64 k ∧ k ≤ m ∧ Ext w wr) (fun i _ => m - (intOf i).toNat)
  case atStart => exact ⟨0, rfl, Nat.zero_le _, by (repeat' (first | (with_reducible exact Ext.refl _) | (with_reducible assumption) | (with_reducible refine Ext.alloc ?_ _) | (with_reducible refine Ext.set ?_ ?_ _) | (with_reducible refine Ext.drewN ?_ _) | (with_reducible refine Ext.drew ?_) | (with_reducible refine Ext.trans ?_ (by with_reducible assumption)) | go_size))⟩
  case round =>
    obtain ⟨k, rfl, hk, hw⟩ := hrel
    by_cases hlt : k < m
    · obtain ⟨b, o, p, A', m1, c1, rfl, hx, hc1, hri⟩ := RSI.at_ (RSI.ext HA.out hw) hlt
      obtain ⟨b', o', p', A'', m2, c2, rfl, hx', hd1, hri'⟩ := RSI.at_ (RSI.ext HB.out hw) hlt
      rw [hx] at hx'; cases hx'
      have HR := Lib.hid hri
      have HR' := Lib.hid hri'
      clear hx hri hri'
      have hlt' : (k : Int) < (m : Int) := by omega
      go_wp2_with fail
      go_still_tail 8, (by kernel_rfl)
      change wpList _ _ _ _ _ wr.drew
      have hE1 : Ext w wr.drew := by (repeat' (first | (with_reducible exact Ext.refl _) | (with_reducible assumption) | (with_reducible refine Ext.alloc ?_ _) | (with_reducible refine Ext.set ?_ ?_ _) | (with_reducible refine Ext.drewN ?_ _) | (with_reducible refine Ext.drew ?_) | (with_reducible refine Ext.trans ?_ (by with_reducible assumption)) | go_size))
      go_wp2_with (go_at_call 17; (with_reducible refine (c_eqInt64S_self (xs := p) (RdI.mk (RI.ext HR.out (by (repeat' (first | (with_reducible exact Ext.refl _) | (with_reducible assumption) | (with_reducible refine Ext.alloc ?_ _) | (with_reducible refine Ext.set ?_ ?_ _) | (with_reducible refine Ext.drewN ?_ _) | (with_reducible refine Ext.drew ?_) | (with_reducible refine Ext.trans ?_ (by with_reducible assumption)) | go_size))))) (RdI.mk (RI.ext HR'.out (by (repeat' (first | (with_reducible exact Ext.refl _) | (with_reducible assumption) | (with_reducible refine Ext.alloc ?_ _) | (with_reducible refine Ext.set ?_ ?_ _) | (with_reducible refine Ext.drewN ?_ _) | (with_reducible refine Ext.drew ?_) | (with_reducible refine Ext.trans ?_ (by with_reducible assumption)) | go_size)))))).mono ?_); rintro e w2 ⟨rfl, hE2⟩)
      go_roundw
      case rel => exact ⟨k + 1, by go_num, by omega, by (repeat' (first | (with_reducible exact Ext.refl _) | (with_reducible assumption) | (with_reducible refine Ext.alloc ?_ _) | (with_reducible refine Ext.set ?_ ?_ _) | (with_reducible refine Ext.drewN ?_ _) | (with_reducible refine Ext.drew ?_) | (with_reducible refine Ext.trans ?_ (by with_reducible assumption)) | go_size))⟩
      case measure => simp [intOf]; omega
    · go_wp2
      go_ret
      exact ⟨rfl, by (repeat' (first | (with_reducible exact Ext.refl _) | (with_reducible assumption) | (with_reducible refine Ext.alloc ?_ _) | (with_reducible refine Ext.set ?_ ?_ _) | (with_reducible refine Ext.drewN ?_ _) | (with_reducible refine Ext.drew ?_) | (with_reducible refine Ext.trans ?_ (by with_reducible assumption)) | go_size))⟩

end Go.Proofs.Ytejmlbcafemieaa
