/- Lists of lists of integers: their size, their copy, what compares them. -/
import Derived.Test.YtoopopgbbkmcpaaParts
import Derived.Test.YtoopopgbbkmcpaaMPoly
import Derived.Test.YtoopopgbbkmcpaaCopy
import Derived.StillTailTactics
namespace Go.Proofs.Ytoopopgbbkmcpaa
open Go.RowKit
set_option linter.unusedSimpArgs false
set_option linter.unusedVariables false

/-- The slice value reads as these lists, of whatever length. -/
def RSJ (w : World) (A : Option Addr) (n : Nat) (xss : List (List Int)) : Prop :=
  (xss.length = n ∧ n ≤ 9223372036854775807) ∧ ∀ (j : Nat) (xs : List Int), xss[j]? = some xs → ∃ b o A' m' c', A = some ⟨b, o, none⟩ ∧ w.cell? ⟨b, o + j, none⟩ = some (.slice A' m' c') ∧ RJ w A' m' xs
/-- .. of short ones. -/
def RSI (w : World) (A : Option Addr) (n : Nat) (xss : List (List Int)) : Prop :=
  (xss.length = n ∧ n ≤ 4194304) ∧ ∀ (j : Nat) (xs : List Int), xss[j]? = some xs → ∃ b o A' m' c', A = some ⟨b, o, none⟩ ∧ w.cell? ⟨b, o + j, none⟩ = some (.slice A' m' c') ∧ RI w A' m' xs
section
variable {w w' : World} {A : Option Addr} {n k : Nat} {xss : List (List Int)}
theorem RSJ.ext (h : RSJ w A n xss) (k : Ext w w') : RSJ w' A n xss :=
  ⟨h.1, fun j xs hx => by
    obtain ⟨b, o, A', m', c', e, h1, h2⟩ := h.2 j xs hx
    exact ⟨b, o, A', m', c', e, Ext.keep k h1, h2.ext k⟩⟩
theorem RSI.ext (h : RSI w A n xss) (k : Ext w w') : RSI w' A n xss :=
  ⟨h.1, fun j xs hx => by
    obtain ⟨b, o, A', m', c', e, h1, h2⟩ := h.2 j xs hx
    exact ⟨b, o, A', m', c', e, Ext.keep k h1, h2.ext k⟩⟩
theorem RSI.len (h : RSI w A n xss) : xss.length = n := h.1.1
theorem RSI.le (h : RSI w A n xss) : n ≤ 4194304 := h.1.2
theorem RSJ.at_ (h : RSJ w A n xss) (hk : k < n) : ∃ b o xs A' m' c', A = some ⟨b, o, none⟩ ∧ xss[k]? = some xs ∧ w.cell? ⟨b, o + k, none⟩ = some (.slice A' m' c') ∧ RJ w A' m' xs := by
  have hl : k < xss.length := by rw [h.1.1]; exact hk
  have hx := List.getElem?_eq_getElem hl
  obtain ⟨b, o, A', m', c', e, h1, h2⟩ := h.2 k _ hx
  exact ⟨b, o, _, A', m', c', e, hx, h1, h2⟩
theorem RSI.at_ (h : RSI w A n xss) (hk : k < n) : ∃ b o xs A' m' c', A = some ⟨b, o, none⟩ ∧ xss[k]? = some xs ∧ w.cell? ⟨b, o + k, none⟩ = some (.slice A' m' c') ∧ RI w A' m' xs := by
  have hl : k < xss.length := by rw [h.1.1]; exact hk
  have hx := List.getElem?_eq_getElem hl
  obtain ⟨b, o, A', m', c', e, h1, h2⟩ := h.2 k _ hx
  exact ⟨b, o, _, A', m', c', e, hx, h1, h2⟩
theorem RSJ.rsi (h : RSJ w A n xss) (hn : n ≤ 4194304) (hp : ∀ xs ∈ xss, xs.length ≤ 4194304) : RSI w A n xss :=
  ⟨⟨h.1.1, hn⟩, fun j xs hx => by
    obtain ⟨b, o, A', m', c', e, h1, h2⟩ := h.2 j xs hx
    exact ⟨b, o, A', m', c', e, h1, h2.ri (by rw [← h2.1.1]; exact hp xs (List.mem_of_getElem? hx))⟩⟩
theorem RS.rsi (h : RS w A n xss) : RSI w A n xss :=
  ⟨h.1, fun j xs hx => by
    obtain ⟨b, o, v, e, h1, A', m', c', rfl, _, h3⟩ := h.2 j xs hx
    exact ⟨b, o, A', m', c', e, h1, h3⟩⟩
end
def RdSS (w : World) (v : Value) (xss : List (List Int)) : Prop := ∃ A n c, v = .slice A n c ∧ RSI w A n xss
theorem RdSS.mk {w : World} {A : Option Addr} {n c : Nat} {xss : List (List Int)} (h : RSI w A n xss) : RdSS w (.slice A n c) xss := ⟨A, n, c, rfl, h⟩
theorem RdSS.ext {w w' : World} {v : Value} {xss : List (List Int)} (h : RdSS w v xss) (k : Ext w w') : RdSS w' v xss := by
  obtain ⟨A, n, c, e, h1⟩ := h; exact ⟨A, n, c, e, h1.ext k⟩
def RawSS (w : World) (v : Value) (xss : List (List Int)) : Prop := ∃ A n c, v = .slice A n c ∧ RSJ w A n xss
theorem RawSS.mk {w : World} {A : Option Addr} {n c : Nat} {xss : List (List Int)} (h : RSJ w A n xss) : RawSS w (.slice A n c) xss := ⟨A, n, c, rfl, h⟩
/-- With its room. -/
def RdSc (w : World) (v : Value) (xss : List (List Int)) : Prop := ∃ A n c, v = .slice A n c ∧ (n ≤ c ∧ c ≤ 9223372036854775807) ∧ RS w A n xss
theorem RdSc.mk {w : World} {A : Option Addr} {n c : Nat} {xss : List (List Int)} (hc : n ≤ c ∧ c ≤ 9223372036854775807) (h : RS w A n xss) : RdSc w (.slice A n c) xss := ⟨A, n, c, rfl, hc, h⟩
theorem RdSc.ext {w w' : World} {v : Value} {xss : List (List Int)} (h : RdSc w v xss) (k : Ext w w') : RdSc w' v xss := by
  obtain ⟨A, n, c, e, h0, h1⟩ := h; exact ⟨A, n, c, e, h0, h1.ext k⟩
theorem RdSc.rd {w : World} {v : Value} {xss : List (List Int)} (h : RdSc w v xss) : RdSS w v xss := by
  obtain ⟨A, n, c, e, h0, h1⟩ := h; exact ⟨A, n, c, e, h1.rsi⟩

def asPs (xss : List (List Int)) : List Pl := xss.map fun xs => ⟨0, xs⟩
def szSS (left : Int) (xss : List (List Int)) : Int := szPolys left (asPs xss)
theorem asPs_len (xss : List (List Int)) : (asPs xss).length = xss.length := by simp [asPs]
theorem asPs_at {xss : List (List Int)} {k : Nat} {xs : List Int} (h : xss[k]? = some xs) : (asPs xss)[k]? = some ⟨0, xs⟩ := by simp [asPs, h]
theorem szSS_bd (left : Int) (xss : List (List Int)) (h : -1 ≤ left ∧ left ≤ 1048576) : -1 ≤ szSS left xss ∧ szSS left xss ≤ 1048576 := szPolys_bd left _ h
theorem szSS_ok {left : Int} {xss : List (List Int)} (hl : -1 ≤ left ∧ left ≤ 1048576) (h : 0 ≤ szSS left xss) : (xss.length : Int) ≤ left ∧ szSS left xss ≤ left ∧ ∀ xs ∈ xss, (xs.length : Int) ≤ left := by
  have h1 := szPolys_ok hl h
  rw [asPs_len] at h1
  refine ⟨h1.1, h1.2.1, fun xs hx => ?_⟩
  have := h1.2.2 ⟨0, xs⟩ (by unfold asPs; exact List.mem_map.2 ⟨xs, hx, rfl⟩)
  exact this


/-- Lists of the call's own: read, with their room. -/
def NewSS (w : World) (xss : List (List Int)) (e : Ending) (w' : World) : Prop := ∃ A n c, e = .returned (.slice A n c) ∧ (n ≤ c ∧ c ≤ 9223372036854775807) ∧ RS w' A n xss ∧ Ext w w'
theorem NewSS.out {w w' : World} {xss : List (List Int)} {e : Ending} (h : NewSS w xss e w') : ∃ v, e = .returned v ∧ RdSc w' v xss ∧ Ext w w' := by
  obtain ⟨A, n, c, e, h0, h1, h2⟩ := h; exact ⟨_, e, RdSc.mk h0 h1, h2⟩
/-- The first k of them are there, in the row g. -/
def RSG (w : World) (g : Nat) (cs : Array Value) (k : Nat) (xss : List (List Int)) : Prop :=
  ∀ (j : Nat) (xs : List Int), j < k → xss[j]? = some xs → ∃ A' m' c', cs[j]? = some (.slice A' m' c') ∧ (m' ≤ c' ∧ c' ≤ 9223372036854775807) ∧ RI w A' m' xs ∧ ∀ b o s, A' = some ⟨b, o, s⟩ → b ≠ g
theorem RI.setFar {w : World} {A : Option Addr} {n : Nat} {xs : List Int} (h : RI w A n xs) {p : Addr} (v : Value) (hp : ∀ b o s, A = some ⟨b, o, s⟩ → b ≠ p.block) : RI (w.setCell p v) A n xs :=
  ⟨h.1, fun hn => by
    obtain ⟨b, o, e, hc⟩ := h.2 hn
    exact ⟨b, o, e, fun j x hx => by rw [World.cell?_of_block (w := w) (a := ⟨b, o + j, none⟩) (Below.heap_setCell _ _ _ _ (hp b o none e))]; exact hc j x hx⟩⟩
theorem RSG.step {w w1 : World} {g k : Nat} {cs : Array Value} {xss : List (List Int)} {xs : List Int} {A1 : Option Addr} {n1 c1 : Nat} {T : TypeId}
    (hh : w.heap[g]? = some (.cells cs T (0, 0))) (hG : RSG w g cs k xss) (hx : xss[k]? = some xs) (hsz : k < cs.size) (hE : Ext w w1) (hO : OwI w1 w.heap.size A1 n1 c1 xs) :
    (w1.setCell ⟨g, k, none⟩ (.slice A1 n1 c1)).heap[g]? = some (.cells (cs.setIfInBounds k (.slice A1 n1 c1)) T (0, 0)) ∧ RSG (w1.setCell ⟨g, k, none⟩ (.slice A1 n1 c1)) g (cs.setIfInBounds k (.slice A1 n1 c1)) (k + 1) xss := by
  have hg : g < w.heap.size := (Array.getElem?_eq_some_iff.1 hh).1
  have hh1 : w1.heap[g]? = some (.cells cs T (0, 0)) := (hE.block g hg).trans hh
  have hbd := hO.bd
  refine ⟨by simp [World.setCell, Array.getElem?_modify, hh1], fun j q hj hq => ?_⟩
  by_cases hjk : j = k
  · subst hjk
    rw [hx] at hq; cases hq
    refine ⟨A1, n1, c1, Array.getElem?_setIfInBounds_self_of_lt hsz, hO.cap, hO.ri.setFar _ fun b o s e => ?_, fun b o s e => ?_⟩
    · have := hbd b o s e; show b ≠ g; omega
    · have := hbd b o s e; omega
  · obtain ⟨A', m', c', h1, h2, h3, h4⟩ := hG j q (by omega) hq
    refine ⟨A', m', c', by rw [Array.getElem?_setIfInBounds_ne (by omega)]; exact h1, h2, (h3.ext hE).setFar _ fun b o s e => h4 b o s e, h4⟩


set_option maxRecDepth 100000 in
set_option maxHeartbeats 1000000 in
theorem c_eqInt64SS_self {v v' : Value} {xss : List (List Int)} {w : World} (h0 : RdSS w v xss) (h1 : RdSS w v' xss) :
    Calls Try.prog 16 #[v, v'] w fun e w' => e = .returned (.bool true) ∧ Ext w w' := by
  obtain ⟨A, n, c, rfl, ha⟩ := h0
  obtain ⟨B, m, d, rfl, hb⟩ := h1
  have hn := ha.le
  have hmn : m = n := by rw [← ha.len, ← hb.len]
  subst hmn
  have HA := Lib.hid ha
  have HB := Lib.hid hb
  clear ha hb
  have hnn : ((m : Int) != (m : Int)) = false := by simp
  go_enter Try.func16, Try.ntmps16
  go_wp2
  go_loopw [5] (fun i wr => ∃ k : Nat, i = .int .i64 k ∧ k ≤ m ∧ Ext w wr) (fun i _ => m - (intOf i).toNat)
  case atStart => exact ⟨0, rfl, Nat.zero_le _, by exact extX⟩
  case round =>
    obtain ⟨k, rfl, hk, hw⟩ := hrel
    by_cases hlt : k < m
    · obtain ⟨b, o, p, A', m1, c1, rfl, hx, hc1, hri⟩ := RSI.at_ (RSI.ext HA.out hw) hlt
      obtain ⟨b', o', p', A'', m2, c2, rfl, hx', hd1, hri'⟩ := RSI.at_ (RSI.ext HB.out hw) hlt
      rw [hx] at hx'; cases hx'
      have HR := Lib.hid hri
      have HR' := Lib.hid hri'
      clear hx hri hri'
      have hlt' : (k : Int) < (m : Int) := by omega
      go_wp2_with fail
      go_still_tail 8, (by kernel_rfl)
      change wpList _ _ _ _ _ wr.drew
      have hE1 : Ext w wr.drew := by exact extX
      go_wp2_with (go_at_call 39; (with_reducible refine (c_eqInt64S_self (xs := p) (RdI.mk (RI.ext HR.out (by exact extX))) (RdI.mk (RI.ext HR'.out (by exact extX)))).mono ?_); rintro e w2 ⟨rfl, hE2⟩)
      go_roundw
      case rel => exact ⟨k + 1, by go_num, by omega, by exact extX⟩
      case measure => simp [intOf]; omega
    · go_wp2
      go_ret
      exact ⟨rfl, by exact extX⟩

end Go.Proofs.Ytoopopgbbkmcpaa
