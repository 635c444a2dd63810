/- Marks of polynomials, and that they hold. -/
import Derived.Test.YtjfoppllenmndaaMarkT
-- rd: RdPl RdPs
namespace Go.Proofs.Ytjfoppllenmndaa
open Go.RowKit
set_option linter.unusedSimpArgs false
set_option linter.unusedVariables false

/-- The first mark of each. -/
def kAt (k0 : Int) (L : Nat → Nat) : Nat → Int
  | 0 => k0
  | j + 1 => kAt k0 L j + 1 + L j
theorem kAt_bd {k0 : Int} {L : Nat → Nat} (h0 : 0 ≤ k0) {n : Nat} (hL : ∀ j, j < n → L j ≤ 4194304) : ∀ j, j ≤ n → k0 ≤ kAt k0 L j ∧ kAt k0 L j ≤ k0 + j * 4194305
  | 0, _ => by show k0 ≤ k0 ∧ k0 ≤ _; omega
  | j + 1, h => by
    have h1 := kAt_bd h0 hL j (by omega)
    have h2 := hL j (by omega)
    show k0 ≤ kAt k0 L j + 1 + L j ∧ kAt k0 L j + 1 + L j ≤ _
    omega
/-- Marked polynomials, as they are read. -/
def Marked (w : World) (A : Option Addr) (n : Nat) (k0 k1 : Int) : Prop := n ≤ 4194304 ∧ ((A = none ∧ n = 0 ∧ k1 = k0) ∨ ∃ (g : Nat) (G : Nat → Option Addr) (L C : Nat → Nat), A = some ⟨g, 0, none⟩ ∧ k1 = kAt k0 L n ∧
  ∀ j, j < n → w.cell? ⟨g, j * 2, none⟩ = some (.int .i64 (kAt k0 L j)) ∧ w.cell? ⟨g, j * 2 + 1, none⟩ = some (.slice (G j) (L j) (C j)) ∧ RI w (G j) (L j) (marks (kAt k0 L j + 1) (L j)))
theorem Marked.ext {w w' : World} {A : Option Addr} {n : Nat} {k0 k1 : Int} (h : Marked w A n k0 k1) (k : Ext w w') : Marked w' A n k0 k1 := by
  obtain ⟨hn, h1⟩ := h
  refine ⟨hn, h1.imp id ?_⟩
  rintro ⟨g, G, L, C, hA, hk, h2⟩
  exact ⟨g, G, L, C, hA, hk, fun j hj => by obtain ⟨a, b, c⟩ := h2 j hj; exact ⟨Ext.keep k a, Ext.keep k b, c.ext k⟩⟩
theorem Marked.bd {w : World} {A : Option Addr} {n : Nat} {k0 k1 : Int} (h : Marked w A n k0 k1) (h0 : 0 ≤ k0) : k0 ≤ k1 ∧ k1 ≤ k0 + n * 4194305 := by
  obtain ⟨hn, ⟨_, _, rfl⟩ | ⟨g, G, L, C, hA, rfl, h2⟩⟩ := h
  · omega
  · exact kAt_bd h0 (fun j hj => (h2 j hj).2.2.le) n (Nat.le_refl _)
/-- The marks under way: what is done reads so. -/
def MarkSt2 (wr : World) (g : Nat) (G : Nat → Option Addr) (L C : Nat → Nat) (k0 : Int) (q : Nat) : Prop :=
  ∀ j, j < q → wr.cell? ⟨g, j * 2, none⟩ = some (.int .i64 (kAt k0 L j)) ∧ RI wr (G j) (L j) (marks (kAt k0 L j + 1) (L j))
set_option maxRecDepth 100000 in
set_option maxHeartbeats 2000000 in
theorem c_markPolyS2 {A : Option Addr} {n c lo hi : Nat} {k0 : Int} {w : World} (h0 : OwPI w lo hi A n) (hk : 0 ≤ k0) (hk2 : k0 ≤ 1000000000000) :
    Calls Try.prog 38 #[.slice A n c, .int .i64 k0] w fun e w' => ∃ k1 : Int, e = .returned (.int .i64 k1) ∧ Marked w' A n k0 k1 ∧ Turn lo hi w w' := by
  obtain ⟨hn, h1⟩ := h0
  rcases h1 with ⟨rfl, rfl⟩ | ⟨g, cs, G, L, C, rfl, hg, hg2, hh, hc, hG⟩
  · go_enter Try.func38, Try.ntmps38
    go_wp2
    go_loopw [1, 5] (fun x i wr => i = .int .i64 0 ∧ x = .int .i64 k0 ∧ wr = w) (fun _ i _ => 0)
    case atStart => exact ⟨rfl, rfl, rfl⟩
    case round =>
      obtain ⟨rfl, rfl, rfl⟩ := hrel
      go_wp2
      go_ret
      exact ⟨k0, rfl, ⟨by omega, .inl ⟨rfl, rfl, rfl⟩⟩, Turn.refl _ _ _⟩
  · have HAP := Lib.hid (show Apart hi g G n from fun j hj => (hG j hj).2.2.2)
    have HM := Lib.hid (show MarkSt w w lo hi g G L C n 0 from ⟨Turn.refl _ _ _, ⟨cs, hh, hc, fun j hj => ⟨(hG j hj).1, (hG j hj).2.1⟩⟩, fun j hj _ => (hG j hj).2.2.1⟩)
    have HLB := Lib.hid (show ∀ j, j < n → L j ≤ 4194304 from fun j hj => by obtain ⟨xs, h⟩ := (hG j hj).2.2.1; exact h.le)
    clear hG hh hc
    go_enter Try.func38, Try.ntmps38
    go_wp2
    go_loopw [1, 5] (fun x i wr => ∃ q : Nat, i = .int .i64 q ∧ q ≤ n ∧ (∃ y : Int, x = .int .i64 y ∧ Hid (y = kAt k0 L q)) ∧ Hid (MarkSt w wr lo hi g G L C n q ∧ MarkSt2 wr g G L C k0 q)) (fun _ i _ => n - (intOf i).toNat)
    case atStart => exact ⟨0, rfl, Nat.zero_le _, ⟨k0, rfl, Lib.hid rfl⟩, Lib.hid ⟨HM.out, fun j hj => by omega⟩⟩
    case round =>
      obtain ⟨q, rfl, hq, ⟨y, rfl, hy⟩, hM⟩ := hrel
      have hybd := kAt_bd hk HLB.out q hq
      rw [← hy.out] at hybd
      by_cases hlt : q < n
      · obtain ⟨⟨hT, ⟨cs, hh, hc, hcs⟩, hrest⟩, hdone⟩ := hM.out
        obtain ⟨⟨y0, e0⟩, e1⟩ := hcs q hlt
        obtain ⟨xs, hO⟩ := hrest q hlt (Nat.le_refl _)
        have hc0 : wr.cell? ⟨g, q * 2, none⟩ = some (.int .i64 y0) := by rw [cell_of_row wr g _ cs _ (0, 0) hh]; exact e0
        have hc1 : wr.cell? ⟨g, q * 2 + 1, none⟩ = some (.slice (G q) (L q) (C q)) := by rw [cell_of_row wr g _ cs _ (0, 0) hh]; exact e1
        have hLq := hO.le
        have hlt' : (q : Int) < (n : Int) := by omega
        have hq0 : (0 : Int) ≤ (q : Int) := by omega
        have hc1f : ∀ i, wr.frozen? ⟨g, i, none⟩ = false := fun i => frozen_of_row wr _ _ cs _ hh
        have hgl : g < wr.heap.size := (Array.getElem?_eq_some_iff.1 hh).1
        have hy3 : IntKind.i64.wrap (y + 1) = y + 1 := IntWalk.i64_in _ (by omega)
        have HOQ := Lib.hid (hO.setFar (.int .i64 y) (p := ⟨g, q * 2, none⟩) fun b o s e => (HAP.out q hlt b o s e).2.1)
        have HY := Lib.hid (show y + 1 + L q = kAt k0 L (q + 1) by show _ = kAt k0 L q + 1 + L q; rw [hy.out])
        clear hT hh hc hcs hrest hO e0 e1 hdone
        go_wp2_with fail
        (with_reducible refine (c_markInts (B := lo) (xs := xs) HOQ.out (by omega) (by omega)).mono ?_)
        rintro e5 w5 ⟨rfl, hR5, hO5⟩
        have HN := Lib.hid (hM.out.1.step hlt HAP.out ⟨hg, hg2⟩ hO5)
        have HN2 := Lib.hid (show MarkSt2 w5 g G L C k0 (q + 1) from fun j hj => by
          have hgG : ∀ b o s, G q = some ⟨b, o, s⟩ → g ≠ b := fun b o s e e2 => (HAP.out q hlt b o s e).2.1 e2.symm
          rcases Nat.lt_or_ge j q with h | h
          · obtain ⟨a1, a2⟩ := hM.out.2 j h
            refine ⟨?_, ?_⟩
            · refine (OnlyA.cells hO5 (by simpa [World.setCell] using hgl) hgG).trans ?_
              rw [World.cell?_setCell_other _ _ _ _ (by first | (simp; done) | (simp; omega))]; exact a1
            · refine RI.onlyA ?_ hO5 (fun b o s b' o' s' e e' => (HAP.out j (by omega) b' o' s' e').2.2 q hlt (by omega) b o s e)
              refine ⟨a2.1, fun h0 => ?_⟩
              obtain ⟨b, o, hB, hcc⟩ := a2.2 h0
              exact ⟨b, o, hB, fun i x hx => by rw [World.cell?_setCell_other _ _ _ _ (by have := (HAP.out j (by omega) b o none hB).2.1; first | (simp; done) | (simp; omega))]; exact hcc i x hx⟩
          · obtain rfl : j = q := by omega
            refine ⟨?_, ?_⟩
            · refine (OnlyA.cells hO5 (by simpa [World.setCell] using hgl) hgG).trans ?_
              rw [← hy.out]; exact World.cell?_setCell_same _ _ _ hc0
            · rw [← hy.out]; exact hR5.ri)
        clear hO5 hR5
        go_wp2
        go_roundw
        case rel => exact ⟨q + 1, by go_num, by omega, ⟨_, rfl, HY⟩, Lib.hid ⟨HN.out, HN2.out⟩⟩
        case measure => simp only [intOf]; omega
      · go_wp2
        go_ret
        have hqn : q = n := by omega
        subst hqn
        obtain ⟨⟨hT, ⟨cs, hh, hc, hcs⟩, _⟩, hdone⟩ := hM.out
        refine ⟨y, rfl, ⟨hn, .inr ⟨g, G, L, C, rfl, hy.out, fun j hj => ⟨(hdone j hj).1, ?_, (hdone j hj).2⟩⟩⟩, hT⟩
        rw [cell_of_row wr g _ cs _ (0, 0) hh]; exact (hcs j hj).2
set_option maxHeartbeats 1000000 in
theorem c_heldInts {A : Option Addr} {n c : Nat} {k : Int} {w : World} (h0 : RI w A n (marks k n)) (hk : 0 ≤ k) (hk2 : k ≤ 1000000000000000) :
    Calls Try.prog 28 #[.slice A n c, .int .i64 k] w fun e w' => e = .returned (.int .i64 (k + n)) ∧ w = w' := by
  have hn := h0.le
  have H0 := Lib.hid h0
  clear h0
  go_enter Try.func28, Try.ntmps28
  go_wp2
  go_loop [1, 5] (fun x i => ∃ q : Nat, i = .int .i64 q ∧ q ≤ n ∧ x = .int .i64 (k + q)) (fun _ i => n - (intOf i).toNat)
  case atStart => exact ⟨0, rfl, Nat.zero_le _, by simp⟩
  case round =>
    obtain ⟨q, rfl, hq, rfl⟩ := hrel
    by_cases hlt : q < n
    · obtain ⟨b, o, x, rfl, hx, hcx⟩ := RI.at_ H0.out hlt
      rw [marks_get hlt] at hx
      cases hx
      have hb : ((k + (q : Int)) != (k + (q : Int))) = false := by simp
      go_wp2
      go_round
      case rel => exact ⟨q + 1, by go_num, by omega, by go_num⟩
      case measure => simp only [intOf]; omega
    · go_wp2
      go_ret
      exact ⟨ret_int (by omega), rfl⟩
set_option maxRecDepth 100000 in
set_option maxHeartbeats 2000000 in
theorem c_heldPolyS {A : Option Addr} {n c : Nat} {k0 k1 : Int} {w : World} (h0 : Marked w A n k0 k1) (hk : 0 ≤ k0) (hk2 : k0 ≤ 1000000000) :
    Calls Try.prog 39 #[.slice A n c, .int .i64 k0] w fun e w' => e = .returned (.int .i64 k1) ∧ Ext w w' := by
  obtain ⟨hn, h1⟩ := h0
  rcases h1 with ⟨rfl, rfl, rfl⟩ | ⟨g, G, L, C, rfl, rfl, hG⟩
  · go_enter Try.func39, Try.ntmps39
    go_wp2
    go_loopw [1, 5] (fun x i wr => i = .int .i64 0 ∧ x = .int .i64 k1 ∧ wr = w) (fun _ i _ => 0)
    case atStart => exact ⟨rfl, rfl, rfl⟩
    case round =>
      obtain ⟨rfl, rfl, rfl⟩ := hrel
      go_wp2
      go_ret
      exact ⟨rfl, Ext.refl _⟩
  · have HG := Lib.hid hG
    clear hG
    go_enter Try.func39, Try.ntmps39
    go_wp2
    go_loopw [1, 5] (fun x i wr => ∃ q : Nat, i = .int .i64 q ∧ q ≤ n ∧ (∃ y : Int, x = .int .i64 y ∧ Hid (y = kAt k0 L q)) ∧ Ext w wr) (fun _ i _ => n - (intOf i).toNat)
    case atStart => exact ⟨0, rfl, Nat.zero_le _, ⟨k0, rfl, Lib.hid rfl⟩, Ext.refl _⟩
    case round =>
      obtain ⟨q, rfl, hq, ⟨y, rfl, hy⟩, hE⟩ := hrel
      have hybd := kAt_bd hk (fun j hj => (HG.out j hj).2.2.le) q hq
      rw [← hy.out] at hybd
      by_cases hlt : q < n
      · obtain ⟨hc0, hc1, hri⟩ := HG.out q hlt
        rw [← hy.out] at hc0 hri
        have hd0 := Ext.keep hE hc0
        have hd1 := Ext.keep hE hc1
        have hLq := hri.le
        have HR := Lib.hid hri
        have hlt' : (q : Int) < (n : Int) := by omega
        have hq0 : (0 : Int) ≤ (q : Int) := by omega
        have hne : (y != y) = false := by simp
        have hy3 : IntKind.i64.wrap (y + 1) = y + 1 := IntWalk.i64_in _ (by omega)
        have HY := Lib.hid (show y + 1 + L q = kAt k0 L (q + 1) by show _ = kAt k0 L q + 1 + L q; rw [hy.out])
        have hneg : ¬ (y + 1 + (L q : Int) < 0) := by omega
        clear hc0 hc1 hri
        go_wp2_with fail
        (with_reducible refine (c_heldInts (k := y + 1) (RI.ext HR.out hE) (by omega) (by omega)).mono ?_)
        rintro e5 w5 ⟨rfl, rfl⟩
        go_wp2
        go_roundw
        case rel => exact ⟨q + 1, by go_num, by omega, ⟨_, rfl, HY⟩, hE⟩
        case measure => simp only [intOf]; omega
      · go_wp2
        go_ret
        have hqn : q = n := by omega
        subst hqn
        exact ⟨ret_int hy.out, hE⟩

end Go.Proofs.Ytjfoppllenmndaa
