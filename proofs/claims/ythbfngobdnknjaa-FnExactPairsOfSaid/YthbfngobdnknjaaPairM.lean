/- Marks of pairs, and that they hold; pairs are compared. -/
import Derived.Test.YthbfngobdnknjaaPairL
import Derived.Test.YthbfngobdnknjaaTurn
-- rd: RdSyK RdDp RdDq
namespace Go.Proofs.Ythbfngobdnknjaa
open Go.RowKit
set_option linter.unusedSimpArgs false
set_option linter.unusedVariables false

theorem OwE.turn {w w' : World} {lo hi B top n c : Nat} {A : Option Addr} {ps : List DepP} (h : OwE w B top A n c ps) (k : Turn lo hi w w') (hd : hi ≤ B) : OwE w' B top A n c ps := by
  obtain ⟨h1, G, C, h2, h3⟩ := h
  refine ⟨h1, G, C, ⟨h2.1, ?_⟩, fun i q hq => ?_⟩
  · rcases h2.2 with h4 | ⟨g, cap, cur, hv, hg, hh, r⟩
    · exact .inl h4
    · exact .inr ⟨g, cap, cur, hv, hg, (k.block g (Array.getElem?_eq_some_iff.1 hh).1 (.inr (by omega))).trans hh, r⟩
  · obtain ⟨⟨k1, k2⟩, k3, k4⟩ := h3 i q hq
    exact ⟨⟨k1.turn k fun b o s e => by have := (k1.bd b o s e).1; omega, k2⟩, k3.turn k fun b o s e => by have := (k3.bd b o s e).1; omega, k4⟩
/-- The first mark of each pair. -/
def kE (k0 : Int) (L : Nat → Nat) : Nat → Int
  | 0 => k0
  | j + 1 => kE k0 L j + L (2 * j) + L (2 * j + 1) + 2
/-- The first mark of each slice. -/
def sE (k0 : Int) (L : Nat → Nat) (p : Nat) : Int := if p % 2 = 0 then kE k0 L (p / 2) else kE k0 L (p / 2) + L (p - 1)
theorem sE_even (k0 : Int) (L : Nat → Nat) (j : Nat) : sE k0 L (2 * j) = kE k0 L j := by
  unfold sE; rw [if_pos (by omega), show 2 * j / 2 = j by omega]
theorem sE_odd (k0 : Int) (L : Nat → Nat) (j : Nat) : sE k0 L (2 * j + 1) = kE k0 L j + L (2 * j) := by
  unfold sE; rw [if_neg (by omega), show (2 * j + 1) / 2 = j by omega, show 2 * j + 1 - 1 = 2 * j by omega]
theorem kE_bd {k0 : Int} {L : Nat → Nat} {n : Nat} (hL : ∀ p, p < 2 * n → L p ≤ 4194304) : ∀ j, j ≤ n → k0 ≤ kE k0 L j ∧ kE k0 L j ≤ k0 + j * 8388610
  | 0, _ => by show k0 ≤ k0 ∧ k0 ≤ _; omega
  | j + 1, h => by
    have h1 := kE_bd (k0 := k0) hL j (by omega)
    have h2 := hL (2 * j) (by omega)
    have h3 := hL (2 * j + 1) (by omega)
    show k0 ≤ kE k0 L j + L (2 * j) + L (2 * j + 1) + 2 ∧ kE k0 L j + L (2 * j) + L (2 * j + 1) + 2 ≤ _
    omega
theorem RI.setFar {w : World} {A : Option Addr} {n : Nat} {xs : List Int} (h : RI w A n xs) {p : Addr} (v : Value) (hp : ∀ g o s, A = some ⟨g, o, s⟩ → g ≠ p.block) : RI (w.setCell p v) A n xs :=
  ⟨h.1, fun hn => by
    obtain ⟨b, o, hB, hc⟩ := h.2 hn
    refine ⟨b, o, hB, fun j x hx => ?_⟩
    rw [World.cell?_setCell_other _ _ _ _ (fun e => hp b o none hB (by first | rw [e] | rw [← e]))]
    exact hc j x hx⟩
/-- The slices lie apart. -/
def ApE (lo hi g : Nat) (G : Nat → Option Addr) (n : Nat) : Prop := ∀ p, p < 2 * n → ∀ b o s, G p = some ⟨b, o, s⟩ → (lo ≤ b ∧ b < hi) ∧ b ≠ g ∧ ∀ i, i < 2 * n → i ≠ p → ∀ b' o' s', G i = some ⟨b', o', s'⟩ → b ≠ b'
/-- The marks under way: P slices and the numbers of Q pairs are done. -/
def StE (w wr : World) (lo hi g : Nat) (G : Nat → Option Addr) (L C : Nat → Nat) (k0 : Int) (n P Q : Nat) : Prop :=
  Turn lo hi w wr ∧ (∃ cs : Array Value, wr.heap[g]? = some (.cells cs 89 (0, 0)) ∧ n * 4 ≤ cs.size ∧ ∀ j, j < n → cs[j * 4]? = some (.slice (G (2 * j)) (L (2 * j)) (C (2 * j))) ∧ cs[j * 4 + 1]? = some (.slice (G (2 * j + 1)) (L (2 * j + 1)) (C (2 * j + 1))) ∧
    (∃ y z : Int, cs[j * 4 + 2]? = some (.int .i64 y) ∧ cs[j * 4 + 3]? = some (.int .i64 z)) ∧ (j < Q → cs[j * 4 + 2]? = some (.int .i64 (kE k0 L j + L (2 * j) + L (2 * j + 1))) ∧ cs[j * 4 + 3]? = some (.int .i64 (kE k0 L j + L (2 * j) + L (2 * j + 1) + 1)))) ∧
  ∀ p, p < 2 * n → (P ≤ p → ∃ xs, OwI wr lo (G p) (L p) (C p) xs) ∧ (p < P → RI wr (G p) (L p) (marks (sE k0 L p) (L p)))
theorem StE.slice {w wr w5 : World} {lo hi g n P Q : Nat} {G : Nat → Option Addr} {L C : Nat → Nat} {k0 : Int} (h : StE w wr lo hi g G L C k0 n P Q) (hP : P < 2 * n) (hA : ApE lo hi g G n) (hO : OnlyA wr w5 (G P)) (hR : RI w5 (G P) (L P) (marks (sE k0 L P) (L P))) : StE w w5 lo hi g G L C k0 n (P + 1) Q := by
  obtain ⟨hT, ⟨cs, hh, hc, hcs⟩, hs⟩ := h
  have hgl : g < wr.heap.size := (Array.getElem?_eq_some_iff.1 hh).1
  refine ⟨hT.trans (Turn.of_only hO fun b o s e => (hA P hP b o s e).1), ⟨cs, ?_, hc, hcs⟩, fun p hp => ⟨fun h1 => ?_, fun h1 => ?_⟩⟩
  · refine (hO.block g hgl fun e => ?_).trans hh
    cases hGq : G P with
    | none => rw [hGq] at e; cases e
    | some a =>
      obtain ⟨b, o, s⟩ := a
      rw [hGq] at e
      have e' : g = b := by simpa using e
      exact (hA P hP b o s hGq).2.1 e'.symm
  · obtain ⟨xs, hx⟩ := (hs p hp).1 (by omega)
    exact ⟨xs, hx.onlyA hO fun b o s b' o' s' e e' => (hA p hp b' o' s' e').2.2 P hP (by omega) b o s e⟩
  · rcases Nat.lt_or_ge p P with h2 | h2
    · exact RI.onlyA ((hs p hp).2 h2) hO fun b o s b' o' s' e e' => (hA p hp b' o' s' e').2.2 P hP (by omega) b o s e
    · obtain rfl : p = P := by omega
      exact hR
theorem StE.num {w wr : World} {lo hi g n P Q : Nat} {G : Nat → Option Addr} {L C : Nat → Nat} {k0 : Int} (h : StE w wr lo hi g G L C k0 n P Q) (hQ : Q < n) (hA : ApE lo hi g G n) (hg : lo ≤ g ∧ g < hi) :
    StE w ((wr.setCell ⟨g, Q * 4 + 2, none⟩ (.int .i64 (kE k0 L Q + L (2 * Q) + L (2 * Q + 1)))).setCell ⟨g, Q * 4 + 3, none⟩ (.int .i64 (kE k0 L Q + L (2 * Q) + L (2 * Q + 1) + 1))) lo hi g G L C k0 n P (Q + 1) := by
  obtain ⟨hT, ⟨cs, hh, hc, hcs⟩, hs⟩ := h
  refine ⟨(hT.trans (Turn.set hg)).trans (Turn.set hg), ⟨(cs.setIfInBounds (Q * 4 + 2) (.int .i64 (kE k0 L Q + L (2 * Q) + L (2 * Q + 1)))).setIfInBounds (Q * 4 + 3) (.int .i64 (kE k0 L Q + L (2 * Q) + L (2 * Q + 1) + 1)), ?_, by simpa using hc, fun j hj => ?_⟩, fun p hp => ⟨fun h1 => ?_, fun h1 => ?_⟩⟩
  · simp [World.setCell, Array.getElem?_modify, hh]
  · obtain ⟨e0, e1, ⟨y, z, e2, e3⟩, e4⟩ := hcs j hj
    refine ⟨?_, ?_, ?_, fun h1 => ?_⟩
    · rw [Array.getElem?_setIfInBounds_ne (by omega), Array.getElem?_setIfInBounds_ne (by omega)]; exact e0
    · rw [Array.getElem?_setIfInBounds_ne (by omega), Array.getElem?_setIfInBounds_ne (by omega)]; exact e1
    · by_cases hjq : j = Q
      · subst hjq
        exact ⟨_, _, by rw [Array.getElem?_setIfInBounds_ne (by omega)]; exact Array.getElem?_setIfInBounds_self_of_lt (by omega), Array.getElem?_setIfInBounds_self_of_lt (by simp; omega)⟩
      · exact ⟨y, z, by rw [Array.getElem?_setIfInBounds_ne (by omega), Array.getElem?_setIfInBounds_ne (by omega)]; exact e2, by rw [Array.getElem?_setIfInBounds_ne (by omega), Array.getElem?_setIfInBounds_ne (by omega)]; exact e3⟩
    · by_cases hjq : j = Q
      · subst hjq
        exact ⟨by rw [Array.getElem?_setIfInBounds_ne (by omega)]; exact Array.getElem?_setIfInBounds_self_of_lt (by omega), Array.getElem?_setIfInBounds_self_of_lt (by simp; omega)⟩
      · obtain ⟨a1, a2⟩ := e4 (by omega)
        exact ⟨by rw [Array.getElem?_setIfInBounds_ne (by omega), Array.getElem?_setIfInBounds_ne (by omega)]; exact a1, by rw [Array.getElem?_setIfInBounds_ne (by omega), Array.getElem?_setIfInBounds_ne (by omega)]; exact a2⟩
  · obtain ⟨xs, hx⟩ := (hs p hp).1 h1
    exact ⟨xs, (hx.setFar _ fun b o s e => (hA p hp b o s e).2.1).setFar _ fun b o s e => (hA p hp b o s e).2.1⟩
  · exact (((hs p hp).2 h1).setFar _ fun b o s e => (hA p hp b o s e).2.1).setFar _ fun b o s e => (hA p hp b o s e).2.1
/-- Marked pairs, as they are read. -/
def MarkedE (w : World) (A : Option Addr) (n : Nat) (k0 k1 : Int) : Prop := n ≤ 4194304 ∧ ((A = none ∧ n = 0 ∧ k1 = k0) ∨ ∃ (g : Nat) (G : Nat → Option Addr) (L C : Nat → Nat), A = some ⟨g, 0, none⟩ ∧ k1 = kE k0 L n ∧
  ∀ j, j < n → w.cell? ⟨g, j * 4, none⟩ = some (.slice (G (2 * j)) (L (2 * j)) (C (2 * j))) ∧ w.cell? ⟨g, j * 4 + 1, none⟩ = some (.slice (G (2 * j + 1)) (L (2 * j + 1)) (C (2 * j + 1))) ∧
    w.cell? ⟨g, j * 4 + 2, none⟩ = some (.int .i64 (kE k0 L j + L (2 * j) + L (2 * j + 1))) ∧ w.cell? ⟨g, j * 4 + 3, none⟩ = some (.int .i64 (kE k0 L j + L (2 * j) + L (2 * j + 1) + 1)) ∧
    RI w (G (2 * j)) (L (2 * j)) (marks (kE k0 L j) (L (2 * j))) ∧ RI w (G (2 * j + 1)) (L (2 * j + 1)) (marks (kE k0 L j + L (2 * j)) (L (2 * j + 1))))
theorem MarkedE.ext {w w' : World} {A : Option Addr} {n : Nat} {k0 k1 : Int} (h : MarkedE w A n k0 k1) (k : Ext w w') : MarkedE w' A n k0 k1 := by
  obtain ⟨hn, h1⟩ := h
  refine ⟨hn, h1.imp id ?_⟩
  rintro ⟨g, G, L, C, hA, hk, h2⟩
  exact ⟨g, G, L, C, hA, hk, fun j hj => by obtain ⟨a, b, c, d, e, f⟩ := h2 j hj; exact ⟨Ext.keep k a, Ext.keep k b, Ext.keep k c, Ext.keep k d, e.ext k, f.ext k⟩⟩
theorem MarkedE.lens {w : World} {G : Nat → Option Addr} {L C : Nat → Nat} {n g : Nat} {k0 : Int} (h2 : ∀ j, j < n → w.cell? ⟨g, j * 4, none⟩ = some (.slice (G (2 * j)) (L (2 * j)) (C (2 * j))) ∧ w.cell? ⟨g, j * 4 + 1, none⟩ = some (.slice (G (2 * j + 1)) (L (2 * j + 1)) (C (2 * j + 1))) ∧
    w.cell? ⟨g, j * 4 + 2, none⟩ = some (.int .i64 (kE k0 L j + L (2 * j) + L (2 * j + 1))) ∧ w.cell? ⟨g, j * 4 + 3, none⟩ = some (.int .i64 (kE k0 L j + L (2 * j) + L (2 * j + 1) + 1)) ∧
    RI w (G (2 * j)) (L (2 * j)) (marks (kE k0 L j) (L (2 * j))) ∧ RI w (G (2 * j + 1)) (L (2 * j + 1)) (marks (kE k0 L j + L (2 * j)) (L (2 * j + 1)))) : ∀ p, p < 2 * n → L p ≤ 4194304 := fun p hp => by
  obtain ⟨_, _, _, _, e, f⟩ := h2 (p / 2) (by omega)
  rcases Nat.mod_two_eq_zero_or_one p with h0 | h0
  · have := e.le; rwa [show 2 * (p / 2) = p by omega] at this
  · have := f.le; rwa [show 2 * (p / 2) + 1 = p by omega] at this
theorem MarkedE.bd {w : World} {A : Option Addr} {n : Nat} {k0 k1 : Int} (h : MarkedE w A n k0 k1) (h0 : 0 ≤ k0) : k0 ≤ k1 ∧ k1 ≤ k0 + n * 8388610 := by
  obtain ⟨hn, ⟨_, _, rfl⟩ | ⟨g, G, L, C, hA, rfl, h2⟩⟩ := h
  · omega
  · exact kE_bd (MarkedE.lens h2) n (Nat.le_refl _)
/-- What marks need of pairs of the call's own. -/
theorem OwE.st {w : World} {B hi n c : Nat} {A : Option Addr} {ps : List DepP} (h : OwE w B hi A n c ps) (hhi : w.heap.size ≤ hi) (k0 : Int) : (A = none ∧ n = 0) ∨ ∃ (g : Nat) (G : Nat → Option Addr) (L C : Nat → Nat), A = some ⟨g, 0, none⟩ ∧ (B ≤ g ∧ g < hi) ∧ ApE B hi g G n ∧ (∀ p, p < 2 * n → L p ≤ 4194304) ∧ StE w w B hi g G L C k0 n 0 0 := by
  obtain ⟨⟨hn, hl, hnc, hc⟩, G, C, ho, hs⟩ := h
  rcases ho.2 with ⟨e, e2⟩ | ⟨g, cap, cur, e, hg, hh, h3, h4, hcs, ht⟩
  · cases e; exact .inl ⟨rfl, e2⟩
  · cases e
    have hgl : g < w.heap.size := (Array.getElem?_eq_some_iff.1 hh).1
    have hrow : (Value.slice (some ⟨g, 0, none⟩) n c).ownBlock = some g := rfl
    have hLp : ∀ p, p < 2 * n → ∃ xs, SlE w B hi (Value.slice (some ⟨g, 0, none⟩) n c).ownBlock G C p xs ∧ (fun p : Nat => if p % 2 = 0 then (ps.getD (p / 2) ⟨[], [], 0, 0⟩).l.length else (ps.getD (p / 2) ⟨[], [], 0, 0⟩).r.length) p = xs.length := fun p hp => by
      have hx : p / 2 < ps.length := by omega
      have hq := hs (p / 2) ps[p / 2] (List.getElem?_eq_getElem hx)
      have hgd : ps.getD (p / 2) ⟨[], [], 0, 0⟩ = ps[p / 2] := by rw [List.getD_eq_getElem?_getD, List.getElem?_eq_getElem hx]; rfl
      rcases Nat.mod_two_eq_zero_or_one p with h0 | h0
      · refine ⟨_, by have := hq.1; rwa [show 2 * (p / 2) = p by omega] at this, ?_⟩
        simp only; rw [if_pos h0, hgd]
      · refine ⟨_, by have := hq.2; rwa [show 2 * (p / 2) + 1 = p by omega] at this, ?_⟩
        simp only; rw [if_neg (by omega), hgd]
    refine .inr ⟨g, G, fun p => if p % 2 = 0 then (ps.getD (p / 2) ⟨[], [], 0, 0⟩).l.length else (ps.getD (p / 2) ⟨[], [], 0, 0⟩).r.length, C, rfl, ⟨hg, by omega⟩, fun p hp b o s e => ?_, fun p hp => ?_, Turn.refl _ _ _, ⟨cur, hh, by rw [hcs]; omega, fun j hj => ?_⟩, fun p hp => ⟨fun _ => ?_, fun h => by omega⟩⟩
    · obtain ⟨xs, ⟨k1, k2⟩, _⟩ := hLp p hp
      have k3 := k2 b o s e
      refine ⟨⟨(k1.bd b o s e).1, k3.1⟩, fun e2 => k3.2.1 (by rw [hrow, e2]), fun i hi1 hi2 b' o' s' e' e2 => ?_⟩
      rcases Nat.lt_or_ge i p with h5 | h5
      · exact k3.2.2 i h5 b' o' s' e' e2.symm
      · obtain ⟨ys, ⟨m1, m2⟩, _⟩ := hLp i hi1
        exact (m2 b' o' s' e').2.2 p (by omega) b o s e e2
    · obtain ⟨xs, ⟨k1, k2⟩, k3⟩ := hLp p hp
      have := k1.le
      omega
    · have hx : j < ps.length := by omega
      have hcell : ∀ o, o < 4 → cur[j * 4 + o]? = (cells4 G C j ps[j])[o]? := fun o h4 => by
        rw [← Array.getElem?_toList]
        have h6 : (cur.toList.take (n * 4))[j * 4 + o]? = cur.toList[j * 4 + o]? := by rw [List.getElem?_take, if_pos (by omega)]
        rw [← h6, ht, cellsE_get G C ps 0 j o ps[j] (List.getElem?_eq_getElem hx) h4, Nat.zero_add]
      have hgd : ps.getD j ⟨[], [], 0, 0⟩ = ps[j] := by rw [List.getD_eq_getElem?_getD, List.getElem?_eq_getElem hx]; rfl
      refine ⟨?_, ?_, ⟨ps[j].rule, ps[j].at_, hcell 2 (by omega), hcell 3 (by omega)⟩, fun h => by omega⟩
      · simp only; rw [if_pos (by omega), show 2 * j / 2 = j by omega, hgd]; exact hcell 0 (by omega)
      · simp only; rw [if_neg (by omega), show (2 * j + 1) / 2 = j by omega, hgd]; exact hcell 1 (by omega)
    · obtain ⟨xs, ⟨k1, k2⟩, k3⟩ := hLp p hp
      exact ⟨xs, by rw [k3]; exact k1⟩
set_option maxRecDepth 100000 in
set_option maxHeartbeats 2000000 in
theorem c_markDepPairS {A : Option Addr} {n c lo hi : Nat} {ps : List DepP} {k0 : Int} {w : World} (h0 : OwE w lo hi A n c ps) (hhi : w.heap.size ≤ hi) (hk : 0 ≤ k0) (hk2 : k0 ≤ 1000000000000) :
    Calls Try.prog 30 #[.slice A n c, .int .i64 k0] w fun e w' => ∃ k1 : Int, e = .returned (.int .i64 k1) ∧ MarkedE w' A n k0 k1 ∧ Turn lo hi w w' := by
  have hn := h0.1.1
  rcases h0.st hhi k0 with ⟨rfl, rfl⟩ | ⟨g, G, L, C, rfl, hg, hAP, hL, hM⟩
  · go_enter Try.func30, Try.ntmps30
    go_wp2
    go_loopw [1, 5] (fun x i wr => i = .int .i64 0 ∧ x = .int .i64 k0 ∧ wr = w) (fun _ i _ => 0)
    case atStart => exact ⟨rfl, rfl, rfl⟩
    case round =>
      obtain ⟨rfl, rfl, rfl⟩ := hrel
      go_wp2
      go_ret
      exact ⟨k0, rfl, ⟨by omega, .inl ⟨rfl, rfl, rfl⟩⟩, Turn.refl _ _ _⟩
  · have HAP := Lib.hid hAP
    have HM := Lib.hid hM
    have HLB := Lib.hid hL
    have HG := Lib.hid hg
    clear hAP hM hL hg h0
    go_enter Try.func30, Try.ntmps30
    go_wp2
    go_loopw [1, 5] (fun x i wr => ∃ q : Nat, i = .int .i64 q ∧ q ≤ n ∧ (∃ y : Int, x = .int .i64 y ∧ Hid (y = kE k0 L q)) ∧ Hid (StE w wr lo hi g G L C k0 n (2 * q) q)) (fun _ i _ => n - (intOf i).toNat)
    case atStart => exact ⟨0, rfl, Nat.zero_le _, ⟨k0, rfl, Lib.hid rfl⟩, HM⟩
    case round =>
      obtain ⟨q, rfl, hq, ⟨y, rfl, hy⟩, hM⟩ := hrel
      have hybd := kE_bd (k0 := k0) HLB.out q hq
      rw [← hy.out] at hybd
      by_cases hlt : q < n
      · have hL1 := HLB.out (2 * q) (by omega)
        have hL2 := HLB.out (2 * q + 1) (by omega)
        obtain ⟨hT, ⟨cs, hh, hc, hcs⟩, hrest⟩ := hM.out
        obtain ⟨e0, e1, ⟨z2, z3, e2, e3⟩, _⟩ := hcs q hlt
        obtain ⟨xs, hO⟩ := (hrest (2 * q) (by omega)).1 (Nat.le_refl _)
        have hc0 : wr.cell? ⟨g, q * 4, none⟩ = some (.slice (G (2 * q)) (L (2 * q)) (C (2 * q))) := by rw [cell_of_row wr g _ cs _ (0, 0) hh]; exact e0
        have hlt' : (q : Int) < (n : Int) := by omega
        have hq0 : (0 : Int) ≤ (q : Int) := by omega
        have hgl : g < wr.heap.size := (Array.getElem?_eq_some_iff.1 hh).1
        have HOQ := Lib.hid hO
        clear hT hh hc hcs hrest hO e0 e1 e2 e3
        go_wp2_with fail
        (with_reducible refine (c_markInts (B := lo) (xs := xs) HOQ.out (by omega) (by omega)).mono ?_)
        rintro e5 w5 ⟨rfl, hR5, hO5⟩
        have HN5 := Lib.hid (hM.out.slice (by omega) HAP.out hO5 (by rw [sE_even, ← hy.out]; exact hR5.ri))
        clear hR5 hO5
        obtain ⟨hT, ⟨cs, hh, hc, hcs⟩, hrest⟩ := HN5.out
        obtain ⟨e0, e1, ⟨z2', z3', e2, e3⟩, _⟩ := hcs q hlt
        obtain ⟨xs6, hO⟩ := (hrest (2 * q + 1) (by omega)).1 (Nat.le_refl _)
        have hd1 : w5.cell? ⟨g, q * 4 + 1, none⟩ = some (.slice (G (2 * q + 1)) (L (2 * q + 1)) (C (2 * q + 1))) := by rw [cell_of_row w5 g _ cs _ (0, 0) hh]; exact e1
        have hgl5 : g < w5.heap.size := (Array.getElem?_eq_some_iff.1 hh).1
        have HOQ6 := Lib.hid hO
        clear hT hh hc hcs hrest hO e0 e1 e2 e3
        go_wp2_with fail
        (with_reducible refine (c_markInts (B := lo) (xs := xs6) HOQ6.out (by omega) (by omega)).mono ?_)
        rintro e6 w6 ⟨rfl, hR6, hO6⟩
        have HN6 := Lib.hid (HN5.out.slice (by omega) HAP.out hO6 (by rw [sE_odd, ← hy.out]; exact hR6.ri))
        clear hR6 hO6
        obtain ⟨hT, ⟨cs, hh, hc, hcs⟩, hrest⟩ := HN6.out
        obtain ⟨e0, e1, ⟨z2', z3', e2, e3⟩, _⟩ := hcs q hlt
        have hd2 : w6.cell? ⟨g, q * 4 + 2, none⟩ = some (.int .i64 z2') := by rw [cell_of_row w6 g _ cs _ (0, 0) hh]; exact e2
        have hd3 : w6.cell? ⟨g, q * 4 + 3, none⟩ = some (.int .i64 z3') := by rw [cell_of_row w6 g _ cs _ (0, 0) hh]; exact e3
        have hdf : ∀ i, w6.frozen? ⟨g, i, none⟩ = false := fun i => frozen_of_row w6 _ _ cs _ hh
        have hgl6 : g < w6.heap.size := (Array.getElem?_eq_some_iff.1 hh).1
        clear hT hh hc hcs hrest e0 e1 e2 e3
        have hw1 : IntKind.i64.wrap (y + (L (2 * q) : Int) + (L (2 * q + 1) : Int) + 1) = y + (L (2 * q) : Int) + (L (2 * q + 1) : Int) + 1 := IntWalk.i64_in _ (by omega)
        have hw2 : IntKind.i64.wrap (y + (L (2 * q) : Int) + (L (2 * q + 1) : Int) + 1 + 1) = y + (L (2 * q) : Int) + (L (2 * q + 1) : Int) + 1 + 1 := IntWalk.i64_in _ (by omega)
        have HY := Lib.hid (show y + (L (2 * q) : Int) + (L (2 * q + 1) : Int) + 1 + 1 = kE k0 L (q + 1) by show _ = kE k0 L q + L (2 * q) + L (2 * q + 1) + 2; rw [hy.out]; omega)
        have HN7 := Lib.hid (HN6.out.num hlt HAP.out HG.out)
        rw [← hy.out] at HN7
        go_wp2_with fail
        go_roundw
        case rel => exact ⟨q + 1, by go_num, by omega, ⟨_, rfl, HY⟩, HN7⟩
        case measure => simp only [intOf]; omega
      · go_wp2
        go_ret
        have hqn : q = n := by omega
        subst hqn
        obtain ⟨hT, ⟨cs, hh, hc, hcs⟩, hrest⟩ := hM.out
        refine ⟨y, rfl, ⟨hn, .inr ⟨g, G, L, C, rfl, hy.out, fun j hj => ?_⟩⟩, hT⟩
        obtain ⟨e0, e1, _, e3⟩ := hcs j hj
        refine ⟨by rw [cell_of_row wr g _ cs _ (0, 0) hh]; exact e0, by rw [cell_of_row wr g _ cs _ (0, 0) hh]; exact e1, by rw [cell_of_row wr g _ cs _ (0, 0) hh]; exact (e3 hj).1, by rw [cell_of_row wr g _ cs _ (0, 0) hh]; exact (e3 hj).2, ?_, ?_⟩
        · have := (hrest (2 * j) (by omega)).2 (by omega); rwa [sE_even] at this
        · have := (hrest (2 * j + 1) (by omega)).2 (by omega); rwa [sE_odd] at this
set_option maxRecDepth 100000 in
set_option maxHeartbeats 2000000 in
theorem c_heldDepPairS {A : Option Addr} {n c : Nat} {k0 k1 : Int} {w : World} (h0 : MarkedE w A n k0 k1) (hk : 0 ≤ k0) (hk2 : k0 ≤ 1000000000) :
    Calls Try.prog 31 #[.slice A n c, .int .i64 k0] w fun e w' => e = .returned (.int .i64 k1) ∧ Ext w w' := by
  obtain ⟨hn, h1⟩ := h0
  rcases h1 with ⟨rfl, rfl, rfl⟩ | ⟨g, G, L, C, rfl, rfl, hG⟩
  · go_enter Try.func31, Try.ntmps31
    go_wp2
    go_loopw [1, 5] (fun x i wr => i = .int .i64 0 ∧ x = .int .i64 k1 ∧ wr = w) (fun _ i _ => 0)
    case atStart => exact ⟨rfl, rfl, rfl⟩
    case round =>
      obtain ⟨rfl, rfl, rfl⟩ := hrel
      go_wp2
      go_ret
      exact ⟨rfl, Ext.refl _⟩
  · have HLB := Lib.hid (MarkedE.lens hG)
    have HG := Lib.hid hG
    clear hG
    go_enter Try.func31, Try.ntmps31
    go_wp2
    go_loopw [1, 5] (fun x i wr => ∃ q : Nat, i = .int .i64 q ∧ q ≤ n ∧ (∃ y : Int, x = .int .i64 y ∧ Hid (y = kE k0 L q)) ∧ Ext w wr) (fun _ i _ => n - (intOf i).toNat)
    case atStart => exact ⟨0, rfl, Nat.zero_le _, ⟨k0, rfl, Lib.hid rfl⟩, Ext.refl _⟩
    case round =>
      obtain ⟨q, rfl, hq, ⟨y, rfl, hy⟩, hE⟩ := hrel
      have hybd := kE_bd (k0 := k0) HLB.out q hq
      rw [← hy.out] at hybd
      by_cases hlt : q < n
      · obtain ⟨hc0, hc1, hc2, hc3, hri, hri2⟩ := HG.out q hlt
        rw [← hy.out] at hc2 hc3 hri hri2
        have hd0 := Ext.keep hE hc0
        have hd1 := Ext.keep hE hc1
        have hd2 := Ext.keep hE hc2
        have hd3 := Ext.keep hE hc3
        have hL1 := hri.le
        have hL2 := hri2.le
        have HR := Lib.hid (RI.ext hri hE)
        have HR2 := Lib.hid (RI.ext hri2 hE)
        have hlt' : (q : Int) < (n : Int) := by omega
        have hq0 : (0 : Int) ≤ (q : Int) := by omega
        have hne : ((y + (L (2 * q) : Int) + (L (2 * q + 1) : Int)) != (y + (L (2 * q) : Int) + (L (2 * q + 1) : Int))) = false := by simp
        have hne2 : ((y + (L (2 * q) : Int) + (L (2 * q + 1) : Int) + 1) != (y + (L (2 * q) : Int) + (L (2 * q + 1) : Int) + 1)) = false := by simp
        have hw1 : IntKind.i64.wrap (y + (L (2 * q) : Int) + (L (2 * q + 1) : Int) + 1) = y + (L (2 * q) : Int) + (L (2 * q + 1) : Int) + 1 := IntWalk.i64_in _ (by omega)
        have hw2 : IntKind.i64.wrap (y + (L (2 * q) : Int) + (L (2 * q + 1) : Int) + 1 + 1) = y + (L (2 * q) : Int) + (L (2 * q + 1) : Int) + 1 + 1 := IntWalk.i64_in _ (by omega)
        have HY := Lib.hid (show y + (L (2 * q) : Int) + (L (2 * q + 1) : Int) + 1 + 1 = kE k0 L (q + 1) by show _ = kE k0 L q + L (2 * q) + L (2 * q + 1) + 2; rw [hy.out]; omega)
        have hneg : ¬ (y + (L (2 * q) : Int) < 0) := by omega
        have hneg2 : ¬ (y + (L (2 * q) : Int) + (L (2 * q + 1) : Int) < 0) := by omega
        clear hc0 hc1 hc2 hc3 hri hri2
        go_wp2_with fail
        (with_reducible refine (c_heldInts (k := y) HR.out (by omega) (by omega)).mono ?_)
        rintro e5 w5 ⟨rfl, rfl⟩
        go_wp2_with fail
        (with_reducible refine (c_heldInts (k := y + (L (2 * q) : Int)) HR2.out (by omega) (by omega)).mono ?_)
        rintro e6 w6 ⟨rfl, rfl⟩
        go_wp2_with fail
        go_roundw
        case rel => exact ⟨q + 1, by go_num, by omega, ⟨_, rfl, HY⟩, hE⟩
        case measure => simp only [intOf]; omega
      · go_wp2
        go_ret
        have hqn : q = n := by omega
        subst hqn
        exact ⟨ret_int hy.out, hE⟩
set_option maxRecDepth 100000 in
set_option maxHeartbeats 1000000 in
theorem c_eqDepPairS_self {A B : Option Addr} {n c m d : Nat} {ps : List DepP} {w : World} (h0 : RE w A n ps) (h1 : RE w B m ps) :
    Calls Try.prog 27 #[.slice A n c, .slice B m d] w fun e w' => e = .returned (.bool true) ∧ Ext w w' := by
  have hn := h0.1.2
  have hmn : m = n := by rw [← h0.1.1, ← h1.1.1]
  subst hmn
  have HA := Lib.hid h0
  have HB := Lib.hid h1
  clear h0 h1
  have hnn : ((m : Int) != (m : Int)) = false := by simp
  go_enter Try.func27, Try.ntmps27
  go_wp2
  go_loopw [5] (fun i wr => ∃ k : Nat, i = .int .i64 k ∧ k ≤ m ∧ Ext w wr) (fun i _ => m - (intOf i).toNat)
  case atStart => exact ⟨0, rfl, Nat.zero_le _, by (repeat' (first | (with_reducible exact Ext.refl _) | (with_reducible assumption) | (with_reducible refine Ext.alloc ?_ _) | (with_reducible refine Ext.set ?_ ?_ _) | (with_reducible refine Ext.drewN ?_ _) | (with_reducible refine Ext.drew ?_) | (with_reducible refine Ext.trans ?_ (by with_reducible assumption)) | go_size))⟩
  case round =>
    obtain ⟨k, rfl, hk, hw⟩ := hrel
    by_cases hlt : k < m
    · obtain ⟨q, b, o, A1, n1, c1, A2, n2, c2, hx, rfl, hc0, hc1, hc2, hc3, _, _, hr1, hr2⟩ := RE.at_ (RE.ext HA.out hw) hlt
      obtain ⟨q', b', o', A1', n1', c1', A2', n2', c2', hx', rfl, hd0, hd1, hd2, hd3, _, _, hs1, hs2⟩ := RE.at_ (RE.ext HB.out hw) hlt
      rw [hx] at hx'; cases hx'
      have HR := Lib.hid (RdDq.mk (p := q) hr1 hr2 (c := c1) (d := c2))
      have HR' := Lib.hid (RdDq.mk (p := q) hs1 hs2 (c := c1') (d := c2'))
      clear hx hr1 hr2 hs1 hs2
      have hlt' : (k : Int) < (m : Int) := by omega
      go_wp2_with fail
      go_still_tail 8, (by kernel_rfl)
      change wpList _ _ _ _ _ wr.drew
      have hE1 : Ext w wr.drew := by (repeat' (first | (with_reducible exact Ext.refl _) | (with_reducible assumption) | (with_reducible refine Ext.alloc ?_ _) | (with_reducible refine Ext.set ?_ ?_ _) | (with_reducible refine Ext.drewN ?_ _) | (with_reducible refine Ext.drew ?_) | (with_reducible refine Ext.trans ?_ (by with_reducible assumption)) | go_size))
      go_wp2_with (go_at_call 71; (with_reducible refine (c_eqDepPair_self (p := q) (RdDq.ext HR.out (by (repeat' (first | (with_reducible exact Ext.refl _) | (with_reducible assumption) | (with_reducible refine Ext.alloc ?_ _) | (with_reducible refine Ext.set ?_ ?_ _) | (with_reducible refine Ext.drewN ?_ _) | (with_reducible refine Ext.drew ?_) | (with_reducible refine Ext.trans ?_ (by with_reducible assumption)) | go_size)))) (RdDq.ext HR'.out (by (repeat' (first | (with_reducible exact Ext.refl _) | (with_reducible assumption) | (with_reducible refine Ext.alloc ?_ _) | (with_reducible refine Ext.set ?_ ?_ _) | (with_reducible refine Ext.drewN ?_ _) | (with_reducible refine Ext.drew ?_) | (with_reducible refine Ext.trans ?_ (by with_reducible assumption)) | go_size))))).mono ?_); rintro e w2 ⟨rfl, hE2⟩)
      go_roundw
      case rel => exact ⟨k + 1, by go_num, by omega, by (repeat' (first | (with_reducible exact Ext.refl _) | (with_reducible assumption) | (with_reducible refine Ext.alloc ?_ _) | (with_reducible refine Ext.set ?_ ?_ _) | (with_reducible refine Ext.drewN ?_ _) | (with_reducible refine Ext.drew ?_) | (with_reducible refine Ext.trans ?_ (by with_reducible assumption)) | go_size))⟩
      case measure => simp [intOf]; omega
    · go_wp2
      go_ret
      exact ⟨rfl, by (repeat' (first | (with_reducible exact Ext.refl _) | (with_reducible assumption) | (with_reducible refine Ext.alloc ?_ _) | (with_reducible refine Ext.set ?_ ?_ _) | (with_reducible refine Ext.drewN ?_ _) | (with_reducible refine Ext.drew ?_) | (with_reducible refine Ext.trans ?_ (by with_reducible assumption)) | go_size))⟩

end Go.Proofs.Ythbfngobdnknjaa
