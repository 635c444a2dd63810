import Derived.Test.YtafjlimmahcpmaaSig
import Derived.Test.YtafjlimmahcpmaaMPoly
import Derived.StillTailTactics
-- rd: RdPl
namespace Go.Proofs.Ytafjlimmahcpmaa
open Go.RowKit
set_option linter.unusedSimpArgs false
set_option linter.unusedVariables false

/-- The slice value '.slice A n _' reads as the polynomials ps. -/
def RP (w : World) (A : Option Addr) (n : Nat) (ps : List Pl) : Prop :=
  (ps.length = n ∧ n ≤ 4194304) ∧ (0 < n → ∃ b o, A = some ⟨b, o, none⟩ ∧ ∀ j p, ps[j]? = some p → w.cell? ⟨b, o + j * 2, none⟩ = some (.int .i64 p.c) ∧ ∃ A' m' c', w.cell? ⟨b, o + j * 2 + 1, none⟩ = some (.slice A' m' c') ∧ RI w A' m' p.cf)
/-- The same, of whatever length. -/
def RPJ (w : World) (A : Option Addr) (n : Nat) (ps : List Pl) : Prop :=
  (ps.length = n ∧ n ≤ 9223372036854775807) ∧ (0 < n → ∃ b o, A = some ⟨b, o, none⟩ ∧ ∀ j p, ps[j]? = some p → w.cell? ⟨b, o + j * 2, none⟩ = some (.int .i64 p.c) ∧ ∃ A' m' c', w.cell? ⟨b, o + j * 2 + 1, none⟩ = some (.slice A' m' c') ∧ RJ w A' m' p.cf)
section
variable {w w' : World} {A : Option Addr} {n k : Nat} {ps : List Pl}
theorem RP.len (h : RP w A n ps) : ps.length = n := h.1.1
theorem RP.le (h : RP w A n ps) : n ≤ 4194304 := h.1.2
theorem RP.ext (h : RP w A n ps) (k : Ext w w') : RP w' A n ps :=
  ⟨h.1, fun hn => by
    obtain ⟨b, o, hA, hc⟩ := h.2 hn
    refine ⟨b, o, hA, fun j x hx => ?_⟩
    obtain ⟨h1, A', m', c', h2, h3⟩ := hc j x hx
    exact ⟨Ext.keep k h1, A', m', c', Ext.keep k h2, h3.ext k⟩⟩
theorem RP.at_ (h : RP w A n ps) (hk : k < n) : ∃ b o p A' m' c', A = some ⟨b, o, none⟩ ∧ ps[k]? = some p ∧ w.cell? ⟨b, o + k * 2, none⟩ = some (.int .i64 p.c) ∧ w.cell? ⟨b, o + k * 2 + 1, none⟩ = some (.slice A' m' c') ∧ RI w A' m' p.cf := by
  obtain ⟨b, o, hA, hc⟩ := h.2 (by omega)
  have hl : k < ps.length := by rw [h.len]; exact hk
  have hx := List.getElem?_eq_getElem hl
  obtain ⟨h1, A', m', c', h2, h3⟩ := hc k _ hx
  exact ⟨b, o, ps[k], A', m', c', hA, hx, h1, h2, h3⟩
theorem RPJ.ext (h : RPJ w A n ps) (k : Ext w w') : RPJ w' A n ps :=
  ⟨h.1, fun hn => by
    obtain ⟨b, o, hA, hc⟩ := h.2 hn
    refine ⟨b, o, hA, fun j x hx => ?_⟩
    obtain ⟨h1, A', m', c', h2, h3⟩ := hc j x hx
    exact ⟨Ext.keep k h1, A', m', c', Ext.keep k h2, h3.ext k⟩⟩
theorem RPJ.at_ (h : RPJ w A n ps) (hk : k < n) : ∃ b o p A' m' c', A = some ⟨b, o, none⟩ ∧ ps[k]? = some p ∧ w.cell? ⟨b, o + k * 2, none⟩ = some (.int .i64 p.c) ∧ w.cell? ⟨b, o + k * 2 + 1, none⟩ = some (.slice A' m' c') ∧ RJ w A' m' p.cf := by
  obtain ⟨b, o, hA, hc⟩ := h.2 (by omega)
  have hl : k < ps.length := by rw [h.1.1]; exact hk
  have hx := List.getElem?_eq_getElem hl
  obtain ⟨h1, A', m', c', h2, h3⟩ := hc k _ hx
  exact ⟨b, o, ps[k], A', m', c', hA, hx, h1, h2, h3⟩
theorem RPJ.rp (h : RPJ w A n ps) (hn : n ≤ 4194304) (hp : ∀ p ∈ ps, p.cf.length ≤ 4194304) : RP w A n ps :=
  ⟨⟨h.1.1, hn⟩, fun h0 => by
    obtain ⟨b, o, hA, hc⟩ := h.2 h0
    refine ⟨b, o, hA, fun j x hx => ?_⟩
    obtain ⟨h1, A', m', c', h2, h3⟩ := hc j x hx
    exact ⟨h1, A', m', c', h2, h3.ri (by rw [← h3.1.1]; exact hp x (List.mem_of_getElem? hx))⟩⟩
end
def RdPs (w : World) (v : Value) (ps : List Pl) : Prop := ∃ A n c, v = .slice A n c ∧ RP w A n ps
theorem RdPs.mk {w : World} {A : Option Addr} {n c : Nat} {ps : List Pl} (h : RP w A n ps) : RdPs w (.slice A n c) ps := ⟨A, n, c, rfl, h⟩
theorem RdPs.ext {w w' : World} {v : Value} {ps : List Pl} (h : RdPs w v ps) (k : Ext w w') : RdPs w' v ps := by
  obtain ⟨A, n, c, e, h1⟩ := h; exact ⟨A, n, c, e, h1.ext k⟩
def RawPs (w : World) (v : Value) (ps : List Pl) : Prop := ∃ A n c, v = .slice A n c ∧ RPJ w A n ps
theorem RawPs.mk {w : World} {A : Option Addr} {n c : Nat} {ps : List Pl} (h : RPJ w A n ps) : RawPs w (.slice A n c) ps := ⟨A, n, c, rfl, h⟩
/-- One polynomial by value. -/
def RdPl (w : World) (v : Value) (p : Pl) : Prop := ∃ A n c, v = .agg #[.int .i64 p.c, .slice A n c] ∧ RI w A n p.cf
theorem RdPl.mk {w : World} {A : Option Addr} {n c : Nat} {p : Pl} (h : RI w A n p.cf) : RdPl w (.agg #[.int .i64 p.c, .slice A n c]) p := ⟨A, n, c, rfl, h⟩
theorem RdPl.ext {w w' : World} {v : Value} {p : Pl} (h : RdPl w v p) (k : Ext w w') : RdPl w' v p := by
  obtain ⟨A, n, c, e, h1⟩ := h; exact ⟨A, n, c, e, h1.ext k⟩

set_option maxHeartbeats 400000 in
theorem c_szPoly {A : Option Addr} {n c : Nat} {p : Pl} {left : Int} {w : World} (h0 : RJ w A n p.cf) (hl : -1 ≤ left) (hl2 : left ≤ 1048576) :
    Calls Try.prog 77 #[.agg #[.int .i64 p.c, .slice A n c], .int .i64 left] w fun e w' => e = .returned (.int .i64 (szI left p.cf.length)) ∧ Ext w w' := by
  have h1 := szI_lo left p.cf.length
  have HJ := Lib.hid h0
  clear h0
  go_enter Try.func77, Try.ntmps77
  go_wp2_with (go_at_call 76; (with_reducible refine (c_szInt64S (xs := p.cf) (by (first | (with_reducible exact RawI.mk (RJ.ext (Hid.out (by with_reducible assumption)) (by (repeat' (first | (with_reducible exact Ext.refl _) | (with_reducible assumption) | (with_reducible refine Ext.alloc ?_ _) | (with_reducible refine Ext.set ?_ ?_ _) | (with_reducible refine Ext.drewN ?_ _) | (with_reducible refine Ext.drew ?_) | (with_reducible refine Ext.trans ?_ (by with_reducible assumption)) | go_size))))))) hl hl2).mono ?_); rintro e w1 ⟨rfl, hE1⟩; have hz1 := sz_of hE1; (try simp only [World.size_alloc, World.size_setCell, World.size_drew] at hz1); obtain ⟨hc1, hf1⟩ := bcell hE1; (try have hq1_0 : w.heap.size < w1.heap.size := by omega); (try have hq1_1 : w.heap.size + 1 < w1.heap.size := by omega); (try have hq1_2 : w.heap.size + 1 + 1 < w1.heap.size := by omega); (try have hq1_3 : w.heap.size + 1 + 1 + 1 < w1.heap.size := by omega); (try have hq1_4 : w.heap.size + 1 + 1 + 1 + 1 < w1.heap.size := by omega); (try have hq1_5 : w.heap.size + 1 + 1 + 1 + 1 + 1 < w1.heap.size := by omega))
  · have h : szI left p.cf.length < 0 := by assumption
    go_ret
    exact ⟨ret_int (by omega), by (repeat' (first | (with_reducible exact Ext.refl _) | (with_reducible assumption) | (with_reducible refine Ext.alloc ?_ _) | (with_reducible refine Ext.set ?_ ?_ _) | (with_reducible refine Ext.drewN ?_ _) | (with_reducible refine Ext.drew ?_) | (with_reducible refine Ext.trans ?_ (by with_reducible assumption)) | go_size))⟩
  · go_ret
    exact ⟨rfl, by (repeat' (first | (with_reducible exact Ext.refl _) | (with_reducible assumption) | (with_reducible refine Ext.alloc ?_ _) | (with_reducible refine Ext.set ?_ ?_ _) | (with_reducible refine Ext.drewN ?_ _) | (with_reducible refine Ext.drew ?_) | (with_reducible refine Ext.trans ?_ (by with_reducible assumption)) | go_size))⟩
set_option maxHeartbeats 400000 in
theorem c_szPolyS {v : Value} {ps : List Pl} {left : Int} {w : World} (h0 : RawPs w v ps) (hl : -1 ≤ left) (hl2 : left ≤ 1048576) :
    Calls Try.prog 35 #[v, .int .i64 left] w fun e w' => e = .returned (.int .i64 (szPolys left ps)) ∧ Ext w w' := by
  obtain ⟨A, n, c, rfl, ha⟩ := h0
  have hn := ha.1.2
  have hlen := ha.1.1
  have HJ := Lib.hid ha
  have HL := Lib.hid hlen
  clear ha hlen
  by_cases h : left - n < 0
  · go_enter Try.func35, Try.ntmps35
    go_wp2
    go_ret
    exact ⟨ret_int (by unfold szPolys; rw [HL.out, szI_m1 h, szPsF_m1]), by (repeat' (first | (with_reducible exact Ext.refl _) | (with_reducible assumption) | (with_reducible refine Ext.alloc ?_ _) | (with_reducible refine Ext.set ?_ ?_ _) | (with_reducible refine Ext.drewN ?_ _) | (with_reducible refine Ext.drew ?_) | (with_reducible refine Ext.trans ?_ (by with_reducible assumption)) | go_size))⟩
  · have e0 : szPolys left ps = szPsF (left - n) ps := by unfold szPolys; rw [HL.out, szI_sub (by omega)]
    have E0 := Lib.hid e0
    clear e0
    go_enter Try.func35, Try.ntmps35
    go_wp2
    go_loopw [1, 5] (fun x i wr => ∃ k : Nat, i = .int .i64 k ∧ k ≤ n ∧ (∃ y, x = .int .i64 y ∧ Hid (y = szPsF (left - n) (ps.take k)) ∧ 0 ≤ y ∧ y ≤ 1048576) ∧ Ext w wr) (fun _ i _ => n - (intOf i).toNat)
    case atStart => exact ⟨0, rfl, Nat.zero_le _, ⟨_, rfl, rfl, by omega, by omega⟩, by (repeat' (first | (with_reducible exact Ext.refl _) | (with_reducible assumption) | (with_reducible refine Ext.alloc ?_ _) | (with_reducible refine Ext.set ?_ ?_ _) | (with_reducible refine Ext.drewN ?_ _) | (with_reducible refine Ext.drew ?_) | (with_reducible refine Ext.trans ?_ (by with_reducible assumption)) | go_size))⟩
    case round =>
      obtain ⟨k, rfl, hk, ⟨y, rfl, hy, hy0, hy1⟩, hw⟩ := hrel
      by_cases hlt : k < n
      · obtain ⟨b, o, p, A', m', c', rfl, hx, hc1, hc2, hri⟩ := RPJ.at_ (RPJ.ext HJ.out hw) hlt
        have HX := Lib.hid hx
        have HR := Lib.hid hri
        clear hx hri
        have hlt' : (k : Int) < (n : Int) := by omega
        have h1 := szI_bd y p.cf.length ⟨by omega, hy1⟩
        have h2 := h1.1
        have h3 := h1.2
        clear h1
        have e1 : szI y p.cf.length = szPsF (left - n) (ps.take (k + 1)) := by rw [take_snoc HX.out, szPsF_snoc, hy.out]
        have E1 := Lib.hid e1
        clear e1
        go_wp2_with (go_at_call 77; (with_reducible refine (c_szPoly (p := p) (left := y) (RJ.ext HR.out (by (repeat' (first | (with_reducible exact Ext.refl _) | (with_reducible assumption) | (with_reducible refine Ext.alloc ?_ _) | (with_reducible refine Ext.set ?_ ?_ _) | (with_reducible refine Ext.drewN ?_ _) | (with_reducible refine Ext.drew ?_) | (with_reducible refine Ext.trans ?_ (by with_reducible assumption)) | go_size)))) (by omega) hy1).mono ?_); rintro e w2 ⟨rfl, hE2⟩)
        · have hneg : szI y p.cf.length < 0 := by assumption
          go_ret
          exact ⟨ret_int (by rw [E0.out, szPsF_neg (k := k + 1) (by rw [← E1.out]; omega)]), by (repeat' (first | (with_reducible exact Ext.refl _) | (with_reducible assumption) | (with_reducible refine Ext.alloc ?_ _) | (with_reducible refine Ext.set ?_ ?_ _) | (with_reducible refine Ext.drewN ?_ _) | (with_reducible refine Ext.drew ?_) | (with_reducible refine Ext.trans ?_ (by with_reducible assumption)) | go_size))⟩
        · go_roundw
          case rel => exact ⟨k + 1, by go_num, by omega, ⟨_, rfl, E1.out, by assumption, h3⟩, by (repeat' (first | (with_reducible exact Ext.refl _) | (with_reducible assumption) | (with_reducible refine Ext.alloc ?_ _) | (with_reducible refine Ext.set ?_ ?_ _) | (with_reducible refine Ext.drewN ?_ _) | (with_reducible refine Ext.drew ?_) | (with_reducible refine Ext.trans ?_ (by with_reducible assumption)) | go_size))⟩
          case measure => simp [intOf]; omega
      · go_wp2
        go_ret
        exact ⟨ret_int (by rw [hy.out, E0.out, List.take_of_length_le (by rw [HL.out]; omega)]), by (repeat' (first | (with_reducible exact Ext.refl _) | (with_reducible assumption) | (with_reducible refine Ext.alloc ?_ _) | (with_reducible refine Ext.set ?_ ?_ _) | (with_reducible refine Ext.drewN ?_ _) | (with_reducible refine Ext.drew ?_) | (with_reducible refine Ext.trans ?_ (by with_reducible assumption)) | go_size))⟩

/-- Polynomials of the call's own: their row in one block, each one's factors in a block of its own. -/
def OwPG (w : World) (B g : Nat) (cs : Array Value) (k : Nat) (ps : List Pl) (G : Nat → Option Addr) (C : Nat → Nat) : Prop :=
  ∀ j p, j < k → ps[j]? = some p → cs[j * 2]? = some (.int .i64 p.c) ∧ cs[j * 2 + 1]? = some (.slice (G j) p.cf.length (C j)) ∧ OwI w B (G j) p.cf.length (C j) p.cf ∧
    ∀ b o s, G j = some ⟨b, o, s⟩ → b ≠ g ∧ ∀ i, i < k → i ≠ j → ∀ b' o' s', G i = some ⟨b', o', s'⟩ → b ≠ b'
def OwP (w : World) (B : Nat) (A : Option Addr) (n c : Nat) (ps : List Pl) : Prop :=
  (ps.length = n ∧ n ≤ 4194304) ∧ ((A = none ∧ n = 0 ∧ c = 0) ∨ ∃ g cs G C, A = some ⟨g, 0, none⟩ ∧ B ≤ g ∧ w.heap[g]? = some (.cells cs 38 (0, 0)) ∧ n * 2 ≤ cs.size ∧ OwPG w B g cs n ps G C)
theorem OwP.rp {w : World} {B : Nat} {A : Option Addr} {n c : Nat} {ps : List Pl} (h : OwP w B A n c ps) : RP w A n ps := by
  refine ⟨h.1, fun hn => ?_⟩
  rcases h.2 with ⟨_, h0, _⟩ | ⟨g, cs, G, C, hA, _, hh, _, hG⟩
  · omega
  · refine ⟨g, 0, hA, fun j p hp => ?_⟩
    have hj : j < n := by have := (List.getElem?_eq_some_iff.1 hp).1; have := h.1.1; omega
    obtain ⟨h1, h2, h3, _⟩ := hG j p hj hp
    refine ⟨?_, G j, _, C j, ?_, h3.ri⟩
    · rw [Nat.zero_add, cell_of_row w g _ cs _ (0, 0) hh]; exact h1
    · rw [Nat.zero_add, cell_of_row w g _ cs _ (0, 0) hh]; exact h2
def NewPs (w : World) (ps : List Pl) (e : Ending) (w' : World) : Prop := ∃ A n, e = .returned (.slice A n n) ∧ OwP w' w.heap.size A n n ps ∧ Ext w w'
theorem NewPs.out {w w' : World} {ps : List Pl} {e : Ending} (h : NewPs w ps e w') : ∃ v, e = .returned v ∧ RdPs w' v ps ∧ Ext w w' := by
  obtain ⟨A, n, e, h1, h2⟩ := h; exact ⟨_, e, RdPs.mk h1.rp, h2⟩
def NewPl (w : World) (p : Pl) (e : Ending) (w' : World) : Prop := ∃ A n c, e = .returned (.agg #[.int .i64 p.c, .slice A n c]) ∧ OwI w' w.heap.size A n c p.cf ∧ Ext w w'
theorem NewPl.out {w w' : World} {p : Pl} {e : Ending} (h : NewPl w p e w') : ∃ v, e = .returned v ∧ RdPl w' v p ∧ Ext w w' := by
  obtain ⟨A, n, c, e, h1, h2⟩ := h; exact ⟨_, e, RdPl.mk h1.ri, h2⟩

theorem OwPG.step {w0 w w1 : World} {g k : Nat} {cs : Array Value} {ps : List Pl} {G : Nat → Option Addr} {C : Nat → Nat} {p : Pl} {A1 : Option Addr} {n1 c1 : Nat}
    (hh : w.heap[g]? = some (.cells cs 38 (0, 0))) (hG : OwPG w w0.heap.size g cs k ps G C) (hp : ps[k]? = some p) (hsz : k * 2 + 1 < cs.size)
    (hE : Ext w w1) (hO : OwI w1 w.heap.size A1 n1 c1 p.cf) (h0 : w0.heap.size ≤ w.heap.size) :
    ((w1.setCell ⟨g, k * 2, none⟩ (.int .i64 p.c)).setCell ⟨g, k * 2 + 1, none⟩ (.slice A1 n1 c1)).heap[g]? = some (.cells ((cs.setIfInBounds (k * 2) (.int .i64 p.c)).setIfInBounds (k * 2 + 1) (.slice A1 n1 c1)) 38 (0, 0)) ∧
    OwPG ((w1.setCell ⟨g, k * 2, none⟩ (.int .i64 p.c)).setCell ⟨g, k * 2 + 1, none⟩ (.slice A1 n1 c1)) w0.heap.size g ((cs.setIfInBounds (k * 2) (.int .i64 p.c)).setIfInBounds (k * 2 + 1) (.slice A1 n1 c1)) (k + 1) ps
      (fun j => if j = k then A1 else G j) (fun j => if j = k then c1 else C j) := by
  have hg : g < w.heap.size := (Array.getElem?_eq_some_iff.1 hh).1
  have hh1 : w1.heap[g]? = some (.cells cs 38 (0, 0)) := (hE.block g hg).trans hh
  have hn1 := hO.len
  have hbd := hO.bd
  refine ⟨?_, fun j q hj hq => ?_⟩
  · simp [World.setCell, Array.getElem?_modify, hh1]
  · by_cases hjk : j = k
    · subst hjk
      rw [hp] at hq; cases hq
      simp only [if_true]
      refine ⟨?_, ?_, ?_, ?_⟩
      · rw [Array.getElem?_setIfInBounds_ne (by omega), Array.getElem?_setIfInBounds_self_of_lt (by omega)]
      · rw [Array.getElem?_setIfInBounds_self_of_lt (by simpa using hsz), hn1]
      · rw [hn1]
        exact ((hO.lower h0).setFar _ fun b o s e => by have := hbd b o s e; show b ≠ g; omega).setFar _ fun b o s e => by have := hbd b o s e; show b ≠ g; omega
      · intro b o s e
        have h1 := hbd b o s e
        refine ⟨by omega, fun i hi hne b' o' s' e' => ?_⟩
        rw [if_neg hne] at e'
        obtain ⟨hil⟩ : Nonempty (i < ps.length) := ⟨by have := (List.getElem?_eq_some_iff.1 hp).1; omega⟩
        have := (hG i ps[i] (by omega) (List.getElem?_eq_getElem hil)).2.2.1.bd b' o' s' e'
        omega
    · have hj' : j < k := by omega
      obtain ⟨h1, h2, h3, h4⟩ := hG j q hj' hq
      simp only [if_neg hjk]
      refine ⟨?_, ?_, ?_, ?_⟩
      · rw [Array.getElem?_setIfInBounds_ne (by omega), Array.getElem?_setIfInBounds_ne (by omega)]; exact h1
      · rw [Array.getElem?_setIfInBounds_ne (by omega), Array.getElem?_setIfInBounds_ne (by omega)]; exact h2
      · exact ((h3.ext hE).setFar _ fun b o s e => (h4 b o s e).1).setFar _ fun b o s e => (h4 b o s e).1
      · intro b o s e
        refine ⟨(h4 b o s e).1, fun i hi hne b' o' s' e' => ?_⟩
        by_cases hik : i = k
        · subst hik
          simp only [if_true] at e'
          have h5 := hbd b' o' s' e'
          have h6 := h3.bd b o s e
          omega
        · rw [if_neg hik] at e'
          exact (h4 b o s e).2 i (by omega) hne b' o' s' e'

theorem poly_info : (Try.prog.info? 38).map (fun i => (i.zero, i.size, i.bytes)) = some (some (.agg #[.int .i64 0, .slice none 0 0]), 2, 32) := by kernel_rfl
set_option maxHeartbeats 400000 in
theorem c_toPoly {A : Option Addr} {n c : Nat} {p : Pl} {w : World} (h0 : RI w A n p.cf) : Calls Try.prog 78 #[.agg #[.int .i64 p.c, .slice A n c]] w (NewPl w p) := by
  have HA := Lib.hid h0
  clear h0
  go_enter Try.func78, Try.ntmps78
  go_wp2_with (go_at_call 38; (with_reducible refine (c_toInt64S (xs := p.cf) (by (first | (with_reducible exact RdI.mk (RI.ext (Hid.out (by with_reducible assumption)) (by (repeat' (first | (with_reducible exact Ext.refl _) | (with_reducible assumption) | (with_reducible refine Ext.alloc ?_ _) | (with_reducible refine Ext.set ?_ ?_ _) | (with_reducible refine Ext.drewN ?_ _) | (with_reducible refine Ext.drew ?_) | (with_reducible refine Ext.trans ?_ (by with_reducible assumption)) | go_size))))) | (with_reducible exact RdI.ext (by with_reducible assumption) (by (repeat' (first | (with_reducible exact Ext.refl _) | (with_reducible assumption) | (with_reducible refine Ext.alloc ?_ _) | (with_reducible refine Ext.set ?_ ?_ _) | (with_reducible refine Ext.drewN ?_ _) | (with_reducible refine Ext.drew ?_) | (with_reducible refine Ext.trans ?_ (by with_reducible assumption)) | go_size))))))).mono ?_); rintro e w1 ⟨A1, n1, c1, rfl, hO1, hE1⟩; have HA1 := Lib.hid (OwI.bd hO1); have HR1 := Lib.hid (OwI.ri hO1); have HO1 := Lib.hid (OwI.lower (B' := w.heap.size) hO1 (by go_size)); clear hO1; have hz1 := sz_of hE1; (try simp only [World.size_alloc, World.size_setCell, World.size_drew] at hz1); obtain ⟨hc1, hf1⟩ := bcell hE1; (try have hq1_0 : w.heap.size < w1.heap.size := by omega); (try have hq1_1 : w.heap.size + 1 < w1.heap.size := by omega); (try have hq1_2 : w.heap.size + 1 + 1 < w1.heap.size := by omega); (try have hq1_3 : w.heap.size + 1 + 1 + 1 < w1.heap.size := by omega); (try have hq1_4 : w.heap.size + 1 + 1 + 1 + 1 < w1.heap.size := by omega); (try have hq1_5 : w.heap.size + 1 + 1 + 1 + 1 + 1 < w1.heap.size := by omega))
  refine bodyPost_ret (v := .agg #[.int .i64 p.c, .slice A1 n1 c1]) (by simp [results, Try.results78, go_sem, hc1, hq1_0, hq1_1, hq1_2]) rfl ⟨A1, n1, c1, rfl, ?_, ?_⟩
  · (repeat' (first | (with_reducible refine OwI.setFar ?_ _ (far_lt HA1.out ?_)) | (with_reducible refine OwI.alloc ?_ _) | (with_reducible refine OwI.drewN ?_ _) | (with_reducible exact HO1.out) | (with_reducible refine OwI.ext ?_ (by with_reducible assumption)) | (left; go_size) | (right; go_size)))
  · (repeat' (first | (with_reducible exact Ext.refl _) | (with_reducible assumption) | (with_reducible refine Ext.alloc ?_ _) | (with_reducible refine Ext.set ?_ ?_ _) | (with_reducible refine Ext.drewN ?_ _) | (with_reducible refine Ext.drew ?_) | (with_reducible refine Ext.trans ?_ (by with_reducible assumption)) | go_size))
set_option maxHeartbeats 1000000 in
theorem c_toPolyS {v : Value} {ps : List Pl} {w : World} (h0 : RdPs w v ps) : Calls Try.prog 37 #[v] w (NewPs w ps) := by
  obtain ⟨A, n, c, rfl, ha⟩ := h0
  have hn := ha.le
  have HA := Lib.hid ha
  clear ha
  obtain ⟨i0, hi0, hz0, hz1, hz2⟩ := info_parts poly_info
  go_enter Try.func37, Try.ntmps37
  go_wp2_with (at_make; refine wpList_make_full _ rfl _ _ 31 rfl w.heap.size 38 i0 _ 2 Try.underlying31 hi0 hz0 hz1 _ _ _ _ n rfl rfl rfl rfl (by rw [hz2]; omega) (by simp only [maxLen]; omega) (Nat.le_refl _) ?_)
  intro w1 hown hg
  have hE : Ext w w1 := Ext.grown (Ext.refl _) hg (fun k hk => by cases hk)
  obtain ⟨cs, hh, hsz⟩ : ∃ cs, w1.heap[w.heap.size]? = some (.cells cs 38 (0, 0)) ∧ cs.size = n * 2 := by
    rcases hown.2 with ⟨h0, _⟩ | ⟨g, cap, cur, hv, _, hh, _, _, hcs, _⟩
    · cases h0
    · cases hv; exact ⟨cur, hh, hcs⟩
  have hgl : w.heap.size < w1.heap.size := (Array.getElem?_eq_some_iff.1 hh).1
  clear hown
  go_wp2
  go_loopw [4] (fun i wr => ∃ k : Nat, i = .int .i64 k ∧ k ≤ n ∧ Hid (∃ cs G C, wr.heap[w.heap.size]? = some (.cells cs 38 (0, 0)) ∧ cs.size = n * 2 ∧ OwPG wr w.heap.size w.heap.size cs k ps G C) ∧ Ext w wr) (fun i _ => n - (intOf i).toNat)
  case atStart => exact ⟨0, rfl, Nat.zero_le _, ⟨cs, fun _ => none, fun _ => 0, hh, hsz, fun j p hj => by omega⟩, hE⟩
  case round =>
    obtain ⟨k, rfl, hk, hT, hw⟩ := hrel
    obtain ⟨cs2, G, C, hh2, hsz2, hG⟩ := hT.out
    clear hT hh hsz
    have hgl2 : w.heap.size < wr.heap.size := (Array.getElem?_eq_some_iff.1 hh2).1
    by_cases hlt : k < n
    · obtain ⟨b, o, p, A', m', c', rfl, hx, hc1, hc2, hri⟩ := RP.at_ (RP.ext HA.out hw) hlt
      have HX := Lib.hid hx
      have HR := Lib.hid hri
      have HH := Lib.hid hh2
      have HG := Lib.hid hG
      have HS := Lib.hid hsz2
      clear hx hri hh2 hG hsz2
      have hlt' : (k : Int) < (n : Int) := by omega
      go_wp2_with fail
      (with_reducible refine (c_toPoly (p := p) (RI.ext HR.out (by (repeat' (first | (with_reducible exact Ext.refl _) | (with_reducible assumption) | (with_reducible refine Ext.alloc ?_ _) | (with_reducible refine Ext.set ?_ ?_ _) | (with_reducible refine Ext.drewN ?_ _) | (with_reducible refine Ext.drew ?_) | (with_reducible refine Ext.trans ?_ (by with_reducible assumption)) | go_size))))).mono ?_)
      rintro e w2 ⟨A1, n1, c1, rfl, hO, hE2⟩
      have hh3 : w2.heap[w.heap.size]? = some (.cells cs2 38 (0, 0)) := (hE2.block _ hgl2).trans HH.out
      have hs1 : k * 2 + 1 < cs2.size := by have := HS.out; omega
      obtain ⟨z1, ce1⟩ : ∃ z, w2.cell? ⟨w.heap.size, k * 2, none⟩ = some z := ⟨cs2[k * 2]'(by omega), by rw [cell_of_row w2 _ _ cs2 _ (0, 0) hh3]; exact Array.getElem?_eq_getElem _⟩
      obtain ⟨z2, ce2⟩ : ∃ z, w2.cell? ⟨w.heap.size, k * 2 + 1, none⟩ = some z := ⟨cs2[k * 2 + 1]'hs1, by rw [cell_of_row w2 _ _ cs2 _ (0, 0) hh3]; exact Array.getElem?_eq_getElem _⟩
      have fe1 : ∀ i, w2.frozen? ⟨w.heap.size, i, none⟩ = false := fun i => frozen_of_row w2 _ _ cs2 _ hh3
      have hst := OwPG.step (w0 := w) HH.out HG.out HX.out hs1 hE2 hO hw.size
      have HST := Lib.hid hst
      have HSZ := Lib.hid (show ((cs2.setIfInBounds (k * 2) (.int .i64 p.c)).setIfInBounds (k * 2 + 1) (.slice A1 n1 c1)).size = n * 2 by simpa using HS.out)
      clear hst hh3 hs1 hO
      go_wp2
      go_roundw
      case rel => exact ⟨k + 1, by go_num, by omega, ⟨_, _, _, HST.out.1, HSZ.out, HST.out.2⟩, by (repeat' (first | (with_reducible exact Ext.refl _) | (with_reducible assumption) | (with_reducible refine Ext.alloc ?_ _) | (with_reducible refine Ext.set ?_ ?_ _) | (with_reducible refine Ext.drewN ?_ _) | (with_reducible refine Ext.drew ?_) | (with_reducible refine Ext.trans ?_ (by with_reducible assumption)) | go_size))⟩
      case measure => simp [intOf]; omega
    · go_wp2
      go_ret
      have hkn : k = n := by omega
      subst hkn
      exact ⟨_, _, rfl, ⟨⟨HA.out.len, hn⟩, .inr ⟨_, cs2, G, C, rfl, Nat.le_refl _, hh2, by omega, hG⟩⟩, hw⟩

theorem pl_f1 {p q : Pl} (h : (p.c != q.c) = true) : ¬ p = q := by rintro rfl; simp at h
theorem pl_f2 {p q : Pl} (h : (!p.cf == q.cf) = true) : ¬ p = q := by rintro rfl; simp at h
theorem pl_t {p q : Pl} (h1 : (p.c != q.c) = false) (h2 : (!p.cf == q.cf) = false) : p = q := by
  simp at h1 h2; cases p; cases q; simp_all
noncomputable def plEq (p q : Pl) : Bool := @decide (p = q) (Classical.propDecidable _)
theorem plEq_t {p q : Pl} (h : p = q) : plEq p q = true := by simp only [plEq, decide_eq_true_eq]; exact h
theorem plEq_f {p q : Pl} (h : ¬ p = q) : plEq p q = false := by simp only [plEq, decide_eq_false_iff_not]; exact h
set_option maxHeartbeats 400000 in
theorem c_eqPoly {v v' : Value} {p q : Pl} {w : World} (h0 : RdPl w v p) (h1 : RdPl w v' q) :
    Calls Try.prog 39 #[v, v'] w fun e w' => e = .returned (.bool (plEq p q)) ∧ Ext w w' := by
  obtain ⟨A, n, c, rfl, ha⟩ := h0
  obtain ⟨B, m, d, rfl, hb⟩ := h1
  have HA := Lib.hid ha
  have HB := Lib.hid hb
  clear ha hb
  go_enter Try.func39, Try.ntmps39
  go_wp2_with (go_at_call 42; (with_reducible refine (c_eqInt64S (xs := p.cf) (ys := q.cf) (by (first | (with_reducible exact RdI.mk (RI.ext (Hid.out (by with_reducible assumption)) (by (repeat' (first | (with_reducible exact Ext.refl _) | (with_reducible assumption) | (with_reducible refine Ext.alloc ?_ _) | (with_reducible refine Ext.set ?_ ?_ _) | (with_reducible refine Ext.drewN ?_ _) | (with_reducible refine Ext.drew ?_) | (with_reducible refine Ext.trans ?_ (by with_reducible assumption)) | go_size))))) | (with_reducible exact RdI.ext (by with_reducible assumption) (by (repeat' (first | (with_reducible exact Ext.refl _) | (with_reducible assumption) | (with_reducible refine Ext.alloc ?_ _) | (with_reducible refine Ext.set ?_ ?_ _) | (with_reducible refine Ext.drewN ?_ _) | (with_reducible refine Ext.drew ?_) | (with_reducible refine Ext.trans ?_ (by with_reducible assumption)) | go_size)))))) (by (first | (with_reducible exact RdI.mk (RI.ext (Hid.out (by with_reducible assumption)) (by (repeat' (first | (with_reducible exact Ext.refl _) | (with_reducible assumption) | (with_reducible refine Ext.alloc ?_ _) | (with_reducible refine Ext.set ?_ ?_ _) | (with_reducible refine Ext.drewN ?_ _) | (with_reducible refine Ext.drew ?_) | (with_reducible refine Ext.trans ?_ (by with_reducible assumption)) | go_size))))) | (with_reducible exact RdI.ext (by with_reducible assumption) (by (repeat' (first | (with_reducible exact Ext.refl _) | (with_reducible assumption) | (with_reducible refine Ext.alloc ?_ _) | (with_reducible refine Ext.set ?_ ?_ _) | (with_reducible refine Ext.drewN ?_ _) | (with_reducible refine Ext.drew ?_) | (with_reducible refine Ext.trans ?_ (by with_reducible assumption)) | go_size))))))).mono ?_); rintro e w1 ⟨rfl, hE1⟩; have hz1 := sz_of hE1; (try simp only [World.size_alloc, World.size_setCell, World.size_drew] at hz1); obtain ⟨hc1, hf1⟩ := bcell hE1; (try have hq1_0 : w.heap.size < w1.heap.size := by omega); (try have hq1_1 : w.heap.size + 1 < w1.heap.size := by omega); (try have hq1_2 : w.heap.size + 1 + 1 < w1.heap.size := by omega); (try have hq1_3 : w.heap.size + 1 + 1 + 1 < w1.heap.size := by omega); (try have hq1_4 : w.heap.size + 1 + 1 + 1 + 1 < w1.heap.size := by omega); (try have hq1_5 : w.heap.size + 1 + 1 + 1 + 1 + 1 < w1.heap.size := by omega))
  all_goals go_ret
  all_goals refine ⟨ret_bool ?_, by (repeat' (first | (with_reducible exact Ext.refl _) | (with_reducible assumption) | (with_reducible refine Ext.alloc ?_ _) | (with_reducible refine Ext.set ?_ ?_ _) | (with_reducible refine Ext.drewN ?_ _) | (with_reducible refine Ext.drew ?_) | (with_reducible refine Ext.trans ?_ (by with_reducible assumption)) | go_size))⟩
  all_goals first
    | exact (plEq_f (pl_f1 (by with_reducible assumption))).symm
    | exact (plEq_f (pl_f2 (by with_reducible assumption))).symm
    | exact (plEq_t (pl_t (by with_reducible assumption) (by with_reducible assumption))).symm
theorem c_eqPoly_self {v v' : Value} {p : Pl} {w : World} (h0 : RdPl w v p) (h1 : RdPl w v' p) :
    Calls Try.prog 39 #[v, v'] w fun e w' => e = .returned (.bool true) ∧ Ext w w' :=
  (c_eqPoly h0 h1).mono fun _ _ ⟨he, hw⟩ => ⟨he.trans (ret_bool (plEq_t rfl)), hw⟩
set_option maxRecDepth 100000 in
set_option maxHeartbeats 1000000 in
theorem c_eqPolyS_self {v v' : Value} {ps : List Pl} {w : World} (h0 : RdPs w v ps) (h1 : RdPs w v' ps) :
    Calls Try.prog 41 #[v, v'] w fun e w' => e = .returned (.bool true) ∧ Ext w w' := by
  obtain ⟨A, n, c, rfl, ha⟩ := h0
  obtain ⟨B, m, d, rfl, hb⟩ := h1
  have hn := ha.le
  have hmn : m = n := by rw [← ha.len, ← hb.len]
  subst hmn
  have HA := Lib.hid ha
  have HB := Lib.hid hb
  clear ha hb
  have hnn : ((m : Int) != (m : Int)) = false := by simp
  go_enter Try.func41, Try.ntmps41
  go_wp2
  go_loopw [5] (fun i wr => ∃ k : Nat, i = .int .i64 k ∧ k ≤ m ∧ Ext w wr) (fun i _ => m - (intOf i).toNat)
  case atStart => exact ⟨0, rfl, Nat.zero_le _, by (repeat' (first | (with_reducible exact Ext.refl _) | (with_reducible assumption) | (with_reducible refine Ext.alloc ?_ _) | (with_reducible refine Ext.set ?_ ?_ _) | (with_reducible refine Ext.drewN ?_ _) | (with_reducible refine Ext.drew ?_) | (with_reducible refine Ext.trans ?_ (by with_reducible assumption)) | go_size))⟩
  case round =>
    obtain ⟨k, rfl, hk, hw⟩ := hrel
    by_cases hlt : k < m
    · obtain ⟨b, o, p, A', m1, c1, rfl, hx, hc1, hc2, hri⟩ := RP.at_ (RP.ext HA.out hw) hlt
      obtain ⟨b', o', p', A'', m2, c2, rfl, hx', hd1, hd2, hri'⟩ := RP.at_ (RP.ext HB.out hw) hlt
      rw [hx] at hx'; cases hx'
      have HR := Lib.hid hri
      have HR' := Lib.hid hri'
      clear hx hri hri'
      have hlt' : (k : Int) < (m : Int) := by omega
      go_wp2_with fail
      go_still_tail 8, (by kernel_rfl)
      change wpList _ _ _ _ _ wr.drew
      have hE1 : Ext w wr.drew := by (repeat' (first | (with_reducible exact Ext.refl _) | (with_reducible assumption) | (with_reducible refine Ext.alloc ?_ _) | (with_reducible refine Ext.set ?_ ?_ _) | (with_reducible refine Ext.drewN ?_ _) | (with_reducible refine Ext.drew ?_) | (with_reducible refine Ext.trans ?_ (by with_reducible assumption)) | go_size))
      go_wp2_with (go_at_call 39; (with_reducible refine (c_eqPoly_self (p := p) (RdPl.mk (RI.ext HR.out (by (repeat' (first | (with_reducible exact Ext.refl _) | (with_reducible assumption) | (with_reducible refine Ext.alloc ?_ _) | (with_reducible refine Ext.set ?_ ?_ _) | (with_reducible refine Ext.drewN ?_ _) | (with_reducible refine Ext.drew ?_) | (with_reducible refine Ext.trans ?_ (by with_reducible assumption)) | go_size))))) (RdPl.mk (RI.ext HR'.out (by (repeat' (first | (with_reducible exact Ext.refl _) | (with_reducible assumption) | (with_reducible refine Ext.alloc ?_ _) | (with_reducible refine Ext.set ?_ ?_ _) | (with_reducible refine Ext.drewN ?_ _) | (with_reducible refine Ext.drew ?_) | (with_reducible refine Ext.trans ?_ (by with_reducible assumption)) | go_size)))))).mono ?_); rintro e w2 ⟨rfl, hE2⟩)
      go_roundw
      case rel => exact ⟨k + 1, by go_num, by omega, by (repeat' (first | (with_reducible exact Ext.refl _) | (with_reducible assumption) | (with_reducible refine Ext.alloc ?_ _) | (with_reducible refine Ext.set ?_ ?_ _) | (with_reducible refine Ext.drewN ?_ _) | (with_reducible refine Ext.drew ?_) | (with_reducible refine Ext.trans ?_ (by with_reducible assumption)) | go_size))⟩
      case measure => simp [intOf]; omega
    · go_wp2
      go_ret
      exact ⟨rfl, by (repeat' (first | (with_reducible exact Ext.refl _) | (with_reducible assumption) | (with_reducible refine Ext.alloc ?_ _) | (with_reducible refine Ext.set ?_ ?_ _) | (with_reducible refine Ext.drewN ?_ _) | (with_reducible refine Ext.drew ?_) | (with_reducible refine Ext.trans ?_ (by with_reducible assumption)) | go_size))⟩

end Go.Proofs.Ytafjlimmahcpmaa
