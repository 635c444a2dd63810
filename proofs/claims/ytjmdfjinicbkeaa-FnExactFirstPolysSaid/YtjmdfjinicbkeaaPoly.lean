import Derived.Test.YtjmdfjinicbkeaaSig
import Derived.Test.YtjmdfjinicbkeaaMPoly
import Derived.StillTailTactics
-- rd: RdPl
namespace Go.Proofs.Ytjmdfjinicbkeaa
open Go.RowKit
set_option linter.unusedSimpArgs false
set_option linter.unusedVariables false

/-- The slice value '.slice A n _' reads as the polynomials ps. -/
def RP (w : World) (A : Option Addr) (n : Nat) (ps : List Pl) : Prop :=
  (ps.length = n ∧ n ≤ 4194304) ∧ (0 < n → ∃ b o, A = some ⟨b, o, none⟩ ∧ ∀ j p, ps[j]? = some p → w.cell? ⟨b, o + j * 2, none⟩ = some (.int .i64 p.c) ∧ ∃ A' m' c', w.cell? ⟨b, o + j * 2 + 1, none⟩ = some (.slice A' m' c') ∧ RI w A' m' p.cf)
/-- The same, of whatever length. -/
def RPJ (w : World) (A : Option Addr) (n : Nat) (ps : List Pl) : Prop :=
  (ps.length = n ∧ n ≤ 9223372036854775807) ∧ (0 < n → ∃ b o, A = some ⟨b, o, none⟩ ∧ ∀ j p, ps[j]? = some p → w.cell? ⟨b, o + j * 2, none⟩ = some (.int .i64 p.c) ∧ ∃ A' m' c', w.cell? ⟨b, o + j * 2 + 1, none⟩ = some (.slice A' m' c') ∧ RJ w A' m' p.cf)
section
variable {w w' : World} {A : Option Addr} {n k : Nat} {ps : List Pl}
theorem RP.len (h : RP w A n ps) : ps.length = n := h.1.1
theorem RP.le (h : RP w A n ps) : n ≤ 4194304 := h.1.2
theorem RP.ext (h : RP w A n ps) (k : Ext w w') : RP w' A n ps :=
  ⟨h.1, fun hn => by
    obtain ⟨b, o, hA, hc⟩ := h.2 hn
    refine ⟨b, o, hA, fun j x hx => ?_⟩
    obtain ⟨h1, A', m', c', h2, h3⟩ := hc j x hx
    exact ⟨Ext.keep k h1, A', m', c', Ext.keep k h2, h3.ext k⟩⟩
theorem RP.at_ (h : RP w A n ps) (hk : k < n) : ∃ b o p A' m' c', A = some ⟨b, o, none⟩ ∧ ps[k]? = some p ∧ w.cell? ⟨b, o + k * 2, none⟩ = some (.int .i64 p.c) ∧ w.cell? ⟨b, o + k * 2 + 1, none⟩ = some (.slice A' m' c') ∧ RI w A' m' p.cf := by
  obtain ⟨b, o, hA, hc⟩ := h.2 (by omega)
  have hl : k < ps.length := by rw [h.len]; exact hk
  have hx := List.getElem?_eq_getElem hl
  obtain ⟨h1, A', m', c', h2, h3⟩ := hc k _ hx
  exact ⟨b, o, ps[k], A', m', c', hA, hx, h1, h2, h3⟩
theorem RPJ.ext (h : RPJ w A n ps) (k : Ext w w') : RPJ w' A n ps :=
  ⟨h.1, fun hn => by
    obtain ⟨b, o, hA, hc⟩ := h.2 hn
    refine ⟨b, o, hA, fun j x hx => ?_⟩
    obtain ⟨h1, A', m', c', h2, h3⟩ := hc j x hx
    exact ⟨Ext.keep k h1, A', m', c', Ext.keep k h2, h3.ext k⟩⟩
theorem RPJ.at_ (h : RPJ w A n ps) (hk : k < n) : ∃ b o p A' m' c', A = some ⟨b, o, none⟩ ∧ ps[k]? = some p ∧ w.cell? ⟨b, o + k * 2, none⟩ = some (.int .i64 p.c) ∧ w.cell? ⟨b, o + k * 2 + 1, none⟩ = some (.slice A' m' c') ∧ RJ w A' m' p.cf := by
  obtain ⟨b, o, hA, hc⟩ := h.2 (by omega)
  have hl : k < ps.length := by rw [h.1.1]; exact hk
  have hx := List.getElem?_eq_getElem hl
  obtain ⟨h1, A', m', c', h2, h3⟩ := hc k _ hx
  exact ⟨b, o, ps[k], A', m', c', hA, hx, h1, h2, h3⟩
theorem RPJ.rp (h : RPJ w A n ps) (hn : n ≤ 4194304) (hp : ∀ p ∈ ps, p.cf.length ≤ 4194304) : RP w A n ps :=
  ⟨⟨h.1.1, hn⟩, fun h0 => by
    obtain ⟨b, o, hA, hc⟩ := h.2 h0
    refine ⟨b, o, hA, fun j x hx => ?_⟩
    obtain ⟨h1, A', m', c', h2, h3⟩ := hc j x hx
    exact ⟨h1, A', m', c', h2, h3.ri (by rw [← h3.1.1]; exact hp x (List.mem_of_getElem? hx))⟩⟩
end
def RdPs (w : World) (v : Value) (ps : List Pl) : Prop := ∃ A n c, v = .slice A n c ∧ RP w A n ps
theorem RdPs.mk {w : World} {A : Option Addr} {n c : Nat} {ps : List Pl} (h : RP w A n ps) : RdPs w (.slice A n c) ps := ⟨A, n, c, rfl, h⟩
theorem RdPs.ext {w w' : World} {v : Value} {ps : List Pl} (h : RdPs w v ps) (k : Ext w w') : RdPs w' v ps := by
  obtain ⟨A, n, c, e, h1⟩ := h; exact ⟨A, n, c, e, h1.ext k⟩
def RawPs (w : World) (v : Value) (ps : List Pl) : Prop := ∃ A n c, v = .slice A n c ∧ RPJ w A n ps
theorem RawPs.mk {w : World} {A : Option Addr} {n c : Nat} {ps : List Pl} (h : RPJ w A n ps) : RawPs w (.slice A n c) ps := ⟨A, n, c, rfl, h⟩
/-- One polynomial by value. -/
def RdPl (w : World) (v : Value) (p : Pl) : Prop := ∃ A n c, v = .agg #[.int .i64 p.c, .slice A n c] ∧ RI w A n p.cf
theorem RdPl.mk {w : World} {A : Option Addr} {n c : Nat} {p : Pl} (h : RI w A n p.cf) : RdPl w (.agg #[.int .i64 p.c, .slice A n c]) p := ⟨A, n, c, rfl, h⟩
theorem RdPl.ext {w w' : World} {v : Value} {p : Pl} (h : RdPl w v p) (k : Ext w w') : RdPl w' v p := by
  obtain ⟨A, n, c, e, h1⟩ := h; exact ⟨A, n, c, e, h1.ext k⟩


/-- Polynomials of the call's own: their row in one block, each one's factors in a block of its own. -/
def OwPG (w : World) (B g : Nat) (cs : Array Value) (k : Nat) (ps : List Pl) (G : Nat → Option Addr) (C : Nat → Nat) : Prop :=
  ∀ j p, j < k → ps[j]? = some p → cs[j * 2]? = some (.int .i64 p.c) ∧ cs[j * 2 + 1]? = some (.slice (G j) p.cf.length (C j)) ∧ OwI w B (G j) p.cf.length (C j) p.cf ∧
    ∀ b o s, G j = some ⟨b, o, s⟩ → b ≠ g ∧ ∀ i, i < k → i ≠ j → ∀ b' o' s', G i = some ⟨b', o', s'⟩ → b ≠ b'
def OwP (w : World) (B : Nat) (A : Option Addr) (n c : Nat) (ps : List Pl) : Prop :=
  (ps.length = n ∧ n ≤ 4194304) ∧ ((A = none ∧ n = 0 ∧ c = 0) ∨ ∃ g cs G C, A = some ⟨g, 0, none⟩ ∧ B ≤ g ∧ w.heap[g]? = some (.cells cs 90 (0, 0)) ∧ n * 2 ≤ cs.size ∧ OwPG w B g cs n ps G C)
theorem OwP.rp {w : World} {B : Nat} {A : Option Addr} {n c : Nat} {ps : List Pl} (h : OwP w B A n c ps) : RP w A n ps := by
  refine ⟨h.1, fun hn => ?_⟩
  rcases h.2 with ⟨_, h0, _⟩ | ⟨g, cs, G, C, hA, _, hh, _, hG⟩
  · omega
  · refine ⟨g, 0, hA, fun j p hp => ?_⟩
    have hj : j < n := by have := (List.getElem?_eq_some_iff.1 hp).1; have := h.1.1; omega
    obtain ⟨h1, h2, h3, _⟩ := hG j p hj hp
    refine ⟨?_, G j, _, C j, ?_, h3.ri⟩
    · rw [Nat.zero_add, cell_of_row w g _ cs _ (0, 0) hh]; exact h1
    · rw [Nat.zero_add, cell_of_row w g _ cs _ (0, 0) hh]; exact h2
def NewPs (w : World) (ps : List Pl) (e : Ending) (w' : World) : Prop := ∃ A n, e = .returned (.slice A n n) ∧ OwP w' w.heap.size A n n ps ∧ Ext w w'
theorem NewPs.out {w w' : World} {ps : List Pl} {e : Ending} (h : NewPs w ps e w') : ∃ v, e = .returned v ∧ RdPs w' v ps ∧ Ext w w' := by
  obtain ⟨A, n, e, h1, h2⟩ := h; exact ⟨_, e, RdPs.mk h1.rp, h2⟩
def NewPl (w : World) (p : Pl) (e : Ending) (w' : World) : Prop := ∃ A n c, e = .returned (.agg #[.int .i64 p.c, .slice A n c]) ∧ OwI w' w.heap.size A n c p.cf ∧ Ext w w'
theorem NewPl.out {w w' : World} {p : Pl} {e : Ending} (h : NewPl w p e w') : ∃ v, e = .returned v ∧ RdPl w' v p ∧ Ext w w' := by
  obtain ⟨A, n, c, e, h1, h2⟩ := h; exact ⟨_, e, RdPl.mk h1.ri, h2⟩

theorem OwPG.step {w0 w w1 : World} {g k : Nat} {cs : Array Value} {ps : List Pl} {G : Nat → Option Addr} {C : Nat → Nat} {p : Pl} {A1 : Option Addr} {n1 c1 : Nat}
    (hh : w.heap[g]? = some (.cells cs 90 (0, 0))) (hG : OwPG w w0.heap.size g cs k ps G C) (hp : ps[k]? = some p) (hsz : k * 2 + 1 < cs.size)
    (hE : Ext w w1) (hO : OwI w1 w.heap.size A1 n1 c1 p.cf) (h0 : w0.heap.size ≤ w.heap.size) :
    ((w1.setCell ⟨g, k * 2, none⟩ (.int .i64 p.c)).setCell ⟨g, k * 2 + 1, none⟩ (.slice A1 n1 c1)).heap[g]? = some (.cells ((cs.setIfInBounds (k * 2) (.int .i64 p.c)).setIfInBounds (k * 2 + 1) (.slice A1 n1 c1)) 90 (0, 0)) ∧
    OwPG ((w1.setCell ⟨g, k * 2, none⟩ (.int .i64 p.c)).setCell ⟨g, k * 2 + 1, none⟩ (.slice A1 n1 c1)) w0.heap.size g ((cs.setIfInBounds (k * 2) (.int .i64 p.c)).setIfInBounds (k * 2 + 1) (.slice A1 n1 c1)) (k + 1) ps
      (fun j => if j = k then A1 else G j) (fun j => if j = k then c1 else C j) := by
  have hg : g < w.heap.size := (Array.getElem?_eq_some_iff.1 hh).1
  have hh1 : w1.heap[g]? = some (.cells cs 90 (0, 0)) := (hE.block g hg).trans hh
  have hn1 := hO.len
  have hbd := hO.bd
  refine ⟨?_, fun j q hj hq => ?_⟩
  · simp [World.setCell, Array.getElem?_modify, hh1]
  · by_cases hjk : j = k
    · subst hjk
      rw [hp] at hq; cases hq
      simp only [if_true]
      refine ⟨?_, ?_, ?_, ?_⟩
      · rw [Array.getElem?_setIfInBounds_ne (by omega), Array.getElem?_setIfInBounds_self_of_lt (by omega)]
      · rw [Array.getElem?_setIfInBounds_self_of_lt (by simpa using hsz), hn1]
      · rw [hn1]
        exact ((hO.lower h0).setFar _ fun b o s e => by have := hbd b o s e; show b ≠ g; omega).setFar _ fun b o s e => by have := hbd b o s e; show b ≠ g; omega
      · intro b o s e
        have h1 := hbd b o s e
        refine ⟨by omega, fun i hi hne b' o' s' e' => ?_⟩
        rw [if_neg hne] at e'
        obtain ⟨hil⟩ : Nonempty (i < ps.length) := ⟨by have := (List.getElem?_eq_some_iff.1 hp).1; omega⟩
        have := (hG i ps[i] (by omega) (List.getElem?_eq_getElem hil)).2.2.1.bd b' o' s' e'
        omega
    · have hj' : j < k := by omega
      obtain ⟨h1, h2, h3, h4⟩ := hG j q hj' hq
      simp only [if_neg hjk]
      refine ⟨?_, ?_, ?_, ?_⟩
      · rw [Array.getElem?_setIfInBounds_ne (by omega), Array.getElem?_setIfInBounds_ne (by omega)]; exact h1
      · rw [Array.getElem?_setIfInBounds_ne (by omega), Array.getElem?_setIfInBounds_ne (by omega)]; exact h2
      · exact ((h3.ext hE).setFar _ fun b o s e => (h4 b o s e).1).setFar _ fun b o s e => (h4 b o s e).1
      · intro b o s e
        refine ⟨(h4 b o s e).1, fun i hi hne b' o' s' e' => ?_⟩
        by_cases hik : i = k
        · subst hik
          simp only [if_true] at e'
          have h5 := hbd b' o' s' e'
          have h6 := h3.bd b o s e
          omega
        · rw [if_neg hik] at e'
          exact (h4 b o s e).2 i (by omega) hne b' o' s' e'


theorem pl_f1 {p q : Pl} (h : (p.c != q.c) = true) : ¬ p = q := by rintro rfl; simp at h
theorem pl_f2 {p q : Pl} (h : (!p.cf == q.cf) = true) : ¬ p = q := by rintro rfl; simp at h
theorem pl_t {p q : Pl} (h1 : (p.c != q.c) = false) (h2 : (!p.cf == q.cf) = false) : p = q := by
  simp at h1 h2; cases p; cases q; simp_all
noncomputable def plEq (p q : Pl) : Bool := @decide (p = q) (Classical.propDecidable _)
theorem plEq_t {p q : Pl} (h : p = q) : plEq p q = true := by simp only [plEq, decide_eq_true_eq]; exact h
theorem plEq_f {p q : Pl} (h : ¬ p = q) : plEq p q = false := by simp only [plEq, decide_eq_false_iff_not]; exact h
set_option maxHeartbeats 400000 in
theorem c_eqPoly {v v' : Value} {p q : Pl} {w : World} (h0 : RdPl w v p) (h1 : RdPl w v' q) :
    Calls Try.prog 63 #[v, v'] w fun e w' => e = .returned (.bool (plEq p q)) ∧ Ext w w' := by
  obtain ⟨A, n, c, rfl, ha⟩ := h0
  obtain ⟨B, m, d, rfl, hb⟩ := h1
  have HA := Lib.hid ha
  have HB := Lib.hid hb
  clear ha hb
  go_enter Try.func63, Try.ntmps63
  go_wp2_with (go_at_call 12; (with_reducible refine (c_eqInt64S (xs := p.cf) (ys := q.cf) (by (first | (with_reducible exact RdI.mk (RI.ext (Hid.out (by with_reducible assumption)) (by exact extX))) | (with_reducible exact RdI.ext (by with_reducible assumption) (by exact extX)))) (by (first | (with_reducible exact RdI.mk (RI.ext (Hid.out (by with_reducible assumption)) (by exact extX))) | (with_reducible exact RdI.ext (by with_reducible assumption) (by exact extX))))).mono ?_); rintro e w1 ⟨rfl, hE1⟩; have hz1 := sz_of hE1; (try simp only [World.size_alloc, World.size_setCell, World.size_drew] at hz1); obtain ⟨hc1, hf1⟩ := bcell hE1; (try have hq1_0 : w.heap.size < w1.heap.size := by omega); (try have hq1_1 : w.heap.size + 1 < w1.heap.size := by omega); (try have hq1_2 : w.heap.size + 1 + 1 < w1.heap.size := by omega); (try have hq1_3 : w.heap.size + 1 + 1 + 1 < w1.heap.size := by omega); (try have hq1_4 : w.heap.size + 1 + 1 + 1 + 1 < w1.heap.size := by omega); (try have hq1_5 : w.heap.size + 1 + 1 + 1 + 1 + 1 < w1.heap.size := by omega))
  all_goals go_ret
  all_goals refine ⟨ret_bool ?_, by exact extX⟩
  all_goals first
    | exact (plEq_f (pl_f1 (by with_reducible assumption))).symm
    | exact (plEq_f (pl_f2 (by with_reducible assumption))).symm
    | exact (plEq_t (pl_t (by with_reducible assumption) (by with_reducible assumption))).symm
theorem c_eqPoly_self {v v' : Value} {p : Pl} {w : World} (h0 : RdPl w v p) (h1 : RdPl w v' p) :
    Calls Try.prog 63 #[v, v'] w fun e w' => e = .returned (.bool true) ∧ Ext w w' :=
  (c_eqPoly h0 h1).mono fun _ _ ⟨he, hw⟩ => ⟨he.trans (ret_bool (plEq_t rfl)), hw⟩
set_option maxRecDepth 100000 in
set_option maxHeartbeats 1000000 in
theorem c_eqPolyS_self {v v' : Value} {ps : List Pl} {w : World} (h0 : RdPs w v ps) (h1 : RdPs w v' ps) :
    Calls Try.prog 21 #[v, v'] w fun e w' => e = .returned (.bool true) ∧ Ext w w' := by
  obtain ⟨A, n, c, rfl, ha⟩ := h0
  obtain ⟨B, m, d, rfl, hb⟩ := h1
  have hn := ha.le
  have hmn : m = n := by rw [← ha.len, ← hb.len]
  subst hmn
  have HA := Lib.hid ha
  have HB := Lib.hid hb
  clear ha hb
  have hnn : ((m : Int) != (m : Int)) = false := by simp
  go_enter Try.func21, Try.ntmps21
  go_wp2
  go_loopw [5] (fun i wr => ∃ k : Nat, i = .int .i64 k ∧ k ≤ m ∧ Ext w wr) (fun i _ => m - (intOf i).toNat)
  case atStart => exact ⟨0, rfl, Nat.zero_le _, by exact extX⟩
  case round =>
    obtain ⟨k, rfl, hk, hw⟩ := hrel
    by_cases hlt : k < m
    · obtain ⟨b, o, p, A', m1, c1, rfl, hx, hc1, hc2, hri⟩ := RP.at_ (RP.ext HA.out hw) hlt
      obtain ⟨b', o', p', A'', m2, c2, rfl, hx', hd1, hd2, hri'⟩ := RP.at_ (RP.ext HB.out hw) hlt
      rw [hx] at hx'; cases hx'
      have HR := Lib.hid hri
      have HR' := Lib.hid hri'
      clear hx hri hri'
      have hlt' : (k : Int) < (m : Int) := by omega
      go_wp2_with fail
      go_still_tail 8, (by kernel_rfl)
      change wpList _ _ _ _ _ wr.drew
      have hE1 : Ext w wr.drew := by exact extX
      go_wp2_with (go_at_call 63; (with_reducible refine (c_eqPoly_self (p := p) (RdPl.mk (RI.ext HR.out (by exact extX))) (RdPl.mk (RI.ext HR'.out (by exact extX)))).mono ?_); rintro e w2 ⟨rfl, hE2⟩)
      go_roundw
      case rel => exact ⟨k + 1, by go_num, by omega, by exact extX⟩
      case measure => simp [intOf]; omega
    · go_wp2
      go_ret
      exact ⟨rfl, by exact extX⟩

end Go.Proofs.Ytjmdfjinicbkeaa
