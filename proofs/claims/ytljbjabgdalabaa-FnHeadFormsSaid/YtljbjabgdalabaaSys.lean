/- Systems of rules in memory. -/
import Derived.Test.YtljbjabgdalabaaArgs
import Derived.Test.YtljbjabgdalabaaMSys
-- rd: RdSyK RawSy
namespace Go.Proofs.Ytljbjabgdalabaa
open Go.RowKit
set_option linter.unusedSimpArgs false
set_option linter.unusedVariables false

/-- A field that holds a list; with k the slice has room for all. -/
def FI (k : Bool) (w : World) (b o : Nat) (xs : List Int) : Prop := ∃ A n c, w.cell? ⟨b, o, none⟩ = some (.slice A n c) ∧ (k = true → n ≤ c ∧ c ≤ 9223372036854775807) ∧ RI w A n xs
def FJ (w : World) (b o : Nat) (xs : List Int) : Prop := ∃ A n c, w.cell? ⟨b, o, none⟩ = some (.slice A n c) ∧ RJ w A n xs
theorem FI.ext {k : Bool} {w w' : World} {b o : Nat} {xs : List Int} (h : FI k w b o xs) (e : Ext w w') : FI k w' b o xs := by
  obtain ⟨A, n, c, h1, h2, h3⟩ := h; exact ⟨A, n, c, Ext.keep e h1, h2, h3.ext e⟩
theorem FJ.ext {w w' : World} {b o : Nat} {xs : List Int} (h : FJ w b o xs) (e : Ext w w') : FJ w' b o xs := by
  obtain ⟨A, n, c, h1, h3⟩ := h; exact ⟨A, n, c, Ext.keep e h1, h3.ext e⟩
/-- A slice of rules. -/
def RR (k : Bool) (w : World) (B : Option Addr) (m : Nat) (rs : List Ru) : Prop :=
  (rs.length = m ∧ m ≤ 4194304) ∧ (0 < m → ∃ b o, B = some ⟨b, o, none⟩ ∧ ∀ (j : Nat) (r : Ru), rs[j]? = some r → FI k w b (o + j * 2) r.l ∧ FI k w b (o + j * 2 + 1) r.r)
def RRJ (w : World) (B : Option Addr) (m : Nat) (rs : List Ru) : Prop :=
  (rs.length = m ∧ m ≤ 9223372036854775807) ∧ (0 < m → ∃ b o, B = some ⟨b, o, none⟩ ∧ ∀ (j : Nat) (r : Ru), rs[j]? = some r → FJ w b (o + j * 2) r.l ∧ FJ w b (o + j * 2 + 1) r.r)
section
variable {k : Bool} {w w' : World} {B : Option Addr} {m j : Nat} {rs : List Ru}
theorem RR.len (h : RR k w B m rs) : rs.length = m := h.1.1
theorem RR.le (h : RR k w B m rs) : m ≤ 4194304 := h.1.2
theorem RR.ext (h : RR k w B m rs) (e : Ext w w') : RR k w' B m rs :=
  ⟨h.1, fun hm => by
    obtain ⟨b, o, hB, hc⟩ := h.2 hm
    exact ⟨b, o, hB, fun j r hr => ⟨(hc j r hr).1.ext e, (hc j r hr).2.ext e⟩⟩⟩
theorem RR.weak (h : RR k w B m rs) : RR false w B m rs :=
  ⟨h.1, fun hm => by
    obtain ⟨b, o, hB, hc⟩ := h.2 hm
    refine ⟨b, o, hB, fun j r hr => ?_⟩
    obtain ⟨⟨A, n, c, h1, h2, h3⟩, ⟨A', n', c', h1', h2', h3'⟩⟩ := hc j r hr
    exact ⟨⟨A, n, c, h1, fun h => (by cases h), h3⟩, ⟨A', n', c', h1', fun h => (by cases h), h3'⟩⟩⟩
theorem RR.at_ (h : RR k w B m rs) (hj : j < m) : ∃ b o r A n c A' n' c', B = some ⟨b, o, none⟩ ∧ rs[j]? = some r ∧ w.cell? ⟨b, o + j * 2, none⟩ = some (.slice A n c) ∧ w.cell? ⟨b, o + j * 2 + 1, none⟩ = some (.slice A' n' c') ∧
    RI w A n r.l ∧ RI w A' n' r.r ∧ (k = true → n ≤ c ∧ c ≤ 9223372036854775807) ∧ (k = true → n' ≤ c' ∧ c' ≤ 9223372036854775807) := by
  obtain ⟨b, o, hB, hc⟩ := h.2 (by omega)
  have hl : j < rs.length := by rw [h.len]; exact hj
  obtain ⟨⟨A, n, c, h1, h2, h3⟩, ⟨A', n', c', h1', h2', h3'⟩⟩ := hc j _ (List.getElem?_eq_getElem hl)
  exact ⟨b, o, rs[j], A, n, c, A', n', c', hB, List.getElem?_eq_getElem hl, h1, h1', h3, h3', h2, h2'⟩
theorem RRJ.ext (h : RRJ w B m rs) (e : Ext w w') : RRJ w' B m rs :=
  ⟨h.1, fun hm => by
    obtain ⟨b, o, hB, hc⟩ := h.2 hm
    exact ⟨b, o, hB, fun j r hr => ⟨(hc j r hr).1.ext e, (hc j r hr).2.ext e⟩⟩⟩
theorem RRJ.at_ (h : RRJ w B m rs) (hj : j < m) : ∃ b o r A n c A' n' c', B = some ⟨b, o, none⟩ ∧ rs[j]? = some r ∧ w.cell? ⟨b, o + j * 2, none⟩ = some (.slice A n c) ∧ w.cell? ⟨b, o + j * 2 + 1, none⟩ = some (.slice A' n' c') ∧
    RJ w A n r.l ∧ RJ w A' n' r.r := by
  obtain ⟨b, o, hB, hc⟩ := h.2 (by omega)
  have hl : j < rs.length := by rw [h.1.1]; exact hj
  obtain ⟨⟨A, n, c, h1, h3⟩, ⟨A', n', c', h1', h3'⟩⟩ := hc j _ (List.getElem?_eq_getElem hl)
  exact ⟨b, o, rs[j], A, n, c, A', n', c', hB, List.getElem?_eq_getElem hl, h1, h1', h3, h3'⟩
theorem RRJ.rr (h : RRJ w B m rs) (hm : m ≤ 4194304) (hp : ∀ r ∈ rs, r.l.length ≤ 4194304 ∧ r.r.length ≤ 4194304) : RR false w B m rs :=
  ⟨⟨h.1.1, hm⟩, fun h0 => by
    obtain ⟨b, o, hB, hc⟩ := h.2 h0
    refine ⟨b, o, hB, fun j r hr => ?_⟩
    obtain ⟨⟨A, n, c, h1, h3⟩, ⟨A', n', c', h1', h3'⟩⟩ := hc j r hr
    have hb := hp r (List.mem_of_getElem? hr)
    exact ⟨⟨A, n, c, h1, fun h => (by cases h), h3.ri (by rw [← h3.1.1]; exact hb.1)⟩, ⟨A', n', c', h1', fun h => (by cases h), h3'.ri (by rw [← h3'.1.1]; exact hb.2)⟩⟩⟩
end
/-- A system; a system whose lists have room for all; a system that came in. -/
def RdSyK (k : Bool) (w : World) (v : Value) (s : Sy) : Prop := ∃ A n c B m d, v = .agg #[.slice A n c, .slice B m d] ∧ RI w A n s.ar ∧ RR k w B m s.rs
abbrev RdSy := RdSyK false
abbrev RdSyC := RdSyK true
theorem RdSyK.ext {k : Bool} {w w' : World} {v : Value} {s : Sy} (h : RdSyK k w v s) (e : Ext w w') : RdSyK k w' v s := by
  obtain ⟨A, n, c, B, m, d, hv, h1, h2⟩ := h; exact ⟨A, n, c, B, m, d, hv, h1.ext e, h2.ext e⟩
theorem RdSyK.weak {k : Bool} {w : World} {v : Value} {s : Sy} (h : RdSyK k w v s) : RdSy w v s := by
  obtain ⟨A, n, c, B, m, d, hv, h1, h2⟩ := h; exact ⟨A, n, c, B, m, d, hv, h1, h2.weak⟩
theorem RdSyK.mk {k : Bool} {w : World} {A B : Option Addr} {n c m d : Nat} {s : Sy} (h1 : RI w A n s.ar) (h2 : RR k w B m s.rs) : RdSyK k w (.agg #[.slice A n c, .slice B m d]) s := ⟨A, n, c, B, m, d, rfl, h1, h2⟩
def RawSy (w : World) (v : Value) (s : Sy) : Prop := ∃ A n c B m d, v = .agg #[.slice A n c, .slice B m d] ∧ RJ w A n s.ar ∧ RRJ w B m s.rs
theorem RawSy.mk {w : World} {A B : Option Addr} {n c m d : Nat} {s : Sy} (h1 : RJ w A n s.ar) (h2 : RRJ w B m s.rs) : RawSy w (.agg #[.slice A n c, .slice B m d]) s := ⟨A, n, c, B, m, d, rfl, h1, h2⟩
/-- One rule by value. -/
def RdRu (k : Bool) (w : World) (v : Value) (r : Ru) : Prop := ∃ A n c A' n' c', v = .agg #[.slice A n c, .slice A' n' c'] ∧ (k = true → n ≤ c ∧ c ≤ 9223372036854775807) ∧ (k = true → n' ≤ c' ∧ c' ≤ 9223372036854775807) ∧ RI w A n r.l ∧ RI w A' n' r.r
theorem RdRu.ext {k : Bool} {w w' : World} {v : Value} {r : Ru} (h : RdRu k w v r) (e : Ext w w') : RdRu k w' v r := by
  obtain ⟨A, n, c, A', n', c', hv, h1, h2, h3, h4⟩ := h; exact ⟨A, n, c, A', n', c', hv, h1, h2, h3.ext e, h4.ext e⟩
def NewSy (w : World) (s : Sy) (e : Ending) (w' : World) : Prop := ∃ A n c B m, e = .returned (.agg #[.slice A n c, .slice B m m]) ∧ RI w' A n s.ar ∧ RR true w' B m s.rs ∧ Ext w w'
theorem NewSy.out {w w' : World} {s : Sy} {e : Ending} (h : NewSy w s e w') : ∃ v, e = .returned v ∧ RdSyC w' v s ∧ Ext w w' := by
  obtain ⟨A, n, c, B, m, e, h1, h2, h3⟩ := h; exact ⟨_, e, RdSyK.mk h1 h2, h3⟩

/-- Rules of the call's own, as far as they are laid. -/
def RowG (w : World) (B g : Nat) (cs : Array Value) (k : Nat) (rs : List Ru) : Prop := ∀ (j : Nat) (r : Ru), j < k → rs[j]? = some r →
  (∃ A n c, cs[j * 2]? = some (.slice A n c) ∧ OwI w B A n c r.l ∧ ∀ b o s, A = some ⟨b, o, s⟩ → b ≠ g) ∧ (∃ A n c, cs[j * 2 + 1]? = some (.slice A n c) ∧ OwI w B A n c r.r ∧ ∀ b o s, A = some ⟨b, o, s⟩ → b ≠ g)
theorem RowG.step {w0 w w1 : World} {g k : Nat} {cs : Array Value} {rs : List Ru} {r : Ru} {A1 A2 : Option Addr} {n1 c1 n2 c2 : Nat}
    (hh : w.heap[g]? = some (.cells cs 78 (0, 0))) (hG : RowG w w0.heap.size g cs k rs) (hr : rs[k]? = some r) (hsz : k * 2 + 1 < cs.size)
    (hE : Ext w w1) (hO : OwI w1 w.heap.size A1 n1 c1 r.l) (hP : OwI w1 w.heap.size A2 n2 c2 r.r) (h0 : w0.heap.size ≤ w.heap.size) :
    ((w1.setCell ⟨g, k * 2, none⟩ (.slice A1 n1 c1)).setCell ⟨g, k * 2 + 1, none⟩ (.slice A2 n2 c2)).heap[g]? = some (.cells ((cs.setIfInBounds (k * 2) (.slice A1 n1 c1)).setIfInBounds (k * 2 + 1) (.slice A2 n2 c2)) 78 (0, 0)) ∧
    RowG ((w1.setCell ⟨g, k * 2, none⟩ (.slice A1 n1 c1)).setCell ⟨g, k * 2 + 1, none⟩ (.slice A2 n2 c2)) w0.heap.size g ((cs.setIfInBounds (k * 2) (.slice A1 n1 c1)).setIfInBounds (k * 2 + 1) (.slice A2 n2 c2)) (k + 1) rs := by
  have hg : g < w.heap.size := (Array.getElem?_eq_some_iff.1 hh).1
  have hh1 : w1.heap[g]? = some (.cells cs 78 (0, 0)) := (hE.block g hg).trans hh
  have hb1 := hO.bd
  have hb2 := hP.bd
  refine ⟨?_, fun j q hj hq => ?_⟩
  · simp [World.setCell, Array.getElem?_modify, hh1]
  · by_cases hjk : j = k
    · subst hjk
      rw [hr] at hq; cases hq
      refine ⟨⟨A1, n1, c1, ?_, ?_, ?_⟩, ⟨A2, n2, c2, ?_, ?_, ?_⟩⟩
      · rw [Array.getElem?_setIfInBounds_ne (by omega), Array.getElem?_setIfInBounds_self_of_lt (by omega)]
      · exact ((hO.lower h0).setFar _ fun b o s e => by have := hb1 b o s e; show b ≠ g; omega).setFar _ fun b o s e => by have := hb1 b o s e; show b ≠ g; omega
      · intro b o s e; have := hb1 b o s e; omega
      · rw [Array.getElem?_setIfInBounds_self_of_lt (by simpa using hsz)]
      · exact ((hP.lower h0).setFar _ fun b o s e => by have := hb2 b o s e; show b ≠ g; omega).setFar _ fun b o s e => by have := hb2 b o s e; show b ≠ g; omega
      · intro b o s e; have := hb2 b o s e; omega
    · obtain ⟨⟨A, n, c, h1, h2, h3⟩, ⟨A', n', c', h1', h2', h3'⟩⟩ := hG j q (by omega) hq
      refine ⟨⟨A, n, c, ?_, ?_, h3⟩, ⟨A', n', c', ?_, ?_, h3'⟩⟩
      · rw [Array.getElem?_setIfInBounds_ne (by omega), Array.getElem?_setIfInBounds_ne (by omega)]; exact h1
      · exact ((h2.ext hE).setFar _ fun b o s e => h3 b o s e).setFar _ fun b o s e => h3 b o s e
      · rw [Array.getElem?_setIfInBounds_ne (by omega), Array.getElem?_setIfInBounds_ne (by omega)]; exact h1'
      · exact ((h2'.ext hE).setFar _ fun b o s e => h3' b o s e).setFar _ fun b o s e => h3' b o s e
theorem RowG.rr {w : World} {B g m : Nat} {cs : Array Value} {rs : List Ru} (hh : w.heap[g]? = some (.cells cs 78 (0, 0))) (h : RowG w B g cs m rs) (hl : rs.length = m) (hm : m ≤ 4194304) : RR true w (some ⟨g, 0, none⟩) m rs := by
  refine ⟨⟨hl, hm⟩, fun _ => ⟨g, 0, rfl, fun j r hr => ?_⟩⟩
  have hj : j < m := by have := (List.getElem?_eq_some_iff.1 hr).1; omega
  obtain ⟨⟨A, n, c, h1, h2, _⟩, ⟨A', n', c', h1', h2', _⟩⟩ := h j r hj hr
  exact ⟨⟨A, n, c, by rw [Nat.zero_add, cell_of_row w g _ cs _ (0, 0) hh]; exact h1, fun _ => h2.cap, h2.ri⟩, ⟨A', n', c', by rw [Nat.zero_add, cell_of_row w g _ cs _ (0, 0) hh]; exact h1', fun _ => h2'.cap, h2'.ri⟩⟩
/-- Rules of the call's own. -/
def OwR (w : World) (lo : Nat) (B : Option Addr) (m : Nat) (rs : List Ru) : Prop :=
  (rs.length = m ∧ m ≤ 4194304) ∧ ∃ g cs, B = some ⟨g, 0, none⟩ ∧ lo ≤ g ∧ w.heap[g]? = some (.cells cs 78 (0, 0)) ∧ RowG w lo g cs m rs
theorem OwR.rr {w : World} {lo m : Nat} {B : Option Addr} {rs : List Ru} (h : OwR w lo B m rs) : RR true w B m rs := by
  obtain ⟨h1, g, cs, rfl, _, hh, hG⟩ := h
  exact RowG.rr hh hG h1.1 h1.2
theorem OwR.setFar {w : World} {lo m : Nat} {B : Option Addr} {rs : List Ru} {p : Addr} (h : OwR w lo B m rs) (v : Value) (hp : p.block < lo) : OwR (w.setCell p v) lo B m rs := by
  obtain ⟨h1, g, cs, rfl, hl, hh, hG⟩ := h
  refine ⟨h1, g, cs, rfl, hl, by rw [Below.heap_setCell _ _ _ _ (by omega)]; exact hh, fun j r hj hr => ?_⟩
  obtain ⟨⟨A, n, c, e1, e2, e3⟩, ⟨A', n', c', e1', e2', e3'⟩⟩ := hG j r hj hr
  exact ⟨⟨A, n, c, e1, e2.setFar _ fun b o s e => by have := (e2.bd b o s e).1; omega, e3⟩, ⟨A', n', c', e1', e2'.setFar _ fun b o s e => by have := (e2'.bd b o s e).1; omega, e3'⟩⟩


end Go.Proofs.Ytljbjabgdalabaa
