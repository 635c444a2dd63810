/-
  Plain words on memory, over any program: a slice that reads as a list of integers; a slice of the call's own; worlds that have only grown.
-/
import Derived.WalkKit
import Derived.WalkSpells
import Derived.WalkLawsBesides
import Derived.WalkSmall
import Derived.Handy
import Derived.Deep.AppendLies
import Derived.Lib.Hide
import Derived.BigQuiet
import Derived.Deep.QuietTactic
namespace Go.Proofs.Ytempekmenkeigaa
open Go.RowKit
set_option linter.unusedSimpArgs false
set_option linter.unusedVariables false

theorem ret_bool {a b : Bool} (h : a = b) : Ending.returned (.bool a) = .returned (.bool b) := by rw [h]
theorem ret_int {k : IntKind} {a b : Int} (h : a = b) : Ending.returned (.int k a) = .returned (.int k b) := by rw [h]

/-- The slice value '.slice A n _' reads as the integers xs. -/
def RI (w : World) (A : Option Addr) (n : Nat) (xs : List Int) : Prop :=
  (xs.length = n ∧ n ≤ 4194304) ∧ (0 < n → ∃ b o, A = some ⟨b, o, none⟩ ∧ ∀ j x, xs[j]? = some x → w.cell? ⟨b, o + j, none⟩ = some (.int .i64 x))

/-- The same, of whatever length. -/
def RJ (w : World) (A : Option Addr) (n : Nat) (xs : List Int) : Prop :=
  (xs.length = n ∧ n ≤ 9223372036854775807) ∧ (0 < n → ∃ b o, A = some ⟨b, o, none⟩ ∧ ∀ j x, xs[j]? = some x → w.cell? ⟨b, o + j, none⟩ = some (.int .i64 x)) ∧ ∀ x ∈ xs, -9223372036854775808 ≤ x ∧ x ≤ 9223372036854775807
theorem RJ.ri {w : World} {A : Option Addr} {n : Nat} {xs : List Int} (h : RJ w A n xs) (hn : n ≤ 4194304) : RI w A n xs := ⟨⟨h.1.1, hn⟩, h.2.1⟩
theorem RJ.le {w : World} {A : Option Addr} {n : Nat} {xs : List Int} (h : RJ w A n xs) : n ≤ 9223372036854775807 := h.1.2

/-- Only new memory has come. -/
abbrev Ext (w w' : World) : Prop := Below w.heap.size w w'

theorem Ext.refl (w : World) : Ext w w := Below.refl _ _
theorem Ext.trans {a b c : World} (h : Ext a b) (k : Ext b c) : Ext a c := Below.trans h (k.mono h.size)
theorem Ext.alloc {a w : World} (h : Ext a w) (o : Obj) : Ext a (w.alloc o) := Below.alloc h h.size o
theorem Ext.drew {a w : World} (h : Ext a w) : Ext a w.drew := Below.drew h
theorem Ext.drewN {a w : World} (h : Ext a w) (n : Nat) : Ext a (w.drewN n) := below_drewN h n
theorem Ext.keep {w w' : World} (h : Ext w w') {p : Addr} {v : Value} (hc : w.cell? p = some v) : w'.cell? p = some v :=
  (Below.cell h (World.block_lt_of_cell? w p hc)).trans hc
theorem Ext.grown {a w w' : World} (h : Ext a w) {row : Option Nat} (hg : w.grownBy w' row) (hr : ∀ k, row = some k → a.heap.size ≤ k) : Ext a w' := Below.grown h hg h.size hr
theorem Ext.set {a w : World} (h : Ext a w) {p : Addr} (hp : a.heap.size ≤ p.block) (v : Value) : Ext a (w.setCell p v) := Below.setCell h hp v
theorem extX {w w' : World} (h : Ext w w' := by (repeat' (first | (with_reducible exact Ext.refl _) | (with_reducible assumption) | (with_reducible refine Ext.alloc ?_ _) | (with_reducible refine Ext.set ?_ ?_ _) | (with_reducible refine Ext.drewN ?_ _) | (with_reducible refine Ext.drew ?_) | (with_reducible refine Ext.trans ?_ (by with_reducible assumption)) | go_size))) : Ext w w' := h

theorem sz_of {w w1 : World} (h : Ext w w1) : w.heap.size ≤ w1.heap.size := h.size
/-- What a call that has only made memory leaves of what was there, in the walk's own form. -/
theorem bcell {W w1 : World} (hb : Ext W w1) : (∀ b o, b < W.heap.size → w1.cell? ⟨b, o, none⟩ = W.cell? ⟨b, o, none⟩) ∧ (∀ b o, b < W.heap.size → w1.frozen? ⟨b, o, none⟩ = W.frozen? ⟨b, o, none⟩) :=
  ⟨fun b o h => Below.cell (p := ⟨b, o, none⟩) hb h, fun b o h => Below.frozen (p := ⟨b, o, none⟩) hb h⟩

theorem RJ.ext {w w' : World} {A : Option Addr} {n : Nat} {xs : List Int} (h : RJ w A n xs) (k : Ext w w') : RJ w' A n xs :=
  ⟨h.1, fun hn => by
    obtain ⟨b, o, hA, hc⟩ := h.2.1 hn
    exact ⟨b, o, hA, fun j x hx => Ext.keep k (hc j x hx)⟩, h.2.2⟩
theorem RI.nil (w : World) (A : Option Addr) : RI w A 0 [] := ⟨⟨rfl, by omega⟩, fun h => by omega⟩
theorem RI.len {w : World} {A : Option Addr} {n : Nat} {xs : List Int} (h : RI w A n xs) : xs.length = n := h.1.1
theorem RI.le {w : World} {A : Option Addr} {n : Nat} {xs : List Int} (h : RI w A n xs) : n ≤ 4194304 := h.1.2
theorem RI.ext {w w' : World} {A : Option Addr} {n : Nat} {xs : List Int} (h : RI w A n xs) (k : Ext w w') : RI w' A n xs :=
  ⟨h.1, fun hn => by
    obtain ⟨b, o, hA, hc⟩ := h.2 hn
    exact ⟨b, o, hA, fun j x hx => Ext.keep k (hc j x hx)⟩⟩
theorem RI.at_ {w : World} {A : Option Addr} {n k : Nat} {xs : List Int} (h : RI w A n xs) (hk : k < n) :
    ∃ b o x, A = some ⟨b, o, none⟩ ∧ xs[k]? = some x ∧ w.cell? ⟨b, o + k, none⟩ = some (.int .i64 x) := by
  obtain ⟨b, o, hA, hc⟩ := h.2 (by omega)
  have hl : k < xs.length := by rw [h.len]; exact hk
  exact ⟨b, o, xs[k], hA, List.getElem?_eq_getElem hl, hc k _ (List.getElem?_eq_getElem hl)⟩

/-- A slice of integers of the call's own, in a block from B on. -/
def OwI (w : World) (B : Nat) (A : Option Addr) (n c : Nat) (xs : List Int) : Prop := n ≤ 4194304 ∧ w.ownsRow B 2 1 (.slice A n c) n (xs.map (Value.int .i64))

section
variable {w w' : World} {B B' : Nat} {A : Option Addr} {n c : Nat} {xs : List Int}
theorem OwI.len (h : OwI w B A n c xs) : xs.length = n := by
  have := h.2.1; simpa using this
theorem OwI.le (h : OwI w B A n c xs) : n ≤ 4194304 := h.1
theorem OwI.ri (h : OwI w B A n c xs) : RI w A n xs := by
  refine ⟨⟨h.len, h.1⟩, fun hn => ?_⟩
  obtain ⟨g, cap, hv, _, hlt⟩ := World.ownsRow.form h.2 hn
  cases hv
  refine ⟨g, 0, rfl, fun j x hx => ?_⟩
  have hj : j < n := by have := (List.getElem?_eq_some_iff.1 hx).1; rw [h.len] at this; exact this
  have := World.ownsRow.cellAt h.2 j (by omega)
  rw [Nat.zero_add, this]
  simp [hx]
/-- Its block, where it has one. -/
theorem OwI.form (h : OwI w B A n c xs) : (A = none ∧ n = 0 ∧ c = 0) ∨ ∃ g, A = some ⟨g, 0, none⟩ ∧ B ≤ g ∧ g < w.heap.size := by
  rcases h.2.2 with ⟨hv, hn⟩ | ⟨g, cap, cur, hv, hg, hh, _⟩
  · cases hv; exact .inl ⟨rfl, rfl, rfl⟩
  · cases hv; exact .inr ⟨g, rfl, hg, (Array.getElem?_eq_some_iff.1 hh).1⟩
theorem OwI.heap (h : OwI w B A n c xs) (hk : ∀ g, A = some ⟨g, 0, none⟩ → w'.heap[g]? = w.heap[g]?) : OwI w' B A n c xs := by
  refine ⟨h.1, h.2.1, ?_⟩
  rcases h.2.2 with h2 | ⟨g, cap, cur, hv, hg, hh, r⟩
  · exact .inl h2
  · have hA : A = some ⟨g, 0, none⟩ := by cases hv; rfl
    exact .inr ⟨g, cap, cur, hv, hg, by rw [hk g hA]; exact hh, r⟩
theorem OwI.lower (h : OwI w B A n c xs) (hB : B' ≤ B) : OwI w B' A n c xs := by
  refine ⟨h.1, h.2.1, ?_⟩
  rcases h.2.2 with h2 | ⟨g, cap, cur, hv, hg, r⟩
  · exact .inl h2
  · exact .inr ⟨g, cap, cur, hv, by omega, r⟩
theorem OwI.ext (h : OwI w B A n c xs) (k : Ext w w') : OwI w' B A n c xs := by
  refine h.heap fun g hg => ?_
  rcases h.form with ⟨h0, _⟩ | ⟨g', hA, _, hlt⟩
  · rw [h0] at hg; cases hg
  · rw [hA] at hg; cases hg; exact k.block g hlt
theorem OwI.drewN (h : OwI w B A n c xs) (k : Nat) : OwI (w.drewN k) B A n c xs := h
/-- Its block lies between where it began and where memory ends. -/
theorem OwI.bd (h : OwI w B A n c xs) : ∀ g o s, A = some ⟨g, o, s⟩ → B ≤ g ∧ g < w.heap.size := by
  intro g o s hA
  rcases h.form with ⟨h0, _⟩ | ⟨g', hA', hlo, hlt⟩
  · rw [h0] at hA; cases hA
  · rw [hA'] at hA; cases hA; exact ⟨hlo, hlt⟩
theorem OwI.setFar (h : OwI w B A n c xs) {p : Addr} (v : Value) (hp : ∀ g o s, A = some ⟨g, o, s⟩ → g ≠ p.block) : OwI (w.setCell p v) B A n c xs := by
  refine h.heap fun g hg => ?_
  rw [Below.heap_setCell _ _ _ _ (hp _ _ _ hg)]
theorem far_lt {lo hi : Nat} {p : Addr} (h : ∀ g o s, A = some ⟨g, o, s⟩ → lo ≤ g ∧ g < hi) (hp : p.block < lo ∨ hi ≤ p.block) : ∀ g o s, A = some ⟨g, o, s⟩ → g ≠ p.block := by
  intro g o s hA; have := h g o s hA; omega
theorem OwI.alloc (h : OwI w B A n c xs) (o : Obj) : OwI (w.alloc o) B A n c xs := h.ext (Ext.alloc (Ext.refl _) o)
/-- One element of it. -/
theorem OwI.at_ {g k : Nat} (h : OwI w B (some ⟨g, 0, none⟩) n c xs) (hk : k < n) : ∃ x, xs[k]? = some x ∧ w.cell? ⟨g, k, none⟩ = some (.int .i64 x) ∧ w.frozen? ⟨g, k, none⟩ = false := by
  have hl : k < xs.length := by rw [h.len]; exact hk
  refine ⟨xs[k], List.getElem?_eq_getElem hl, ?_, World.ownsRow.frozenAt h.2 k⟩
  rw [World.ownsRow.cellAt h.2 k (by omega)]
  simp [hl]
theorem OwI.set {g : Nat} (h : OwI w B (some ⟨g, 0, none⟩) n c xs) (k : Nat) (y : Int) : OwI (w.setCell ⟨g, k, none⟩ (.int .i64 y)) B (some ⟨g, 0, none⟩) n c (xs.set k y) := by
  have := (World.ownsRow.stored h.2 k (.int .i64 y)).1
  exact ⟨h.1, by simpa [List.map_set] using this⟩
theorem OwI.made (h : w.ownsRow B 2 1 (.slice A n c) n (xs.map (Value.int .i64))) (hn : n ≤ 4194304) : OwI w B A n c xs := ⟨hn, h⟩
end

/-- A value that reads as a list of integers. -/
def RdI (w : World) (v : Value) (xs : List Int) : Prop := ∃ A n c, v = .slice A n c ∧ RI w A n xs
theorem RdI.mk {w : World} {A : Option Addr} {n c : Nat} {xs : List Int} (h : RI w A n xs) : RdI w (.slice A n c) xs := ⟨A, n, c, rfl, h⟩
theorem RdI.ext {w w' : World} {v : Value} {xs : List Int} (h : RdI w v xs) (k : Ext w w') : RdI w' v xs := by
  obtain ⟨A, n, c, e, h1⟩ := h; exact ⟨A, n, c, e, h1.ext k⟩
/-- The same, of whatever length. -/
def RawI (w : World) (v : Value) (xs : List Int) : Prop := ∃ A n c, v = .slice A n c ∧ RJ w A n xs
theorem RawI.mk {w : World} {A : Option Addr} {n c : Nat} {xs : List Int} (h : RJ w A n xs) : RawI w (.slice A n c) xs := ⟨A, n, c, rfl, h⟩
theorem RawI.rd {w : World} {v : Value} {xs : List Int} (h : RawI w v xs) (hn : xs.length ≤ 4194304) : RdI w v xs := by
  obtain ⟨A, n, c, e, h1⟩ := h; exact ⟨A, n, c, e, h1.ri (by rw [← h1.1.1]; exact hn)⟩
/-- A number that came in. -/
def RawN (w : World) (v : Value) (x : Int) : Prop := v = .int .i64 x ∧ -9223372036854775808 ≤ x ∧ x ≤ 9223372036854775807
/-- A list of integers of the call's own. -/
def NewI (w : World) (xs : List Int) (e : Ending) (w' : World) : Prop := ∃ A n c, e = .returned (.slice A n c) ∧ OwI w' w.heap.size A n c xs ∧ Ext w w'
theorem NewI.out {w w' : World} {xs : List Int} {e : Ending} (h : NewI w xs e w') : ∃ v, e = .returned v ∧ RdI w' v xs ∧ Ext w w' := by
  obtain ⟨A, n, c, e, h1, h2⟩ := h; exact ⟨_, e, RdI.mk h1.ri, h2⟩

theorem madeInts (n : Nat) : (madeCells #[Value.int .i64 0] n).toList = (List.replicate n (0 : Int)).map (Value.int .i64) := by
  apply List.ext_getElem?
  intro j
  simp only [madeCells, Array.toList_map, Array.toList_range, List.getElem?_map, List.getElem?_replicate]
  rcases Nat.lt_or_ge j n with h | h
  · simp [h, Nat.mod_one]
  · simp [Nat.not_lt.2 h]

theorem set_take {xs : List Int} {k n : Nat} {x : Int} (hn : xs.length = n) (hx : xs[k]? = some x) :
    (xs.take k ++ List.replicate (n - k) 0).set k x = xs.take (k + 1) ++ List.replicate (n - (k + 1)) 0 := by
  obtain ⟨hk, rfl⟩ := List.getElem?_eq_some_iff.1 hx
  have e1 : (xs.take k).length = k := by rw [List.length_take, Nat.min_eq_left (by omega)]
  rw [List.set_append_right k _ (by omega), e1, Nat.sub_self]
  obtain ⟨m, hm⟩ : ∃ m, n - k = m + 1 := ⟨n - k - 1, by omega⟩
  rw [hm, List.replicate_succ, List.set_cons_zero, List.take_succ_eq_append_getElem hk, show n - (k + 1) = m from by omega, List.append_assoc, List.singleton_append]

theorem beq_of_get {xs ys : List Int} (hl : xs.length = ys.length) (h : ∀ j, j < xs.length → xs[j]? = ys[j]?) : (xs == ys) = true := by
  simp
  apply List.ext_getElem?
  intro j
  rcases Nat.lt_or_ge j xs.length with hj | hj
  · exact h j hj
  · rw [List.getElem?_eq_none hj, List.getElem?_eq_none (by omega)]
theorem beq_false_len {xs ys : List Int} (hl : xs.length ≠ ys.length) : (xs == ys) = false := by
  simp; rintro rfl; exact hl rfl
theorem beq_false_get {xs ys : List Int} {k : Nat} {x y : Int} (hx : xs[k]? = some x) (hy : ys[k]? = some y) (h : x ≠ y) : (xs == ys) = false := by
  simp; rintro rfl; rw [hx] at hy; cases hy; exact h rfl

end Go.Proofs.Ytempekmenkeigaa
