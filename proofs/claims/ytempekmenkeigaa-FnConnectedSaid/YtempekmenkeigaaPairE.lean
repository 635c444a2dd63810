/- A growing row of pairs of the call's own. -/
import Derived.Test.YtempekmenkeigaaDepT
import Derived.Test.YtempekmenkeigaaTurn
import Derived.Test.YtempekmenkeigaaCopy
namespace Go.Proofs.Ytempekmenkeigaa
open Go.RowKit
set_option linter.unusedSimpArgs false
set_option linter.unusedVariables false

/-- The cells of a pair whose slices lie at places 2j and 2j + 1. -/
def cells4 (G : Nat → Option Addr) (C : Nat → Nat) (j : Nat) (q : DepP) : List Value := [.slice (G (2 * j)) q.l.length (C (2 * j)), .slice (G (2 * j + 1)) q.r.length (C (2 * j + 1)), .int .i64 q.rule, .int .i64 q.at_]
def cellsE (G : Nat → Option Addr) (C : Nat → Nat) : Nat → List DepP → List Value
  | _, [] => []
  | j, q :: qs => cells4 G C j q ++ cellsE G C (j + 1) qs
theorem cellsE_len (G : Nat → Option Addr) (C : Nat → Nat) : ∀ (qs : List DepP) (j : Nat), (cellsE G C j qs).length = qs.length * 4
  | [], _ => rfl
  | q :: qs, j => by rw [cellsE, List.length_append, cellsE_len G C qs (j + 1), List.length_cons]; simp [cells4]; omega
theorem cellsE_snoc (G : Nat → Option Addr) (C : Nat → Nat) (q : DepP) : ∀ (qs : List DepP) (j : Nat), cellsE G C j (qs ++ [q]) = cellsE G C j qs ++ cells4 G C (j + qs.length) q
  | [], j => by simp [cellsE]
  | p :: qs, j => by rw [List.cons_append, cellsE, cellsE_snoc G C q qs (j + 1), cellsE, List.append_assoc, List.length_cons, show j + 1 + qs.length = j + (qs.length + 1) by omega]
theorem cellsE_get (G : Nat → Option Addr) (C : Nat → Nat) : ∀ (qs : List DepP) (j i o : Nat) (q : DepP), qs[i]? = some q → o < 4 → (cellsE G C j qs)[i * 4 + o]? = (cells4 G C (j + i) q)[o]?
  | [], _, i, _, _, h, _ => by simp at h
  | p :: qs, j, 0, o, q, h, ho => by
    cases h
    rw [cellsE, List.getElem?_append_left (by simp [cells4]; omega)]
    simp
  | p :: qs, j, i + 1, o, q, h, ho => by
    rw [cellsE, List.getElem?_append_right (by simp [cells4]; omega), show (i + 1) * 4 + o - (cells4 G C j p).length = i * 4 + o by simp [cells4]; omega, cellsE_get G C qs (j + 1) i o q (by simpa using h) ho, show j + 1 + i = j + (i + 1) by omega]
theorem cellsE_congr {G G' : Nat → Option Addr} {C C' : Nat → Nat} : ∀ (qs : List DepP) (j : Nat), (∀ p, 2 * j ≤ p → p < 2 * (j + qs.length) → G p = G' p ∧ C p = C' p) → cellsE G C j qs = cellsE G' C' j qs
  | [], _, _ => rfl
  | q :: qs, j, h => by
    have h0 := h (2 * j) (by omega) (by simp only [List.length_cons]; omega)
    have h1 := h (2 * j + 1) (by omega) (by simp only [List.length_cons]; omega)
    rw [cellsE, cellsE, cellsE_congr qs (j + 1) (fun p k1 k2 => h p (by omega) (by simp at k2 ⊢; omega))]
    unfold cells4
    rw [h0.1, h0.2, h1.1, h1.2]
/-- One slice of the row: its own, apart from the row and from the ones before it. -/
def SlE (w : World) (B top : Nat) (row : Option Nat) (G : Nat → Option Addr) (C : Nat → Nat) (p : Nat) (xs : List Int) : Prop :=
  OwI w B (G p) xs.length (C p) xs ∧ ∀ b o s, G p = some ⟨b, o, s⟩ → b < top ∧ row ≠ some b ∧ ∀ p', p' < p → ∀ b' o' s', G p' = some ⟨b', o', s'⟩ → b' ≠ b
/-- The row. -/
def OwE (w : World) (B top : Nat) (A : Option Addr) (n c : Nat) (ps : List DepP) : Prop :=
  (n ≤ 4194304 ∧ ps.length = n ∧ n ≤ c ∧ c ≤ 9223372036854775807) ∧ ∃ (G : Nat → Option Addr) (C : Nat → Nat), w.ownsRow B 51 4 (.slice A n c) n (cellsE G C 0 ps) ∧
    ∀ (i : Nat) (q : DepP), ps[i]? = some q → SlE w B top (Value.slice A n c).ownBlock G C (2 * i) q.l ∧ SlE w B top (Value.slice A n c).ownBlock G C (2 * i + 1) q.r
theorem OwE.nil (w : World) (B top : Nat) : OwE w B top none 0 0 [] := ⟨⟨by omega, rfl, by omega, by omega⟩, fun _ => none, fun _ => 0, World.ownsRow_nil _ _ _ _, fun i q h => by simp at h⟩
theorem OwE.none0 {w : World} {B : Nat} (hB : B ≤ w.heap.size) (top : Nat) : OwE (w.alloc (.cells #[] 51)) B top (some ⟨w.heap.size, 0, none⟩) 0 0 [] :=
  ⟨⟨by omega, rfl, by omega, by omega⟩, fun _ => none, fun _ => 0, World.ownsRow_made w #[] 0 hB (by decide) rfl, fun i q h => by simp at h⟩
section
variable {w w' : World} {B top n c : Nat} {A : Option Addr} {ps : List DepP}
theorem OwE.mono {top' : Nat} (h : OwE w B top A n c ps) (ht : top ≤ top') : OwE w B top' A n c ps := by
  obtain ⟨h1, G, C, h2, h3⟩ := h
  refine ⟨h1, G, C, h2, fun i q hq => ?_⟩
  obtain ⟨⟨k1, k2⟩, k3, k4⟩ := h3 i q hq
  exact ⟨⟨k1, fun b o s e => ⟨by have := (k2 b o s e).1; omega, (k2 b o s e).2⟩⟩, k3, fun b o s e => ⟨by have := (k4 b o s e).1; omega, (k4 b o s e).2⟩⟩
theorem ownsRow_ext {T : TypeId} {sz : Nat} {v : Value} {vs : List Value} (h : w.ownsRow B T sz v n vs) (k : Ext w w') : w'.ownsRow B T sz v n vs := by
  refine ⟨h.1, ?_⟩
  rcases h.2 with h2 | ⟨g, cap, cur, hv, hg, hh, r⟩
  · exact .inl h2
  · exact .inr ⟨g, cap, cur, hv, hg, (k.block g (Array.getElem?_eq_some_iff.1 hh).1).trans hh, r⟩
theorem OwE.ext (h : OwE w B top A n c ps) (k : Ext w w') : OwE w' B top A n c ps := by
  obtain ⟨h1, G, C, h2, h3⟩ := h
  refine ⟨h1, G, C, ownsRow_ext h2 k, fun i q hq => ?_⟩
  obtain ⟨⟨k1, k2⟩, k3, k4⟩ := h3 i q hq
  exact ⟨⟨k1.ext k, k2⟩, k3.ext k, k4⟩
theorem OwE.lower {B' : Nat} (h : OwE w B top A n c ps) (hB : B' ≤ B) : OwE w B' top A n c ps := by
  obtain ⟨h1, G, C, h2, h3⟩ := h
  refine ⟨h1, G, C, ⟨h2.1, ?_⟩, fun i q hq => ?_⟩
  · rcases h2.2 with h2 | ⟨g, cap, cur, hv, hg, r⟩
    · exact .inl h2
    · exact .inr ⟨g, cap, cur, hv, by omega, r⟩
  · obtain ⟨⟨k1, k2⟩, k3, k4⟩ := h3 i q hq
    exact ⟨⟨k1.lower hB, k2⟩, k3.lower hB, k4⟩
theorem OwE.ob (h : OwE w B top A n c ps) : ∀ b, (Value.slice A n c).ownBlock = some b → B ≤ b ∧ b < w.heap.size := by
  obtain ⟨h1, G, C, h2, h3⟩ := h
  intro b hb
  rcases h2.2 with ⟨e, _⟩ | ⟨g, cap, cur, e, hg, hh, _⟩
  · cases e; cases hb
  · cases e; cases hb; exact ⟨hg, (Array.getElem?_eq_some_iff.1 hh).1⟩
/-- One more pair, its slices in blocks behind the bound. -/
theorem OwE.push {wx : World} {g cap top' c1 c2 : Nat} {A1 A2 : Option Addr} {q : DepP} {o : Obj} (h : OwE w B top A n c ps) (hn1 : n + 1 ≤ 4194304) (h1 : OwI w B A1 q.l.length c1 q.l) (h2 : OwI w B A2 q.r.length c2 q.r)
    (hA1 : ∀ b o s, A1 = some ⟨b, o, s⟩ → top ≤ b ∧ b < top') (hA2 : ∀ b o s, A2 = some ⟨b, o, s⟩ → top ≤ b ∧ b < top') (h12 : ∀ b o s b' o' s', A1 = some ⟨b, o, s⟩ → A2 = some ⟨b', o', s'⟩ → b ≠ b') (htop : top ≤ top') (hrow : ∀ b, (Value.slice A n c).ownBlock = some b → b < top)
    (hcap : n + 1 ≤ cap ∧ cap ≤ 9223372036854775807)
    (hown : ∀ vs, w.ownsRow B 51 4 (.slice A n c) n vs → wx.ownsRow B 51 4 (.slice (some ⟨g, 0, none⟩) (n + 1) cap) (n + 1) (vs ++ [.slice A1 q.l.length c1, .slice A2 q.r.length c2, .int .i64 q.rule, .int .i64 q.at_]))
    (hg : (w.alloc o).grownBy wx (Value.slice A n c).ownBlock) (hat : (Value.slice A n c).ownBlock = some g ∨ g = (w.alloc o).heap.size) (ht' : top' ≤ w.heap.size) : OwE wx B top' (some ⟨g, 0, none⟩) (n + 1) cap (ps ++ [q]) := by
  obtain ⟨⟨hn, hl, hnc, hc⟩, G, C, ho, hs⟩ := h
  have hob : ∀ b, (Value.slice A n c).ownBlock = some b → b < top := hrow
  have hkeep : ∀ {X : Option Addr} {m d : Nat} {xs : List Int}, OwI w B X m d xs → (∀ b o s, X = some ⟨b, o, s⟩ → (Value.slice A n c).ownBlock ≠ some b) → OwI wx B X m d xs := fun hX hne => hX.heap fun b e => by
    have hb := (hX.bd b 0 none e).2
    refine (hg.block b (by simp; omega) (fun e2 => hne b 0 none e e2.symm)).trans ?_
    exact ((Ext.refl w).alloc o).block b hb
  have hrow' : ∀ b, b < top' → (Value.slice A n c).ownBlock ≠ some b → (Value.slice (some ⟨g, 0, none⟩) (n + 1) cap).ownBlock ≠ some b := fun b hb hne e => by
    have e' : g = b := by simpa [Value.ownBlock] using e
    subst e'
    rcases hat with h5 | h5
    · exact hne h5
    · simp at h5; omega
  refine ⟨⟨hn1, by simp [hl], hcap⟩, fun p => if p = 2 * n then A1 else if p = 2 * n + 1 then A2 else G p, fun p => if p = 2 * n then c1 else if p = 2 * n + 1 then c2 else C p, ?_, fun i p hp => ?_⟩
  · have := hown _ ho
    rw [cellsE_snoc, cellsE_congr (G' := G) (C' := C) ps 0 (fun p k1 k2 => ⟨by simp [show ¬ p = 2 * n by omega, show ¬ p = 2 * n + 1 by omega], by simp [show ¬ p = 2 * n by omega, show ¬ p = 2 * n + 1 by omega]⟩)]
    have e4 : cells4 (fun p => if p = 2 * n then A1 else if p = 2 * n + 1 then A2 else G p) (fun p => if p = 2 * n then c1 else if p = 2 * n + 1 then c2 else C p) (0 + ps.length) q = [.slice A1 q.l.length c1, .slice A2 q.r.length c2, .int .i64 q.rule, .int .i64 q.at_] := by
      unfold cells4
      rw [Nat.zero_add, hl]
      simp
    rw [e4]
    exact this
  · rcases Nat.lt_or_ge i n with hi | hi
    · rw [List.getElem?_append_left (by omega)] at hp
      obtain ⟨⟨k1, k2⟩, k3, k4⟩ := hs i p hp
      refine ⟨⟨?_, fun b o s e => ?_⟩, ?_, fun b o s e => ?_⟩
      · simp only; rw [if_neg (by omega), if_neg (by omega), if_neg (by omega), if_neg (by omega)]
        exact hkeep k1 fun b o s e => (k2 b o s e).2.1
      · simp only at e; rw [if_neg (by omega), if_neg (by omega)] at e
        obtain ⟨m1, m2, m3⟩ := k2 b o s e
        refine ⟨by omega, hrow' b (by omega) m2, fun p' hp' b' o' s' e' => ?_⟩
        simp only at e'; rw [if_neg (by omega), if_neg (by omega)] at e'
        exact m3 p' hp' b' o' s' e'
      · simp only; rw [if_neg (by omega), if_neg (by omega), if_neg (by omega), if_neg (by omega)]
        exact hkeep k3 fun b o s e => (k4 b o s e).2.1
      · simp only at e; rw [if_neg (by omega), if_neg (by omega)] at e
        obtain ⟨m1, m2, m3⟩ := k4 b o s e
        refine ⟨by omega, hrow' b (by omega) m2, fun p' hp' b' o' s' e' => ?_⟩
        simp only at e'; rw [if_neg (by omega), if_neg (by omega)] at e'
        exact m3 p' hp' b' o' s' e'
    · have hin : i = n := by
        have := (List.getElem?_eq_some_iff.1 hp).1
        simp at this; omega
      subst hin
      rw [List.getElem?_append_right (by omega), hl, Nat.sub_self] at hp
      cases hp
      have hold : ∀ p' b' o' s', p' < 2 * i → G p' = some ⟨b', o', s'⟩ → b' < top := fun p' b' o' s' hp' e => by
        have hx : p' / 2 < ps.length := by omega
        obtain ⟨⟨_, k2⟩, _, k4⟩ := hs (p' / 2) ps[p' / 2] (List.getElem?_eq_getElem hx)
        rcases Nat.mod_two_eq_zero_or_one p' with h0 | h0
        · exact (k2 b' o' s' (by rw [show 2 * (p' / 2) = p' by omega]; exact e)).1
        · exact (k4 b' o' s' (by rw [show 2 * (p' / 2) + 1 = p' by omega]; exact e)).1
      have hne : ∀ b, top ≤ b → (Value.slice A i c).ownBlock ≠ some b := fun b hb e => by have := hob b e; omega
      refine ⟨⟨?_, fun b o s e => ?_⟩, ?_, fun b o s e => ?_⟩
      · simp only [if_true]
        exact hkeep h1 fun b o s e => hne b (hA1 b o s e).1
      · simp only [if_true] at e
        have hb := hA1 b o s e
        refine ⟨hb.2, hrow' b hb.2 (hne b hb.1), fun p' hp' b' o' s' e' => ?_⟩
        simp only at e'; rw [if_neg (by omega), if_neg (by omega)] at e'
        have := hold p' b' o' s' hp' e'; omega
      · simp only [if_true]; rw [if_neg (by omega), if_neg (by omega)]
        exact hkeep h2 fun b o s e => hne b (hA2 b o s e).1
      · simp only [if_true] at e; rw [if_neg (by omega)] at e
        have hb := hA2 b o s e
        refine ⟨hb.2, hrow' b hb.2 (hne b hb.1), fun p' hp' b' o' s' e' => ?_⟩
        simp only at e'
        by_cases hp2 : p' = 2 * i
        · rw [if_pos hp2] at e'
          exact h12 b' o' s' b o s e' e
        · rw [if_neg hp2, if_neg (by omega)] at e'
          have := hold p' b' o' s' (by omega) e'; omega
end
/-- Pairs that are there to be read, with the room of their slices. -/
def RE (w : World) (A : Option Addr) (n : Nat) (ps : List DepP) : Prop :=
  (ps.length = n ∧ n ≤ 4194304) ∧ ∀ (i : Nat) (q : DepP), ps[i]? = some q → ∃ b o A1 n1 c1 A2 n2 c2, A = some ⟨b, o, none⟩ ∧ w.cell? ⟨b, o + i * 4, none⟩ = some (.slice A1 n1 c1) ∧ w.cell? ⟨b, o + i * 4 + 1, none⟩ = some (.slice A2 n2 c2) ∧
    w.cell? ⟨b, o + i * 4 + 2, none⟩ = some (.int .i64 q.rule) ∧ w.cell? ⟨b, o + i * 4 + 3, none⟩ = some (.int .i64 q.at_) ∧ (n1 ≤ c1 ∧ c1 ≤ 9223372036854775807) ∧ (n2 ≤ c2 ∧ c2 ≤ 9223372036854775807) ∧ RI w A1 n1 q.l ∧ RI w A2 n2 q.r
theorem RE.ext {w w' : World} {A : Option Addr} {n : Nat} {ps : List DepP} (h : RE w A n ps) (k : Ext w w') : RE w' A n ps :=
  ⟨h.1, fun i q hq => by
    obtain ⟨b, o, A1, n1, c1, A2, n2, c2, e, h1, h2, h3, h4, h5, h6, h7, h8⟩ := h.2 i q hq
    exact ⟨b, o, A1, n1, c1, A2, n2, c2, e, Ext.keep k h1, Ext.keep k h2, Ext.keep k h3, Ext.keep k h4, h5, h6, h7.ext k, h8.ext k⟩⟩
theorem RE.nil (w : World) (A : Option Addr) : RE w A 0 [] := ⟨⟨rfl, by omega⟩, fun i q h => by simp at h⟩
theorem RE.at_ {w : World} {A : Option Addr} {n i : Nat} {ps : List DepP} (h : RE w A n ps) (hi : i < n) : ∃ q b o A1 n1 c1 A2 n2 c2, ps[i]? = some q ∧ A = some ⟨b, o, none⟩ ∧ w.cell? ⟨b, o + i * 4, none⟩ = some (.slice A1 n1 c1) ∧ w.cell? ⟨b, o + i * 4 + 1, none⟩ = some (.slice A2 n2 c2) ∧
    w.cell? ⟨b, o + i * 4 + 2, none⟩ = some (.int .i64 q.rule) ∧ w.cell? ⟨b, o + i * 4 + 3, none⟩ = some (.int .i64 q.at_) ∧ (n1 ≤ c1 ∧ c1 ≤ 9223372036854775807) ∧ (n2 ≤ c2 ∧ c2 ≤ 9223372036854775807) ∧ RI w A1 n1 q.l ∧ RI w A2 n2 q.r := by
  have hl : i < ps.length := by rw [h.1.1]; exact hi
  obtain ⟨b, o, A1, n1, c1, A2, n2, c2, r⟩ := h.2 i _ (List.getElem?_eq_getElem hl)
  exact ⟨_, b, o, A1, n1, c1, A2, n2, c2, List.getElem?_eq_getElem hl, r⟩
theorem OwE.re {w : World} {B top n c : Nat} {A : Option Addr} {ps : List DepP} (h : OwE w B top A n c ps) : RE w A n ps := by
  obtain ⟨⟨hn, hl, hnc, hc⟩, G, C, ho, hs⟩ := h
  refine ⟨⟨hl, hn⟩, fun i q hq => ?_⟩
  have hi : i < n := by have := (List.getElem?_eq_some_iff.1 hq).1; omega
  obtain ⟨g, cap, hv, _, _⟩ := World.ownsRow.form ho (by omega)
  cases hv
  have hcell : ∀ o, o < 4 → w.cell? ⟨g, i * 4 + o, none⟩ = (cells4 G C i q)[o]? := fun o h4 => by
    have h1 := World.ownsRow.cellAt ho (i * 4 + o) (by omega)
    rw [h1, cellsE_get G C ps 0 i o q hq h4, Nat.zero_add]
  obtain ⟨k1, k3⟩ := hs i q hq
  exact ⟨g, 0, _, _, _, _, _, _, rfl, by rw [Nat.zero_add]; exact hcell 0 (by omega), by rw [Nat.zero_add]; exact hcell 1 (by omega), by rw [Nat.zero_add]; exact hcell 2 (by omega), by rw [Nat.zero_add]; exact hcell 3 (by omega), k1.1.cap, k3.1.cap, k1.1.ri, k3.1.ri⟩

end Go.Proofs.Ytempekmenkeigaa
