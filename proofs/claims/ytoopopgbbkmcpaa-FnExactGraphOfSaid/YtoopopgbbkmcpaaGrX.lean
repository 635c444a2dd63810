/- Several texts in one: Gr, GrM, GrI, GrS, GrG. -/
import Derived.Test.YtoopopgbbkmcpaaTurn
import Derived.Test.YtoopopgbbkmcpaaParts
import Derived.Test.YtoopopgbbkmcpaaSS
import Derived.Test.YtoopopgbbkmcpaaPairL
import Derived.Test.YtoopopgbbkmcpaaUnA
import Derived.Test.YtoopopgbbkmcpaaUsX
-- rd: RdSyK RdDp
namespace Go.Proofs.Ytoopopgbbkmcpaa
open Go.RowKit
set_option linter.unusedSimpArgs false
set_option linter.unusedVariables false

/-! Rows of lists of the call's own, apart; their marks. -/
/-- A row of lists, each one's memory its own. -/
def GrO (w : World) (B g n : Nat) (xss : List (List Int)) : Prop :=
  ∃ (cs : Array Value) (G : Nat → Option Addr) (C : Nat → Nat), B ≤ g ∧ w.heap[g]? = some (.cells cs 22 (0, 0)) ∧ cs.size = n ∧ xss.length = n ∧
    ∀ (j : Nat) (xs : List Int), xss[j]? = some xs → cs[j]? = some (.slice (G j) xs.length (C j)) ∧ OwI w B (G j) xs.length (C j) xs ∧
      ∀ b o s, G j = some ⟨b, o, s⟩ → b ≠ g ∧ ∀ i, i < n → i ≠ j → ∀ b' o' s', G i = some ⟨b', o', s'⟩ → b ≠ b'
section
variable {w w' : World} {B g n : Nat} {xss : List (List Int)}
theorem GrO.lt (h : GrO w B g n xss) : B ≤ g ∧ g < w.heap.size := by
  obtain ⟨cs, G, C, h1, h2, _⟩ := h
  exact ⟨h1, (Array.getElem?_eq_some_iff.1 h2).1⟩
theorem GrO.ext (h : GrO w B g n xss) (k : Ext w w') : GrO w' B g n xss := by
  obtain ⟨cs, G, C, h1, h2, h3, h4, h5⟩ := h
  refine ⟨cs, G, C, h1, (k.block g (Array.getElem?_eq_some_iff.1 h2).1).trans h2, h3, h4, fun j xs hx => ?_⟩
  obtain ⟨a, b, c⟩ := h5 j xs hx
  exact ⟨a, b.ext k, c⟩
theorem GrO.turn {lo hi : Nat} (h : GrO w B g n xss) (k : Turn lo hi w w') (hd : hi ≤ B) : GrO w' B g n xss := by
  obtain ⟨cs, G, C, h1, h2, h3, h4, h5⟩ := h
  refine ⟨cs, G, C, h1, (k.block g (Array.getElem?_eq_some_iff.1 h2).1 (.inr (by omega))).trans h2, h3, h4, fun j xs hx => ?_⟩
  obtain ⟨a, b, c⟩ := h5 j xs hx
  exact ⟨a, b.turn k fun b' o s e => by have := (b.bd b' o s e).1; omega, c⟩
theorem GrO.lower {B' : Nat} (h : GrO w B g n xss) (hB : B' ≤ B) : GrO w B' g n xss := by
  obtain ⟨cs, G, C, h1, h2, h3, h4, h5⟩ := h
  refine ⟨cs, G, C, by omega, h2, h3, h4, fun j xs hx => ?_⟩
  obtain ⟨a, b, c⟩ := h5 j xs hx
  exact ⟨a, b.lower hB, c⟩
theorem GrO.rsi (h : GrO w B g n xss) (hn : n ≤ 4194304) : RSI w (some ⟨g, 0, none⟩) n xss := by
  obtain ⟨cs, G, C, h1, h2, h3, h4, h5⟩ := h
  refine ⟨⟨h4, hn⟩, fun j xs hx => ?_⟩
  obtain ⟨a, b, c⟩ := h5 j xs hx
  exact ⟨g, 0, G j, xs.length, C j, rfl, by rw [Nat.zero_add, cell_of_row w g _ cs _ (0, 0) h2]; exact a, b.ri⟩
/-- One of its cells. -/
theorem GrO.at_ (h : GrO w B g n xss) {k : Nat} (hk : k < n) : ∃ xs A c, xss[k]? = some xs ∧ w.cell? ⟨g, k, none⟩ = some (.slice A xs.length c) ∧ w.frozen? ⟨g, k, none⟩ = false ∧ OwI w B A xs.length c xs ∧ ∀ b o s, A = some ⟨b, o, s⟩ → b ≠ g := by
  obtain ⟨cs, G, C, h1, h2, h3, h4, h5⟩ := h
  have hl : k < xss.length := by omega
  obtain ⟨a, b, c⟩ := h5 k _ (List.getElem?_eq_getElem hl)
  exact ⟨_, G k, C k, List.getElem?_eq_getElem hl, by rw [cell_of_row w g _ cs _ (0, 0) h2]; exact a, frozen_of_row w _ _ cs _ h2, b, fun b' o s e => (c b' o s e).1⟩
/-- One of its lists has grown, and is put back. -/
theorem GrO.put {wx : World} {k g2 cap c m : Nat} {A : Option Addr} {xs ys : List Int} (h : GrO w B g n xss) (hm : ys.length = m) (hk : xss[k]? = some xs) (hc : w.cell? ⟨g, k, none⟩ = some (.slice A xs.length c)) (hg : w.grownBy wx (Value.slice A xs.length c).ownBlock) (hat : (Value.slice A xs.length c).ownBlock = some g2 ∨ g2 = w.heap.size)
    (hO : OwI wx B (some ⟨g2, 0, none⟩) m cap ys) : GrO (wx.setCell ⟨g, k, none⟩ (.slice (some ⟨g2, 0, none⟩) m cap)) B g n (xss.set k ys) := by
  subst hm
  obtain ⟨cs, G, C, h1, h2, h3, h4, h5⟩ := h
  have hkl := (List.getElem?_eq_some_iff.1 hk).1
  have hkn : k < n := by omega
  have hgl := (Array.getElem?_eq_some_iff.1 h2).1
  obtain ⟨a0, b0, c0⟩ := h5 k xs hk
  have hcell : some (Value.slice A xs.length c) = some (.slice (G k) xs.length (C k)) := by
    rw [← hc, cell_of_row w g _ cs _ (0, 0) h2]; exact a0
  injection hcell with hcell
  injection hcell with e1 e2 e3
  subst e1 e3
  have hrow : ∀ b, (Value.slice (G k) xs.length (C k)).ownBlock = some b → ∃ o s, G k = some ⟨b, o, s⟩ := fun b hb => by
    cases hG : G k with
    | none => rw [hG] at hb; cases hb
    | some p => obtain ⟨b', o, s⟩ := p; rw [hG] at hb; have : b' = b := by simpa [Value.ownBlock] using hb
                subst this; exact ⟨o, s, rfl⟩
  have hne : ∀ b, (Value.slice (G k) xs.length (C k)).ownBlock = some b → b ≠ g := fun b hb => by obtain ⟨o, s, e⟩ := hrow b hb; exact (c0 b o s e).1
  have hg2 : g2 ≠ g := by
    rcases hat with e | e
    · exact hne g2 e
    · omega
  have hapart : ∀ j, j < n → j ≠ k → ∀ b o s, G j = some ⟨b, o, s⟩ → b ≠ g2 ∧ (Value.slice (G k) xs.length (C k)).ownBlock ≠ some b := fun j hj hjk b o s e => by
    obtain ⟨aj, bj, cj⟩ := h5 j _ (List.getElem?_eq_getElem (by omega : j < xss.length))
    have hown : (Value.slice (G k) xs.length (C k)).ownBlock ≠ some b := fun e2 => by
      obtain ⟨o2, s2, e3⟩ := hrow b e2
      exact (cj b o s e).2 k hkn (fun e4 => hjk e4.symm) b o2 s2 e3 rfl
    refine ⟨fun e2 => ?_, hown⟩
    rcases hat with e3 | e3
    · exact hown (by rw [e2]; exact e3)
    · have := (bj.bd b o s e).2; omega
  obtain ⟨G', q1, q2⟩ : ∃ G' : Nat → Option Addr, G' k = some ⟨g2, 0, none⟩ ∧ ∀ j, j ≠ k → G' j = G j := ⟨fun j => if j = k then some ⟨g2, 0, none⟩ else G j, if_pos rfl, fun j h => if_neg h⟩
  obtain ⟨C', q3, q4⟩ : ∃ C' : Nat → Nat, C' k = cap ∧ ∀ j, j ≠ k → C' j = C j := ⟨fun j => if j = k then cap else C j, if_pos rfl, fun j h => if_neg h⟩
  refine ⟨cs.setIfInBounds k (.slice (some ⟨g2, 0, none⟩) ys.length cap), G', C', h1, ?_, by simpa using h3, by simpa using h4, fun j zs hz => ?_⟩
  · have : wx.heap[g]? = some (.cells cs 22 (0, 0)) := (hg.block g hgl (fun e => hne g e.symm rfl)).trans h2
    simp [World.setCell, Array.getElem?_modify, this]
  · by_cases hjk : j = k
    · subst hjk
      rw [List.getElem?_set_self hkl] at hz
      cases hz
      refine ⟨?_, ?_, ?_⟩
      · rw [q1, q3]; exact Array.getElem?_setIfInBounds_self_of_lt (by omega)
      · rw [q1, q3]; exact hO.setFar _ fun b o s e => by cases e; exact hg2
      · intro b o s e
        rw [q1] at e
        cases e
        refine ⟨hg2, fun i hi hij b' o' s' e' e2 => ?_⟩
        rw [q2 i hij] at e'
        exact (hapart i hi hij b' o' s' e').1 e2.symm
    · rw [List.getElem?_set_ne (fun e => hjk e.symm)] at hz
      have hj : j < n := by have := (List.getElem?_eq_some_iff.1 hz).1; omega
      obtain ⟨aj, bj, cj⟩ := h5 j zs hz
      refine ⟨?_, ?_, ?_⟩
      · rw [q2 j hjk, q4 j hjk, Array.getElem?_setIfInBounds_ne (fun e => hjk e.symm)]; exact aj
      · rw [q2 j hjk, q4 j hjk]
        refine OwI.setFar ?_ _ fun b o s e => (cj b o s e).1
        refine bj.heap fun b e => hg.block b ?_ ?_
        · exact (bj.bd b 0 none e).2
        · exact fun e2 => (hapart j hj hjk b 0 none e).2 e2.symm
      · intro b o s e
        rw [q2 j hjk] at e
        refine ⟨(cj b o s e).1, fun i hi hij b' o' s' e' e2 => ?_⟩
        by_cases hik : i = k
        · rw [hik, q1] at e'
          cases e'
          exact (hapart j hj hjk b o s e).1 e2
        · rw [q2 i hik] at e'
          exact (cj b o s e).2 i hi hij b' o' s' e' e2
/-- A new row of nothing. -/
theorem GrO.new (hown : w.ownsRow B 22 1 (.slice (some ⟨g, 0, none⟩) n n) n (List.replicate n (.slice none 0 0))) : GrO w B g n (List.replicate n []) := by
  rcases hown.2 with ⟨hv, _⟩ | ⟨g', cap, cur, hv, hg, hh, h1, h2, h3, h4⟩
  · cases hv
  · cases hv
    refine ⟨cur, fun _ => none, fun _ => 0, hg, hh, by omega, by simp, fun j xs hx => ?_⟩
    obtain ⟨hj, rfl⟩ := List.getElem?_eq_some_iff.1 hx
    have hjn : j < n := by simpa using hj
    refine ⟨?_, ?_, fun b o s e => by cases e⟩
    · have h5 : (cur.toList.take (n * 1))[j]? = cur.toList[j]? := List.getElem?_take_of_lt (by omega)
      rw [h4, List.getElem?_replicate, if_pos hjn] at h5
      rw [← Array.getElem?_toList, ← h5]
      simp
    · simp only [List.getElem_replicate, List.length_nil]; exact ⟨by omega, World.ownsRow_nil _ _ _ _⟩
end
theorem madeSlices (n : Nat) : (madeCells #[Value.slice none 0 0] n).toList = List.replicate n (Value.slice none 0 0) := by
  apply List.ext_getElem?
  intro j
  simp only [madeCells, Array.toList_map, Array.toList_range, List.getElem?_map, List.getElem?_replicate]
  rcases Nat.lt_or_ge j n with h | h
  · simp [h, Nat.mod_one]
  · simp [Nat.not_lt.2 h]
/-- The first mark of each list. -/
def kG (k0 : Int) (L : Nat → Nat) : Nat → Int
  | 0 => k0
  | j + 1 => kG k0 L j + L j
theorem kG_bd {k0 : Int} {L : Nat → Nat} {n : Nat} (hL : ∀ p, p < n → L p ≤ 4194304) : ∀ j, j ≤ n → k0 ≤ kG k0 L j ∧ kG k0 L j ≤ k0 + j * 4194304
  | 0, _ => by show k0 ≤ k0 ∧ k0 ≤ _; omega
  | j + 1, h => by
    have h1 := kG_bd (k0 := k0) hL j (by omega)
    have h2 := hL j (by omega)
    show k0 ≤ kG k0 L j + L j ∧ kG k0 L j + L j ≤ _
    omega
/-- The marks under way: P lists are done. -/
def StG (w wr : World) (lo hi g : Nat) (G : Nat → Option Addr) (L C : Nat → Nat) (k0 : Int) (n P : Nat) : Prop :=
  Turn lo hi w wr ∧ (∃ cs : Array Value, wr.heap[g]? = some (.cells cs 22 (0, 0)) ∧ ∀ j, j < n → cs[j]? = some (.slice (G j) (L j) (C j))) ∧
  ∀ p, p < n → (P ≤ p → ∃ xs, OwI wr lo (G p) (L p) (C p) xs) ∧ (p < P → RI wr (G p) (L p) (marks (kG k0 L p) (L p)))
def ApG (lo hi g : Nat) (G : Nat → Option Addr) (n : Nat) : Prop := ∀ p, p < n → ∀ b o s, G p = some ⟨b, o, s⟩ → (lo ≤ b ∧ b < hi) ∧ b ≠ g ∧ ∀ i, i < n → i ≠ p → ∀ b' o' s', G i = some ⟨b', o', s'⟩ → b ≠ b'
theorem StG.step {w wr w5 : World} {lo hi g n P : Nat} {G : Nat → Option Addr} {L C : Nat → Nat} {k0 : Int} (h : StG w wr lo hi g G L C k0 n P) (hP : P < n) (hA : ApG lo hi g G n) (hO : OnlyA wr w5 (G P)) (hR : RI w5 (G P) (L P) (marks (kG k0 L P) (L P))) : StG w w5 lo hi g G L C k0 n (P + 1) := by
  obtain ⟨hT, ⟨cs, hh, hcs⟩, hs⟩ := h
  have hgl : g < wr.heap.size := (Array.getElem?_eq_some_iff.1 hh).1
  refine ⟨hT.trans (Turn.of_only hO fun b o s e => (hA P hP b o s e).1), ⟨cs, ?_, hcs⟩, fun p hp => ⟨fun h1 => ?_, fun h1 => ?_⟩⟩
  · refine (hO.block g hgl fun e => ?_).trans hh
    cases hGq : G P with
    | none => rw [hGq] at e; cases e
    | some a =>
      obtain ⟨b, o, s⟩ := a
      rw [hGq] at e
      have e' : g = b := by simpa using e
      exact (hA P hP b o s hGq).2.1 e'.symm
  · obtain ⟨xs, hx⟩ := (hs p hp).1 (by omega)
    exact ⟨xs, hx.onlyA hO fun b o s b' o' s' e e' => (hA p hp b' o' s' e').2.2 P hP (by omega) b o s e⟩
  · rcases Nat.lt_or_ge p P with h2 | h2
    · exact RI.onlyA ((hs p hp).2 h2) hO fun b o s b' o' s' e e' => (hA p hp b' o' s' e').2.2 P hP (by omega) b o s e
    · obtain rfl : p = P := by omega
      exact hR
/-- Marked lists, as they are read. -/
def MarkedG (w : World) (A : Option Addr) (n : Nat) (k0 k1 : Int) : Prop := n ≤ 4194304 ∧ ((A = none ∧ n = 0 ∧ k1 = k0) ∨ ∃ (g : Nat) (G : Nat → Option Addr) (L C : Nat → Nat), A = some ⟨g, 0, none⟩ ∧ k1 = kG k0 L n ∧
  ∀ j, j < n → w.cell? ⟨g, j, none⟩ = some (.slice (G j) (L j) (C j)) ∧ RI w (G j) (L j) (marks (kG k0 L j) (L j)))
theorem MarkedG.ext {w w' : World} {A : Option Addr} {n : Nat} {k0 k1 : Int} (h : MarkedG w A n k0 k1) (k : Ext w w') : MarkedG w' A n k0 k1 := by
  obtain ⟨hn, h1⟩ := h
  refine ⟨hn, h1.imp id ?_⟩
  rintro ⟨g, G, L, C, hA, hk, h2⟩
  exact ⟨g, G, L, C, hA, hk, fun j hj => by obtain ⟨a, b⟩ := h2 j hj; exact ⟨Ext.keep k a, b.ext k⟩⟩
theorem MarkedG.bd {w : World} {A : Option Addr} {n : Nat} {k0 k1 : Int} (h : MarkedG w A n k0 k1) (h0 : 0 ≤ k0) : k0 ≤ k1 ∧ k1 ≤ k0 + n * 4194304 := by
  obtain ⟨hn, ⟨_, _, rfl⟩ | ⟨g, G, L, C, hA, rfl, h2⟩⟩ := h
  · omega
  · exact kG_bd (fun p hp => (h2 p hp).2.le) n (Nat.le_refl _)
/-- A result of both: nothing, or a row of lists. -/
def GrV (w : World) (B : Nat) (A : Option Addr) (n : Nat) (xss : List (List Int)) : Prop := xss.length = n ∧ n ≤ 64 ∧ ((A = none ∧ n = 0) ∨ ∃ g, A = some ⟨g, 0, none⟩ ∧ GrO w B g n xss)
section
variable {w w' : World} {B n : Nat} {A : Option Addr} {xss : List (List Int)}
theorem GrV.ext (h : GrV w B A n xss) (k : Ext w w') : GrV w' B A n xss := ⟨h.1, h.2.1, h.2.2.imp id fun ⟨g, e, h1⟩ => ⟨g, e, h1.ext k⟩⟩
theorem GrV.turn {lo hi : Nat} (h : GrV w B A n xss) (k : Turn lo hi w w') (hd : hi ≤ B) : GrV w' B A n xss := ⟨h.1, h.2.1, h.2.2.imp id fun ⟨g, e, h1⟩ => ⟨g, e, h1.turn k hd⟩⟩
theorem GrV.lower {B' : Nat} (h : GrV w B A n xss) (hB : B' ≤ B) : GrV w B' A n xss := ⟨h.1, h.2.1, h.2.2.imp id fun ⟨g, e, h1⟩ => ⟨g, e, h1.lower hB⟩⟩
theorem GrV.rsi (h : GrV w B A n xss) : RSI w A n xss := by
  obtain ⟨h1, h2, ⟨rfl, rfl⟩ | ⟨g, rfl, h3⟩⟩ := h
  · refine ⟨⟨h1, by omega⟩, fun j xs hx => ?_⟩
    have := List.eq_nil_of_length_eq_zero h1
    subst this; simp at hx
  · exact h3.rsi (by omega)
theorem GrO.st {g hi : Nat} (h : GrO w B g n xss) (hhi : w.heap.size ≤ hi) (k0 : Int) : ∃ (G : Nat → Option Addr) (L C : Nat → Nat), (B ≤ g ∧ g < hi) ∧ ApG B hi g G n ∧ (∀ p, p < n → L p ≤ 4194304) ∧ StG w w B hi g G L C k0 n 0 := by
  obtain ⟨cs, G, C, h1, h2, h3, h4, h5⟩ := h
  have hgl := (Array.getElem?_eq_some_iff.1 h2).1
  have hL : ∀ p (hp : p < n), (xss.getD p []).length = (xss[p]'(by omega)).length := fun p hp => by
    rw [List.getD_eq_getElem?_getD, List.getElem?_eq_getElem (by omega : p < xss.length)]; rfl
  refine ⟨G, fun p => (xss.getD p []).length, C, ⟨h1, by omega⟩, fun p hp b o s e => ?_, fun p hp => ?_, Turn.refl _ _ _, ⟨cs, h2, fun j hj => ?_⟩, fun p hp => ⟨fun _ => ?_, fun h => by omega⟩⟩
  · obtain ⟨a, b1, c⟩ := h5 p _ (List.getElem?_eq_getElem (by omega : p < xss.length))
    have := b1.bd b o s e
    exact ⟨⟨this.1, by omega⟩, (c b o s e).1, (c b o s e).2⟩
  · obtain ⟨a, b1, c⟩ := h5 p _ (List.getElem?_eq_getElem (by omega : p < xss.length))
    show (xss.getD p []).length ≤ _
    rw [hL p hp]; exact b1.le
  · obtain ⟨a, b1, c⟩ := h5 j _ (List.getElem?_eq_getElem (by omega : j < xss.length))
    show cs[j]? = some (.slice (G j) (xss.getD j []).length (C j))
    rw [hL j hj]; exact a
  · obtain ⟨a, b1, c⟩ := h5 p _ (List.getElem?_eq_getElem (by omega : p < xss.length))
    refine ⟨xss[p]'(by omega), ?_⟩
    show OwI w B (G p) (xss.getD p []).length (C p) (xss[p]'(by omega))
    rw [hL p hp]; exact b1
end
set_option maxRecDepth 100000 in
set_option maxHeartbeats 2000000 in
theorem c_markInt64SS {A : Option Addr} {n c lo hi : Nat} {xss : List (List Int)} {k0 : Int} {w : World} (h0 : GrV w lo A n xss) (hhi : w.heap.size ≤ hi) (hk : 0 ≤ k0) (hk2 : k0 ≤ 1000000000000) :
    Calls Try.prog 18 #[.slice A n c, .int .i64 k0] w fun e w' => ∃ k1 : Int, e = .returned (.int .i64 k1) ∧ MarkedG w' A n k0 k1 ∧ Turn lo hi w w' := by
  have hn := h0.2.1
  rcases h0.2.2 with ⟨rfl, rfl⟩ | ⟨g, rfl, hG⟩
  · go_enter Try.func18, Try.ntmps18
    go_wp2
    go_loopw [1, 5] (fun x i wr => i = .int .i64 0 ∧ x = .int .i64 k0 ∧ wr = w) (fun _ i _ => 0)
    case atStart => exact ⟨rfl, rfl, rfl⟩
    case round =>
      obtain ⟨rfl, rfl, rfl⟩ := hrel
      go_wp2
      go_ret
      exact ⟨k0, rfl, ⟨by omega, .inl ⟨rfl, rfl, rfl⟩⟩, Turn.refl _ _ _⟩
  · obtain ⟨G, L, C, hg, hAP, hL, hM⟩ := hG.st hhi k0
    have HAP := Lib.hid hAP
    have HM := Lib.hid hM
    have HLB := Lib.hid hL
    have HG := Lib.hid hg
    clear hAP hM hL hg hG h0
    go_enter Try.func18, Try.ntmps18
    go_wp2
    go_loopw [1, 5] (fun x i wr => ∃ q : Nat, i = .int .i64 q ∧ q ≤ n ∧ (∃ y : Int, x = .int .i64 y ∧ Hid (y = kG k0 L q)) ∧ Hid (StG w wr lo hi g G L C k0 n q)) (fun _ i _ => n - (intOf i).toNat)
    case atStart => exact ⟨0, rfl, Nat.zero_le _, ⟨k0, rfl, Lib.hid rfl⟩, HM⟩
    case round =>
      obtain ⟨q, rfl, hq, ⟨y, rfl, hy⟩, hM⟩ := hrel
      have hybd := kG_bd (k0 := k0) HLB.out q hq
      rw [← hy.out] at hybd
      by_cases hlt : q < n
      · have hL1 := HLB.out q hlt
        obtain ⟨hT, ⟨cs, hh, hcs⟩, hrest⟩ := hM.out
        obtain ⟨xs, hO⟩ := (hrest q hlt).1 (Nat.le_refl _)
        have hc0 : wr.cell? ⟨g, q, none⟩ = some (.slice (G q) (L q) (C q)) := by rw [cell_of_row wr g _ cs _ (0, 0) hh]; exact hcs q hlt
        have hlt' : (q : Int) < (n : Int) := by omega
        have hgl : g < wr.heap.size := (Array.getElem?_eq_some_iff.1 hh).1
        have HOQ := Lib.hid hO
        clear hT hh hcs hrest hO
        go_wp2_with fail
        (with_reducible refine (c_markInts (B := lo) (xs := xs) HOQ.out (by omega) (by omega)).mono ?_)
        rintro e5 w5 ⟨rfl, hR5, hO5⟩
        have HN5 := Lib.hid (hM.out.step hlt HAP.out hO5 (by rw [← hy.out]; exact hR5.ri))
        clear hR5 hO5
        have HY := Lib.hid (show y + (L q : Int) = kG k0 L (q + 1) by show _ = kG k0 L q + L q; rw [hy.out])
        go_wp2_with fail
        go_roundw
        case rel => exact ⟨q + 1, by go_num, by omega, ⟨_, rfl, HY⟩, HN5⟩
        case measure => simp only [intOf]; omega
      · go_wp2
        go_ret
        have hqn : q = n := by omega
        subst hqn
        obtain ⟨hT, ⟨cs, hh, hcs⟩, hrest⟩ := hM.out
        refine ⟨y, rfl, ⟨by omega, .inr ⟨g, G, L, C, rfl, hy.out, fun j hj => ⟨by rw [cell_of_row wr g _ cs _ (0, 0) hh]; exact hcs j hj, (hrest j hj).2 hj⟩⟩⟩, hT⟩
set_option maxRecDepth 100000 in
set_option maxHeartbeats 2000000 in
theorem c_heldInt64SS {A : Option Addr} {n c : Nat} {k0 k1 : Int} {w : World} (h0 : MarkedG w A n k0 k1) (hk : 0 ≤ k0) (hk2 : k0 ≤ 1000000000) :
    Calls Try.prog 19 #[.slice A n c, .int .i64 k0] w fun e w' => e = .returned (.int .i64 k1) ∧ Ext w w' := by
  obtain ⟨hn, h1⟩ := h0
  rcases h1 with ⟨rfl, rfl, rfl⟩ | ⟨g, G, L, C, rfl, rfl, hG⟩
  · go_enter Try.func19, Try.ntmps19
    go_wp2
    go_loopw [1, 5] (fun x i wr => i = .int .i64 0 ∧ x = .int .i64 k1 ∧ wr = w) (fun _ i _ => 0)
    case atStart => exact ⟨rfl, rfl, rfl⟩
    case round =>
      obtain ⟨rfl, rfl, rfl⟩ := hrel
      go_wp2
      go_ret
      exact ⟨rfl, Ext.refl _⟩
  · have HLB := Lib.hid (show ∀ p, p < n → L p ≤ 4194304 from fun p hp => (hG p hp).2.le)
    have HG := Lib.hid hG
    clear hG
    go_enter Try.func19, Try.ntmps19
    go_wp2
    go_loopw [1, 5] (fun x i wr => ∃ q : Nat, i = .int .i64 q ∧ q ≤ n ∧ (∃ y : Int, x = .int .i64 y ∧ Hid (y = kG k0 L q)) ∧ Ext w wr) (fun _ i _ => n - (intOf i).toNat)
    case atStart => exact ⟨0, rfl, Nat.zero_le _, ⟨k0, rfl, Lib.hid rfl⟩, Ext.refl _⟩
    case round =>
      obtain ⟨q, rfl, hq, ⟨y, rfl, hy⟩, hE⟩ := hrel
      have hybd := kG_bd (k0 := k0) HLB.out q hq
      rw [← hy.out] at hybd
      by_cases hlt : q < n
      · obtain ⟨hc0, hri⟩ := HG.out q hlt
        rw [← hy.out] at hri
        have hd0 := Ext.keep hE hc0
        have hL1 := hri.le
        have HR := Lib.hid (RI.ext hri hE)
        have hlt' : (q : Int) < (n : Int) := by omega
        have HY := Lib.hid (show y + (L q : Int) = kG k0 L (q + 1) by show _ = kG k0 L q + L q; rw [hy.out])
        have hneg : ¬ (y + (L q : Int) < 0) := by omega
        clear hc0 hri
        go_wp2_with fail
        (with_reducible refine (c_heldInts (k := y) HR.out (by omega) (by omega)).mono ?_)
        rintro e5 w5 ⟨rfl, rfl⟩
        go_wp2_with fail
        go_roundw
        case rel => exact ⟨q + 1, by go_num, by omega, ⟨_, rfl, HY⟩, hE⟩
        case measure => simp only [intOf]; omega
      · go_wp2
        go_ret
        have hqn : q = n := by omega
        subst hqn
        exact ⟨ret_int hy.out, hE⟩

/-! The graph of a system's pairs: plainly. -/
/-- Those with which one is connected, among the first ones. -/
noncomputable def rowTo (s : Sy) (ps : List DepP) (p : DepP) : Nat → List Int
  | 0 => []
  | k + 1 => rowTo s ps p k ++ (match ps[k]? with | some q => if connV s p q = true then [(k : Int)] else [] | none => [])
noncomputable def rowsTo (s : Sy) (ps : List DepP) : Nat → List (List Int)
  | 0 => []
  | k + 1 => rowsTo s ps k ++ (match ps[k]? with | some p => [rowTo s ps p ps.length] | none => [])
noncomputable def grV (s : Sy) : List (List Int) := rowsTo s (prV s) (prV s).length
theorem rowTo_t {s : Sy} {ps : List DepP} {p q : DepP} {k : Nat} (hq : ps[k]? = some q) (h : connV s p q = true) : rowTo s ps p (k + 1) = rowTo s ps p k ++ [(k : Int)] := by
  show rowTo s ps p k ++ _ = _; rw [hq]; simp [h]
theorem rowTo_f {s : Sy} {ps : List DepP} {p q : DepP} {k : Nat} (hq : ps[k]? = some q) (h : connV s p q = false) : rowTo s ps p (k + 1) = rowTo s ps p k := by
  show rowTo s ps p k ++ _ = _; rw [hq]; simp [h]
theorem rowsTo_succ {s : Sy} {ps : List DepP} {p : DepP} {k : Nat} (hp : ps[k]? = some p) : rowsTo s ps (k + 1) = rowsTo s ps k ++ [rowTo s ps p ps.length] := by
  show rowsTo s ps k ++ _ = _; rw [hp]
theorem rowTo_le (s : Sy) (ps : List DepP) (p : DepP) : ∀ k, (rowTo s ps p k).length ≤ k
  | 0 => by show ([] : List Int).length ≤ 0; simp
  | k + 1 => by
    have h := rowTo_le s ps p k
    show (rowTo s ps p k ++ _).length ≤ k + 1
    rw [List.length_append]
    cases hq : ps[k]? with
    | none => simp; omega
    | some q =>
      simp only
      split <;> simp <;> omega
theorem rowsTo_len (s : Sy) (ps : List DepP) : ∀ k, k ≤ ps.length → (rowsTo s ps k).length = k
  | 0, _ => rfl
  | k + 1, h => by rw [rowsTo_succ (List.getElem?_eq_getElem (by omega : k < ps.length)), List.length_append, rowsTo_len s ps k (by omega)]; rfl
theorem depOf_terms {s : Sy} {r : Ru} {k a : Nat} {x : Int} {q : DepP} (hr : RuleP s.ar r) (hx : r.r[a]? = some x) (h : depOf s r k a x = some q) : TermP s.ar q.l ∧ TermP s.ar q.r := by
  obtain ⟨hL, hR, _, _⟩ := hr
  have hq : q.l = r.l ∧ q.r = (subT s.ar r.r a).flat := by
    unfold depOf at h
    split at h
    · cases h
    · split at h
      · cases h
      · split at h
        · cases h
        · cases h; exact ⟨rfl, rfl⟩
  rw [hq.1, hq.2]
  exact ⟨hL, (sub_term hR (List.getElem?_eq_some_iff.1 hx).1).1⟩
theorem prR_terms {s : Sy} {r : Ru} {k : Nat} (hr : RuleP s.ar r) : ∀ a, ∀ q ∈ prR s r k a, TermP s.ar q.l ∧ TermP s.ar q.r
  | 0, q, h => by cases h
  | a + 1, q, h => by
    have h : q ∈ prR s r k a ++ (match r.r[a]? with | some x => (depOf s r k a x).toList | none => []) := h
    rcases List.mem_append.1 h with h | h
    · exact prR_terms hr a q h
    · cases hx : r.r[a]? with
      | none => rw [hx] at h; cases h
      | some x =>
        rw [hx] at h
        exact depOf_terms hr hx (by simpa using h)
theorem prS_terms {s : Sy} (hs : SysP s) : ∀ k, ∀ q ∈ prS s k, TermP s.ar q.l ∧ TermP s.ar q.r
  | 0, q, h => by cases h
  | k + 1, q, h => by
    have h : q ∈ prS s k ++ (match s.rs[k]? with | some r => prR s r k r.r.length | none => []) := h
    rcases List.mem_append.1 h with h | h
    · exact prS_terms hs k q h
    · cases hr : s.rs[k]? with
      | none => rw [hr] at h; cases h
      | some r =>
        rw [hr] at h
        exact prR_terms (hs.2.2 k r hr) _ q h
theorem prV_facts {s : Sy} : (prV s).length ≤ 64 ∧ (prV s = [] ∨ SysP s) ∧ ∀ q ∈ prV s, TermP s.ar q.l ∧ TermP s.ar q.r := by
  unfold prV
  by_cases h : sysOk s = true
  · rw [if_pos h]
    have hs := sysOk_iff.1 h
    by_cases h2 : 64 < (prAll s).length
    · rw [if_pos h2]; exact ⟨by simp, .inr hs, fun q hq => by cases hq⟩
    · rw [if_neg h2]; exact ⟨by omega, .inr hs, fun q hq => prS_terms hs _ q hq⟩
  · rw [if_neg h]; exact ⟨by simp, .inl rfl, fun q hq => by cases hq⟩
theorem prB_nil {s : Sy} (h : prB s = false) : prV s = [] := by
  unfold prB at h
  unfold prV
  by_cases h1 : sysOk s = true
  · rw [h1] at h
    rw [if_pos h1, if_pos (by simpa using h)]
  · rw [if_neg h1]

/-! The program's graph. -/
theorem set_mid {α : Type} {l : List α} {k n : Nat} {y z : α} (hl : l.length = k) : (l ++ y :: List.replicate n z).set k (y : α) = l ++ y :: List.replicate n z := by
  rw [List.set_append_right k _ (by omega), hl, Nat.sub_self, List.set_cons_zero]
theorem set_mid' {α : Type} {l r : List α} {k : Nat} {x y : α} (hl : l.length = k) : (l ++ x :: r).set k y = l ++ y :: r := by
  rw [List.set_append_right k _ (by omega), hl, Nat.sub_self, List.set_cons_zero]
set_option maxRecDepth 100000 in
set_option maxHeartbeats 8000000 in
theorem c_graph {v0 : Value} {A : Option Addr} {n c : Nat} {s : Sy} {ps : List DepP} {w : World} (h0 : RdSyC w v0 s) (h1 : RE w A n ps) (hs : SysP s) (ht : ∀ q ∈ ps, TermP s.ar q.l ∧ TermP s.ar q.r) (hn : n ≤ 64) :
    Calls Try.prog 42 #[v0, .slice A n c] w fun e w' => ∃ g, e = .returned (.slice (some ⟨g, 0, none⟩) n n) ∧ GrO w' w.heap.size g n (rowsTo s ps n) ∧ Ext w w' := by
  obtain ⟨SA, sn, sc, SB, sm, sd, rfl, ha, hb⟩ := h0
  have HA := Lib.hid ha
  have HB := Lib.hid hb
  have HE := Lib.hid h1
  have HS := Lib.hid hs
  have HT := Lib.hid ht
  have HL := Lib.hid h1.1.1
  obtain ⟨i0, hii, hiz, his, hib⟩ := info_parts slices_info
  obtain ⟨i1, hji, hjz, hjs, hjb⟩ := info_parts int64_info
  clear ha hb h1 hs ht
  go_enter Try.func42, Try.ntmps42
  go_wp2_with (at_make; refine wpList_make_full _ rfl _ _ 43 rfl (w.heap.size + 1) 22 i0 _ 1 Try.underlying43 hii hiz his _ _ _ _ n rfl rfl rfl rfl (by rw [hib]; omega) (by simp only [maxLen]; omega) (by go_size) ?_)
  intro w1 hown0 hg
  rw [show (madeCells #[Value.slice none 0 0] n).toList = List.replicate n (.slice none 0 0) from madeSlices n] at hown0
  have hE1 : Ext (w.alloc (.cells #[.slice SA sn sc, .slice SB sm sd] 36)) w1 := Ext.grown (Ext.refl _) hg (fun k hk => by cases hk)
  have a0 : w1.cell? ⟨w.heap.size, 0, none⟩ = some (.slice SA sn sc) := Ext.keep hE1 (by simp [go_sem])
  have a1 : w1.cell? ⟨w.heap.size, 1, none⟩ = some (.slice SB sm sd) := Ext.keep hE1 (by simp [go_sem])
  have hEw1 : Ext w w1 := Ext.trans ((Ext.refl w).alloc _) hE1
  have hgl : w.heap.size + 1 < w1.heap.size := (World.ownsRow.lt hown0 _ rfl).2
  have HG1 := Lib.hid (GrO.new hown0)
  have HZ1 := Lib.hid (show ∀ j, 0 ≤ j → j < n → w1.cell? ⟨w.heap.size + 1, j, none⟩ = some (.slice none 0 0) from fun j _ hj => by
    rw [World.ownsRow.cellAt hown0 j (by omega), List.getElem?_replicate, if_pos hj])
  have HEW1 := Lib.hid hEw1
  clear hown0 hg hE1 hEw1
  go_wp2_with fail
  go_loopw [15] (fun iv wr => ∃ k : Nat, iv = .int .i64 k ∧ k ≤ n ∧ Hid (GrO wr (w.heap.size + 1) (w.heap.size + 1) n (rowsTo s ps k ++ List.replicate (n - k) [])) ∧ Hid (Ext w wr) ∧ (wr.cell? ⟨w.heap.size, 0, none⟩ = some (.slice SA sn sc) ∧ wr.cell? ⟨w.heap.size, 1, none⟩ = some (.slice SB sm sd)) ∧ Hid (∀ j, k ≤ j → j < n → wr.cell? ⟨w.heap.size + 1, j, none⟩ = some (.slice none 0 0))) (fun iv _ => n - (intOf iv).toNat)
  case atStart => exact ⟨0, rfl, Nat.zero_le _, HG1, HEW1, ⟨a0, a1⟩, HZ1⟩
  case round =>
    obtain ⟨k, rfl, hk, hG, hE, ⟨hr0, hr1⟩, hZ⟩ := hrel
    by_cases hlt : k < n
    · obtain ⟨p, b, o, A1, n1, c1, A2, n2, c2, hp, rfl, hd0, hd1, hd2, hd3, hcp1, hcp2, hl1, hl2⟩ := RE.at_ HE.out hlt
      have hd0 := Ext.keep hE.out hd0
      have hd1 := Ext.keep hE.out hd1
      have hd2 := Ext.keep hE.out hd2
      have hd3 := Ext.keep hE.out hd3
      have HP := Lib.hid hp
      have HCP1 := Lib.hid hcp1
      have HCP2 := Lib.hid hcp2
      have HL1 := Lib.hid hl1
      have HL2 := Lib.hid hl2
      have hki : (k : Int) < (n : Int) := by omega
      have hbl : b < wr.heap.size := World.block_lt_of_cell? wr _ hd0
      have hgb := hG.out.lt
      clear hp hcp1 hcp2 hl1 hl2
      obtain ⟨wu, rfl⟩ : ∃ wu : World, wu = wr := ⟨_, rfl⟩
      go_wp2_with fail
      obtain ⟨wp, hwp⟩ : ∃ wp, wp = wu.alloc (.cells #[.slice A1 n1 c1, .slice A2 n2 c2, .int .i64 p.rule, .int .i64 p.at_] 38) := ⟨_, rfl⟩
      rw [← hwp]
      have hEp : Ext wu wp := by rw [hwp]; exact extX
      have hsz : wp.heap.size = wu.heap.size + 1 := by rw [hwp]; simp
      have p0 : wp.cell? ⟨wu.heap.size, 0, none⟩ = some (.slice A1 n1 c1) := by rw [hwp]; simp [go_sem]
      have p1 : wp.cell? ⟨wu.heap.size, 1, none⟩ = some (.slice A2 n2 c2) := by rw [hwp]; simp [go_sem]
      have p2 : wp.cell? ⟨wu.heap.size, 2, none⟩ = some (.int .i64 p.rule) := by rw [hwp]; simp [go_sem]
      have p3 : wp.cell? ⟨wu.heap.size, 3, none⟩ = some (.int .i64 p.at_) := by rw [hwp]; simp [go_sem]
      have HLK := Lib.hid (show (rowsTo s ps k).length = k from rowsTo_len s ps k (by rw [HL.out]; exact hk))
      have HREP := Lib.hid (show List.replicate (n - k) ([] : List Int) = [] :: List.replicate (n - k - 1) [] by rw [show n - k = (n - k - 1) + 1 by omega, List.replicate_succ]; simp)
      have HGP := Lib.hid (show GrO wp (w.heap.size + 1) (w.heap.size + 1) n (rowsTo s ps k ++ rowTo s ps p 0 :: List.replicate (n - k - 1) []) by
        have := hG.out.ext hEp; rw [HREP.out] at this; exact this)
      have HEP := Lib.hid (Ext.trans hE.out hEp)
      have HEPU := Lib.hid hEp
      have hcell0 : ∃ A' c', wp.cell? ⟨w.heap.size + 1, k, none⟩ = some (.slice A' (rowTo s ps p 0).length c') ∧ ∀ b o s, A' = some ⟨b, o, s⟩ → wp.heap.size ≤ b :=
        ⟨none, 0, Ext.keep hEp (hZ.out k (Nat.le_refl _) hlt), fun b o s e => by cases e⟩
      have HZP := Lib.hid (show ∀ i, k < i → i < n → wp.cell? ⟨w.heap.size + 1, i, none⟩ = some (.slice none 0 0) from fun i h1 h2 => Ext.keep hEp (hZ.out i (by omega) h2))
      have HC0 := Lib.hid hcell0
      have q0 := Ext.keep hEp hr0
      have q1 := Ext.keep hEp hr1
      have hul : w.heap.size + 1 < wu.heap.size := hgb.2
      clear hwp hEp hcell0 hG hZ
      go_loopw [22] (fun iv wr => ∃ j : Nat, iv = .int .i64 j ∧ j ≤ n ∧ Hid (GrO wr (w.heap.size + 1) (w.heap.size + 1) n (rowsTo s ps k ++ rowTo s ps p j :: List.replicate (n - k - 1) [])) ∧ Hid (Only wp wr (w.heap.size + 1)) ∧ Hid (∃ A' c', wr.cell? ⟨w.heap.size + 1, k, none⟩ = some (.slice A' (rowTo s ps p j).length c') ∧ ∀ b o s, A' = some ⟨b, o, s⟩ → wp.heap.size ≤ b) ∧ Hid (∀ i, k < i → i < n → wr.cell? ⟨w.heap.size + 1, i, none⟩ = some (.slice none 0 0))) (fun iv _ => n - (intOf iv).toNat)
      case atStart => exact ⟨0, rfl, Nat.zero_le _, HGP, Lib.hid (Only.refl _ _), HC0, HZP⟩
      case round =>
        obtain ⟨j, rfl, hj, hG, hO, hC, hZ⟩ := hrel
        have hEw : Ext w wr := Only.ext hO.out HEP.out (Nat.le_succ _)
        have u0 := keepO hO.out (show w.heap.size ≠ w.heap.size + 1 by omega) q0
        have u1 := keepO hO.out (show w.heap.size ≠ w.heap.size + 1 by omega) q1
        have v0 := keepO hO.out (show wu.heap.size ≠ w.heap.size + 1 by omega) p0
        have v1 := keepO hO.out (show wu.heap.size ≠ w.heap.size + 1 by omega) p1
        have v2 := keepO hO.out (show wu.heap.size ≠ w.heap.size + 1 by omega) p2
        have v3 := keepO hO.out (show wu.heap.size ≠ w.heap.size + 1 by omega) p3
        by_cases hlt2 : j < n
        · obtain ⟨q, _, _, B1, m1, d1, B2, m2, d2, hq, e9, he0, he1, he2, he3, hcq1, hcq2, hm1, hm2⟩ := RE.at_ HE.out hlt2
          cases e9
          have he0 := Ext.keep hEw he0
          have he1 := Ext.keep hEw he1
          have he2 := Ext.keep hEw he2
          have he3 := Ext.keep hEw he3
          have HQ := Lib.hid hq
          have HCQ1 := Lib.hid hcq1
          have HCQ2 := Lib.hid hcq2
          have HM1 := Lib.hid hm1
          have HM2 := Lib.hid hm2
          have hji2 : (j : Int) < (n : Int) := by omega
          have hblr : b < wr.heap.size := World.block_lt_of_cell? wr _ he0
          have hwl : w.heap.size < wr.heap.size := World.block_lt_of_cell? wr _ u0
          have hwl2 : wu.heap.size < wr.heap.size := World.block_lt_of_cell? wr _ v0
          have HTP := Lib.hid (HT.out p (List.mem_of_getElem? HP.out)).2
          have HTQ := Lib.hid (HT.out q (List.mem_of_getElem? hq)).1
          clear hq hcq1 hcq2 hm1 hm2
          go_wp2_with fail
          obtain ⟨wq, hwq⟩ : ∃ wq, wq = wr.alloc (.cells #[.slice B1 m1 d1, .slice B2 m2 d2, .int .i64 q.rule, .int .i64 q.at_] 38) := ⟨_, rfl⟩
          have hEq : Ext wr wq := by rw [hwq]; exact extX
          rw [← hwq]
          clear hwq
          have hEwq := Ext.trans hEw hEq
          cases hcv : connV s p q with
          | false =>
            have HCV := Lib.hid hcv
            have HR := Lib.hid (rowTo_f HQ.out hcv)
            clear hcv
            (with_reducible refine (c_connected (s := s) (p := p) (q := q) (RdSyK.mk (RI.ext HA.out hEwq) (RR.ext HB.out hEwq)) (RdDp.mk HCP1.out HCP2.out (RI.ext HL1.out hEwq) (RI.ext HL2.out hEwq)) (RdDp.mk HCQ1.out HCQ2.out (RI.ext HM1.out hEwq) (RI.ext HM2.out hEwq)) HS.out HTP.out HTQ.out).mono ?_)
            rw [HCV.out]
            rintro e w7 ⟨rfl, hE7⟩
            have hE27 := Ext.trans hEq hE7
            go_wp2_with fail
            refine ⟨⟨j + 1, by go_num, by omega, by rw [HR.out]; exact Lib.hid (hG.out.ext hE27), Lib.hid (Only.trans hO.out (Only.of_ext hE27 _)), by rw [HR.out]; exact Lib.hid (by obtain ⟨A', c', e1, e2⟩ := hC.out; exact ⟨A', c', Ext.keep hE27 e1, e2⟩), Lib.hid fun i h1 h2 => Ext.keep hE27 (hZ.out i h1 h2)⟩, by simp only [intOf]; omega⟩
          | true =>
            have HCV := Lib.hid hcv
            have HR := Lib.hid (rowTo_t HQ.out hcv)
            clear hcv
            (with_reducible refine (c_connected (s := s) (p := p) (q := q) (RdSyK.mk (RI.ext HA.out hEwq) (RR.ext HB.out hEwq)) (RdDp.mk HCP1.out HCP2.out (RI.ext HL1.out hEwq) (RI.ext HL2.out hEwq)) (RdDp.mk HCQ1.out HCQ2.out (RI.ext HM1.out hEwq) (RI.ext HM2.out hEwq)) HS.out HTP.out HTQ.out).mono ?_)
            rw [HCV.out]
            rintro e w7 ⟨rfl, hE7⟩
            have hE27 := Ext.trans hEq hE7
            have HE27 := Lib.hid hE27
            have HE7w := Lib.hid (Ext.trans hEw hE27)
            obtain ⟨A', c', hcA, hAb⟩ := hC.out
            have hcA7 := Ext.keep hE27 hcA
            have HG7 := Lib.hid (hG.out.ext hE27)
            obtain ⟨xs, A'', c'', e1, e2, hf7, hO7, hA7⟩ := HG7.out.at_ hlt
            rw [List.getElem?_append_right (by rw [HLK.out]; exact Nat.le_refl _), HLK.out, Nat.sub_self] at e1
            cases e1
            rw [hcA7] at e2
            injection e2 with e2
            injection e2 with e3 e4 e5
            subst e3 e5
            have HO7 := Lib.hid hO7
            have hrl := rowTo_le s ps p j
            obtain ⟨m, hm⟩ : ∃ m, m = (rowTo s ps p j).length := ⟨_, rfl⟩
            rw [← hm] at hcA7 hrl HO7
            have HM := Lib.hid hm
            have hz7 : w.heap.size + 1 ≤ w7.heap.size := by have := HG7.out.lt; omega
            have HAB := Lib.hid hAb
            clear hE27 hEw hEq hE7 hEwq hcA hAb hO7 e4 hm u0 u1 v0 v1 v2 v3
            go_wp2_with (at_builtin; go_loud (refine wpList_append_lies _ rfl (.tmp 36) (.tmp 38) 22 rfl (w.heap.size + 1) 2 i1 (.int .i64 0) 1 8 Try.underlying22 hji hjz hjs hjb rfl (by decide) _ _ _ rfl (OwI.alloc HO7.out _).2 ⟨w7.heap.size, 0, none⟩ 1 1 [.int .i64 (j : Int)] rfl rfl (one_cells _ _ _) (one_one _) (by decide) (by unfold maxLen; omega) (by omega) (by go_size) _ rfl ?_))
            intro g2 cap wx hown hg hat hltg
            have hnr : some (w.heap.size + 1) ≠ (Value.slice A' m c').ownBlock := fun e => by
              cases A' with
              | none => cases e
              | some a => obtain ⟨b9, o9, s9⟩ := a; have e : w.heap.size + 1 = b9 := by simpa [Value.ownBlock] using e
                          exact hA7 b9 o9 s9 rfl e.symm
            have hrb : ∀ b, (Value.slice A' m c').ownBlock = some b → wp.heap.size ≤ b := fun b e => by
              cases A' with
              | none => cases e
              | some a => obtain ⟨b9, o9, s9⟩ := a; have e : b9 = b := by simpa [Value.ownBlock] using e
                          subst e; exact HAB.out _ o9 s9 rfl
            have hwp7 : wp.heap.size ≤ w7.heap.size := Nat.le_trans hO.out.size HE27.out.size
            have hca : (w7.alloc (.cells #[.int .i64 (j : Int)] 2)).cell? ⟨w.heap.size + 1, k, none⟩ = some (.slice A' m c') := Ext.keep (Ext.alloc (Ext.refl _) _) hcA7
            have hcx := hg.cell hca hnr
            have hfx : wx.frozen? ⟨w.heap.size + 1, k, none⟩ = false := (hg.frozen_far ⟨w.heap.size + 1, k, none⟩ (by have := World.block_lt_of_cell? _ _ hca; exact this) hnr).trans ((Below.frozen (p := ⟨w.heap.size + 1, k, none⟩) (Ext.alloc (Ext.refl w7) _) (World.block_lt_of_cell? _ _ hcA7)).trans hf7)
            have hOx : OwI wx (w.heap.size + 1) (some ⟨g2, 0, none⟩) (m + 1) cap (rowTo s ps p (j + 1)) := ⟨by omega, by rw [HR.out]; simpa using hown⟩
            have hml : (rowTo s ps p (j + 1)).length = m + 1 := hOx.len
            have hGa := HG7.out.ext (Ext.alloc (Ext.refl w7) (.cells #[.int .i64 (j : Int)] 2))
            have hput := GrO.put (k := k) (xs := rowTo s ps p j) (ys := rowTo s ps p (j + 1)) (c := c') (A := A') hGa hml (by rw [List.getElem?_append_right (by rw [HLK.out]; exact Nat.le_refl _), HLK.out, Nat.sub_self]; rfl) (by rw [← HM.out]; exact hca) (by rw [← HM.out]; exact hg) (by rw [← HM.out, World.size_alloc]; exact hat) hOx
            rw [set_mid' HLK.out] at hput
            have HPUT := Lib.hid hput
            have hO8 : Only wp wx (w.heap.size + 1) := ⟨hg.os.trans (HE27.out.os.trans hO.out.os), hg.tape.trans (HE27.out.tape.trans hO.out.tape), hg.output.trans (HE27.out.output.trans hO.out.output), Nat.le_trans hwp7 (Nat.le_trans (by simp) hg.size), fun i hi hne => ?_⟩
            · have HO8 := Lib.hid (Only.trans hO8 (Only.setCell wx (w.heap.size + 1) k (.slice (some ⟨g2, 0, none⟩) (m + 1) cap)))
              have HZ8 := Lib.hid (show ∀ i, k < i → i < n → (wx.setCell ⟨w.heap.size + 1, k, none⟩ (.slice (some ⟨g2, 0, none⟩) (m + 1) cap)).cell? ⟨w.heap.size + 1, i, none⟩ = some (.slice none 0 0) from fun i h1 h2 => by
                rw [World.cell?_setCell_other _ _ _ _ (by first | (simp; done) | (simp; omega))]
                exact hg.cell (Ext.keep (Ext.alloc HE27.out _) (hZ.out i h1 h2)) hnr)
              have HC8 := Lib.hid (show ∃ A' c', (wx.setCell ⟨w.heap.size + 1, k, none⟩ (.slice (some ⟨g2, 0, none⟩) (m + 1) cap)).cell? ⟨w.heap.size + 1, k, none⟩ = some (.slice A' (rowTo s ps p (j + 1)).length c') ∧ ∀ b o s, A' = some ⟨b, o, s⟩ → wp.heap.size ≤ b from
                ⟨_, cap, by rw [hml]; exact World.cell?_setCell_same _ _ _ hcx, fun b o s e => by
                  cases e
                  rcases hat with h | h
                  · exact hrb _ h
                  · rw [h]; exact Nat.le_trans hwp7 (by simp)⟩)
              clear hown hg hat hGa hput hOx hca hO8 hcA7 hml
              go_wp2
              refine ⟨⟨j + 1, by go_num, by omega, HPUT, HO8, HC8, HZ8⟩, by simp only [intOf]; omega⟩
            · exact (hg.block i (by have := hwp7; simp; omega) (fun e => by have := hrb i e.symm; omega)).trans ((Below.heap_alloc _ _ _ (by omega)).trans ((HE27.out.block i (by have := hO.out.size; omega)).trans (hO.out.block i hi hne)))
        · have hjn : j = n := by omega
          have HGN := Lib.hid (show GrO wr (w.heap.size + 1) (w.heap.size + 1) n (rowsTo s ps (k + 1) ++ List.replicate (n - (k + 1)) []) by
            have := hG.out
            rw [rowsTo_succ HP.out, HL.out, List.append_assoc, show n - (k + 1) = n - k - 1 by omega]
            rw [hjn] at this
            exact this)
          have HZN := Lib.hid (show ∀ j, k + 1 ≤ j → j < n → wr.cell? ⟨w.heap.size + 1, j, none⟩ = some (.slice none 0 0) from fun i h1 h2 => hZ.out i (by omega) h2)
          have HEN := Lib.hid hEw
          go_wp2_with fail
          refine ⟨⟨k + 1, by go_num, by omega, HGN, HEN, ⟨u0, u1⟩, HZN⟩, by simp only [intOf]; omega⟩
    · have hkn : k = n := by omega
      have HF := Lib.hid (show GrO wr w.heap.size (w.heap.size + 1) n (rowsTo s ps n) by
        have := hG.out
        rw [hkn, Nat.sub_self, List.replicate_zero, List.append_nil] at this
        exact this.lower (Nat.le_succ _))
      go_wp2
      go_ret
      exact ⟨_, rfl, HF.out, hE.out⟩

/-! The reference's graph. -/
/-- A growing row of lists; the lists lie beside the row. -/
def GrP (w : World) (B : Nat) (A : Option Addr) (n c : Nat) (xss : List (List Int)) : Prop :=
  ∃ vs, w.ownsRow B 22 1 (.slice A n c) n vs ∧ xss.length = n ∧ ∀ (j : Nat) (v : Value) (xs : List Int), vs[j]? = some v → xss[j]? = some xs → ∃ A' c', v = .slice A' xs.length c' ∧ RI w A' xs.length xs ∧ ∀ b o s, A' = some ⟨b, o, s⟩ → (Value.slice A n c).ownBlock ≠ some b ∧ b < w.heap.size
section
variable {w w' : World} {B n c : Nat} {A : Option Addr} {xss : List (List Int)}
theorem GrP.ext (h : GrP w B A n c xss) (k : Ext w w') : GrP w' B A n c xss := by
  obtain ⟨vs, h1, h2, h3⟩ := h
  refine ⟨vs, ownsRow_blk h1 (fun g _ hg => k.block g hg), h2, fun j v xs e1 e2 => ?_⟩
  obtain ⟨A', c', e3, e4, e5⟩ := h3 j v xs e1 e2
  exact ⟨A', c', e3, e4.ext k, fun b o s e => ⟨(e5 b o s e).1, Nat.lt_of_lt_of_le (e5 b o s e).2 k.size⟩⟩
theorem GrP.rsi (h : GrP w B A n c xss) (hn : n ≤ 4194304) : RSI w A n xss := by
  obtain ⟨vs, h1, h2, h3⟩ := h
  refine ⟨⟨h2, hn⟩, fun j xs hx => ?_⟩
  have hj : j < n := by have := (List.getElem?_eq_some_iff.1 hx).1; omega
  have hvl : vs.length = n := by have := h1.1; simpa using this
  obtain ⟨g, cap, hv, _, _⟩ := World.ownsRow.form h1 (by omega)
  cases hv
  have hvj : vs[j]? = some (vs[j]'(by omega)) := List.getElem?_eq_getElem (by omega)
  obtain ⟨A', c', e3, e4, _⟩ := h3 j _ xs hvj hx
  exact ⟨g, 0, A', xs.length, c', rfl, by rw [Nat.zero_add, World.ownsRow.cellAt h1 j (by omega), hvj, e3], e4⟩
theorem GrP.push {wx : World} {g cap c' : Nat} {A' : Option Addr} {xs : List Int} {vs : List Value} (hl : xss.length = n) (h3 : ∀ (j : Nat) (v : Value) (xs : List Int), vs[j]? = some v → xss[j]? = some xs → ∃ A' c', v = .slice A' xs.length c' ∧ RI w A' xs.length xs ∧ ∀ b o s, A' = some ⟨b, o, s⟩ → (Value.slice A n c).ownBlock ≠ some b ∧ b < w.heap.size) (hvl : vs.length = n)
    (hx : RI w A' xs.length xs) (hb : ∀ b o s, A' = some ⟨b, o, s⟩ → (Value.slice A n c).ownBlock ≠ some b ∧ b < w.heap.size) (hg : w.grownBy wx (Value.slice A n c).ownBlock) (hat : (Value.slice A n c).ownBlock = some g ∨ w.heap.size ≤ g)
    (hown : wx.ownsRow B 22 1 (.slice (some ⟨g, 0, none⟩) (n + 1) cap) (n + 1) (vs ++ [.slice A' xs.length c'])) : GrP wx B (some ⟨g, 0, none⟩) (n + 1) cap (xss ++ [xs]) := by
  have key : ∀ (A2 : Option Addr) (ys : List Int), RI w A2 ys.length ys → (∀ b o s, A2 = some ⟨b, o, s⟩ → (Value.slice A n c).ownBlock ≠ some b ∧ b < w.heap.size) → RI wx A2 ys.length ys ∧ ∀ b o s, A2 = some ⟨b, o, s⟩ → (Value.slice (some (⟨g, 0, none⟩ : Addr)) (n + 1) cap).ownBlock ≠ some b ∧ b < wx.heap.size := fun A2 ys h4 h5 => by
    refine ⟨⟨h4.1, fun h6 => ?_⟩, fun b o s e => ⟨fun e2 => ?_, Nat.lt_of_lt_of_le (h5 b o s e).2 hg.size⟩⟩
    · obtain ⟨b, o, e, h7⟩ := h4.2 h6
      exact ⟨b, o, e, fun j x hj => hg.cell (h7 j x hj) (fun e2 => (h5 b o none e).1 e2.symm)⟩
    · have e3 : g = b := by simpa [Value.ownBlock] using e2
      subst e3
      rcases hat with h6 | h6
      · exact (h5 g o s e).1 h6
      · have := (h5 g o s e).2; omega
  refine ⟨_, hown, by simp [hl], fun j v ys e1 e2 => ?_⟩
  rcases Nat.lt_or_ge j n with h | h
  · rw [List.getElem?_append_left (by omega)] at e1 e2
    obtain ⟨A2, c2, e3, e4, e5⟩ := h3 j v ys e1 e2
    obtain ⟨h6, h7⟩ := key A2 ys e4 e5
    exact ⟨A2, c2, e3, h6, h7⟩
  · have hj : j = n := by have := (List.getElem?_eq_some_iff.1 e1).1; simp [hvl] at this; omega
    subst hj
    rw [List.getElem?_append_right (by omega), hvl, Nat.sub_self] at e1
    rw [List.getElem?_append_right (by omega), hl, Nat.sub_self] at e2
    cases e1; cases e2
    obtain ⟨h6, h7⟩ := key A' xs hx hb
    exact ⟨A', c', rfl, h6, h7⟩
end
set_option maxRecDepth 100000 in
set_option maxHeartbeats 8000000 in
theorem c_l18Graph {v0 : Value} {A : Option Addr} {n c : Nat} {s : Sy} {ps : List DepP} {w : World} (h0 : RdSyC w v0 s) (h1 : RE w A n ps) (hs : SysP s) (ht : ∀ q ∈ ps, TermP s.ar q.l ∧ TermP s.ar q.r) (hn : n ≤ 64) :
    Calls Try.prog 40 #[v0, .slice A n c] w fun e w' => ∃ A' m c', e = .returned (.slice A' m c') ∧ RSI w' A' m (rowsTo s ps n) ∧ Ext w w' := by
  obtain ⟨SA, sn, sc, SB, sm, sd, rfl, ha, hb⟩ := h0
  have HA := Lib.hid ha
  have HB := Lib.hid hb
  have HE := Lib.hid h1
  have HS := Lib.hid hs
  have HT := Lib.hid ht
  have HL := Lib.hid h1.1.1
  obtain ⟨i0, hii, hiz, his, hib⟩ := info_parts slices_info
  obtain ⟨i1, hji, hjz, hjs, hjb⟩ := info_parts int64_info
  clear ha hb h1 hs ht
  go_enter Try.func40, Try.ntmps40
  go_wp2_with fail
  obtain ⟨wb, hwb⟩ : ∃ wb, wb = w.alloc (.cells #[.slice SA sn sc, .slice SB sm sd] 36) := ⟨_, rfl⟩
  rw [← hwb]
  have hzb : wb.heap.size = w.heap.size + 1 := by rw [hwb]; simp
  have a0 : wb.cell? ⟨w.heap.size, 0, none⟩ = some (.slice SA sn sc) := by rw [hwb]; simp [go_sem]
  have a1 : wb.cell? ⟨w.heap.size, 1, none⟩ = some (.slice SB sm sd) := by rw [hwb]; simp [go_sem]
  have hEb : Ext w wb := by rw [hwb]; exact extX
  clear hwb
  obtain ⟨wc, hwc⟩ : ∃ wc, wc = wb.alloc (.cells #[] 22) := ⟨_, rfl⟩
  rw [← hwc]
  have hEc : Ext wb wc := by rw [hwc]; exact extX
  have HG0 := Lib.hid (show GrP wc (w.heap.size + 1) (some ⟨w.heap.size + 1, 0, none⟩) 0 0 (rowsTo s ps 0) from ⟨[], ⟨rfl, .inr ⟨w.heap.size + 1, 0, #[], rfl, Nat.le_refl _, by rw [hwc, ← hzb]; exact alloc_at _ _, Nat.le_refl _, by decide, rfl, rfl⟩⟩, rfl, fun j v xs h => by simp at h⟩)
  have HE0 := Lib.hid (Ext.trans hEb hEc)
  have a0 := Ext.keep hEc a0
  have a1 := Ext.keep hEc a1
  have hwl : w.heap.size < wc.heap.size := World.block_lt_of_cell? wc _ a0
  clear hwc hEb hEc hzb
  go_loopw [5, 6] (fun ov iv wr => ∃ k : Nat, iv = .int .i64 k ∧ k ≤ n ∧ (∃ A1 c1, ov = .slice A1 k c1 ∧ Hid (GrP wr (w.heap.size + 1) A1 k c1 (rowsTo s ps k))) ∧ Hid (Ext w wr) ∧ (wr.cell? ⟨w.heap.size, 0, none⟩ = some (.slice SA sn sc) ∧ wr.cell? ⟨w.heap.size, 1, none⟩ = some (.slice SB sm sd))) (fun _ iv _ => n - (intOf iv).toNat)
  case atStart => exact ⟨0, rfl, Nat.zero_le _, ⟨_, 0, rfl, HG0⟩, HE0, a0, a1⟩
  case round =>
    obtain ⟨k, rfl, hk, ⟨A1, c1, rfl, hG⟩, hE, hr0, hr1⟩ := hrel
    by_cases hlt : k < n
    · obtain ⟨p, b, o, P1, n1, d1, P2, n2, d2, hp, rfl, hd0, hd1, hd2, hd3, hcp1, hcp2, hl1, hl2⟩ := RE.at_ HE.out hlt
      have HP := Lib.hid hp
      have HCP1 := Lib.hid hcp1
      have HCP2 := Lib.hid hcp2
      have HL1 := Lib.hid hl1
      have HL2 := Lib.hid hl2
      have HTP := Lib.hid (HT.out p (List.mem_of_getElem? hp)).2
      have hki : (k : Int) < (n : Int) := by omega
      clear hp hcp1 hcp2 hl1 hl2
      obtain ⟨wu, rfl⟩ : ∃ wu : World, wu = wr := ⟨_, rfl⟩
      have hul : w.heap.size < wu.heap.size := World.block_lt_of_cell? wu _ hr0
      go_wp2_with fail
      have HO0 := Lib.hid (OwI.none0 (w := wu) (D := wu.heap.size) (Nat.le_refl _))
      have HF0 := Lib.hid (show Ext wu (wu.alloc (.cells #[] 2)) by exact extX)
      go_loopw [7, 8] (fun ov iv wr => ∃ j : Nat, iv = .int .i64 j ∧ j ≤ n ∧ (∃ A2 m2 c2, ov = .slice A2 m2 c2 ∧ m2 ≤ j ∧ Hid (OwI wr wu.heap.size A2 m2 c2 (rowTo s ps p j))) ∧ Hid (Ext wu wr)) (fun _ iv _ => n - (intOf iv).toNat)
      case atStart => exact ⟨0, rfl, Nat.zero_le _, ⟨_, 0, 0, rfl, Nat.le_refl _, HO0⟩, HF0⟩
      case round =>
        obtain ⟨j, rfl, hj, ⟨A2, m2, c2, rfl, hm2, hO⟩, hF⟩ := hrel
        have hEw : Ext w wr := Ext.trans hE.out hF.out
        have u0 := Ext.keep hF.out hr0
        have u1 := Ext.keep hF.out hr1
        by_cases hlt2 : j < n
        · obtain ⟨q, _, _, B1, m3, d3, B2, m4, d4, hq, e9, he0, he1, he2, he3, hcq1, hcq2, hm1, hm2'⟩ := RE.at_ HE.out hlt2
          cases e9
          have HQ := Lib.hid hq
          have HCQ1 := Lib.hid hcq1
          have HCQ2 := Lib.hid hcq2
          have HM1 := Lib.hid hm1
          have HM2 := Lib.hid hm2'
          have hji2 : (j : Int) < (n : Int) := by omega
          have HTQ := Lib.hid (HT.out q (List.mem_of_getElem? hq)).1
          have x0 := Ext.keep hEw hd0
          have x1 := Ext.keep hEw hd1
          have x2 := Ext.keep hEw hd2
          have x3 := Ext.keep hEw hd3
          have y0 := Ext.keep hEw he0
          have y1 := Ext.keep hEw he1
          have y2 := Ext.keep hEw he2
          have y3 := Ext.keep hEw he3
          have HEw := Lib.hid hEw
          obtain ⟨cv, hcv⟩ : ∃ cv, cv = connV s p q := ⟨_, rfl⟩
          have HCV := Lib.hid hcv
          clear hq hcq1 hcq2 hm1 hm2' hEw hcv
          go_wp2_with fail
          refine wp_region_held_drew (S := (fun w' => Ext wr w' ∧ (w'.cell? ⟨w.heap.size, 0, none⟩ = some (.slice SA sn sc) ∧ w'.cell? ⟨w.heap.size, 1, none⟩ = some (.slice SB sm sd)) ∧ (w'.cell? ⟨b, o + k * 4, none⟩ = some (.slice P1 n1 d1) ∧ w'.cell? ⟨b, o + k * 4 + 1, none⟩ = some (.slice P2 n2 d2) ∧ w'.cell? ⟨b, o + k * 4 + 2, none⟩ = some (.int .i64 p.rule) ∧ w'.cell? ⟨b, o + k * 4 + 3, none⟩ = some (.int .i64 p.at_)) ∧ (w'.cell? ⟨b, o + j * 4, none⟩ = some (.slice B1 m3 d3) ∧ w'.cell? ⟨b, o + j * 4 + 1, none⟩ = some (.slice B2 m4 d4) ∧ w'.cell? ⟨b, o + j * 4 + 2, none⟩ = some (.int .i64 q.rule) ∧ w'.cell? ⟨b, o + j * 4 + 3, none⟩ = some (.int .i64 q.at_)))) (by kernel_rfl) ?_ (fun hH => ?_)
          · exact ⟨(Ext.refl wr).drew, ⟨u0, u1⟩, ⟨x0, x1, x2, x3⟩, y0, y1, y2, y3⟩
          refine wpAnyH_take_dst (i := 0) (v := .agg #[.slice SA sn sc, .slice SB sm sd]) (d := some 23) rfl rfl (by kernel_rfl) (by kernel_rfl) (by kernel_rfl) (fun _ _ _ h => h) (Or.inl ⟨by rfl, ?_⟩) hH ?_
          · (intro w hSw; (try dsimp only at hSw); go_split_ands; go_simp; try with_reducible rfl)
          try simp only [Act.put, List.setIfInBounds_toArray, List.set_cons_zero, List.set_cons_succ]
          refine wpAnyH_take_dst (i := 1) (v := .slice (some ⟨b, o, none⟩) n c) (d := some 24) rfl rfl (by kernel_rfl) (by kernel_rfl) (by kernel_rfl) (fun _ _ _ h => h) (Or.inl ⟨by rfl, ?_⟩) hH ?_
          · (intro w hSw; (try dsimp only at hSw); go_split_ands; go_simp; try with_reducible rfl)
          try simp only [Act.put, List.setIfInBounds_toArray, List.set_cons_zero, List.set_cons_succ]
          refine wpAnyH_take_dst (i := 2) (v := .int .i64 (k : Int)) (d := some 25) rfl rfl (by kernel_rfl) (by kernel_rfl) (by kernel_rfl) (fun _ _ _ h => h) (Or.inl ⟨by rfl, ?_⟩) hH ?_
          · (intro w hSw; (try dsimp only at hSw); go_split_ands; go_simp; try with_reducible rfl)
          try simp only [Act.put, List.setIfInBounds_toArray, List.set_cons_zero, List.set_cons_succ]
          refine wpAnyH_take_dst (i := 3) (v := .pointer (some ⟨b, o + k * 4, none⟩)) (d := some 26) rfl rfl (by kernel_rfl) (by kernel_rfl) (by kernel_rfl) (fun _ _ _ h => h) (Or.inl ⟨by rfl, ?_⟩) hH ?_
          · (intro w hSw; (try dsimp only at hSw); go_split_ands; go_simp; try with_reducible rfl)
          try simp only [Act.put, List.setIfInBounds_toArray, List.set_cons_zero, List.set_cons_succ]
          refine wpAnyH_take_dst (i := 4) (v := .agg #[.slice P1 n1 d1, .slice P2 n2 d2, .int .i64 p.rule, .int .i64 p.at_]) (d := some 27) rfl rfl (by kernel_rfl) (by kernel_rfl) (by kernel_rfl) (fun _ _ _ h => h) (Or.inl ⟨by rfl, ?_⟩) hH ?_
          · (intro w hSw; (try dsimp only at hSw); go_split_ands; go_simp; try with_reducible rfl)
          try simp only [Act.put, List.setIfInBounds_toArray, List.set_cons_zero, List.set_cons_succ]
          refine wpAnyH_take_dst (i := 5) (v := .slice (some ⟨b, o, none⟩) n c) (d := some 28) rfl rfl (by kernel_rfl) (by kernel_rfl) (by kernel_rfl) (fun _ _ _ h => h) (Or.inl ⟨by rfl, ?_⟩) hH ?_
          · (intro w hSw; (try dsimp only at hSw); go_split_ands; go_simp; try with_reducible rfl)
          try simp only [Act.put, List.setIfInBounds_toArray, List.set_cons_zero, List.set_cons_succ]
          refine wpAnyH_take_dst (i := 6) (v := .int .i64 (j : Int)) (d := some 29) rfl rfl (by kernel_rfl) (by kernel_rfl) (by kernel_rfl) (fun _ _ _ h => h) (Or.inl ⟨by rfl, ?_⟩) hH ?_
          · (intro w hSw; (try dsimp only at hSw); go_split_ands; go_simp; try with_reducible rfl)
          try simp only [Act.put, List.setIfInBounds_toArray, List.set_cons_zero, List.set_cons_succ]
          refine wpAnyH_take_dst (i := 7) (v := .pointer (some ⟨b, o + j * 4, none⟩)) (d := some 30) rfl rfl (by kernel_rfl) (by kernel_rfl) (by kernel_rfl) (fun _ _ _ h => h) (Or.inl ⟨by rfl, ?_⟩) hH ?_
          · (intro w hSw; (try dsimp only at hSw); go_split_ands; go_simp; try with_reducible rfl)
          try simp only [Act.put, List.setIfInBounds_toArray, List.set_cons_zero, List.set_cons_succ]
          refine wpAnyH_take_dst (i := 8) (v := .agg #[.slice B1 m3 d3, .slice B2 m4 d4, .int .i64 q.rule, .int .i64 q.at_]) (d := some 31) rfl rfl (by kernel_rfl) (by kernel_rfl) (by kernel_rfl) (fun _ _ _ h => h) (Or.inl ⟨by rfl, ?_⟩) hH ?_
          · (intro w hSw; (try dsimp only at hSw); go_split_ands; go_simp; try with_reducible rfl)
          try simp only [Act.put, List.setIfInBounds_toArray, List.set_cons_zero, List.set_cons_succ]
          refine wpAnyH_ready (rs := [9]) (by kernel_rfl) (by simp) ?_
          refine AllReadyH.cons rfl (fun K hK => ?_) AllReadyH.nil
          rw [if_pos (by rfl)]
          go_wp2_with (go_at_call 31; (with_reducible refine ((c_l17Connected (s := s) (p := p) (q := q) (RdSyK.mk (RI.ext HA.out (Ext.trans HEw.out hH.1)) (RR.ext HB.out (Ext.trans HEw.out hH.1))) (RdDp.mk HCP1.out HCP2.out (RI.ext HL1.out (Ext.trans HEw.out hH.1)) (RI.ext HL2.out (Ext.trans HEw.out hH.1))) (RdDp.mk HCQ1.out HCQ2.out (RI.ext HM1.out (Ext.trans HEw.out hH.1)) (RI.ext HM2.out (Ext.trans HEw.out hH.1))) HS.out HTP.out HTQ.out)).mono ?_); rintro e w7 ⟨rfl, hE9⟩)
          refine hK.out _ _ ⟨Ext.trans hH.1 hE9, ⟨Ext.keep hE9 hH.2.1.1, Ext.keep hE9 hH.2.1.2⟩, ⟨Ext.keep hE9 hH.2.2.1.1, Ext.keep hE9 hH.2.2.1.2.1, Ext.keep hE9 hH.2.2.1.2.2.1, Ext.keep hE9 hH.2.2.1.2.2.2⟩, Ext.keep hE9 hH.2.2.2.1, Ext.keep hE9 hH.2.2.2.2.1, Ext.keep hE9 hH.2.2.2.2.2.1, Ext.keep hE9 hH.2.2.2.2.2.2⟩ (fun hH9 => ?_)
          clear hK hH; have hH := hH9; clear hH9
          try simp only [Act.put, List.setIfInBounds_toArray, List.set_cons_zero, List.set_cons_succ]
          refine wpAnyH_done (by kernel_rfl) ?_ _
          have hE7 := hH.1
          clear hH
          rw [← HCV.out]
          have HF7 := Lib.hid (Ext.trans hF.out hE7)
          have HO7 := Lib.hid (hO.out.ext hE7)
          clear u0 u1 x0 x1 x2 x3 y0 y1 y2 y3
          cases cv with
          | false =>
            have HR := Lib.hid (rowTo_f HQ.out HCV.out.symm)
            go_wp2_with fail
            refine ⟨⟨j + 1, by go_num, by omega, ⟨A2, m2, c2, rfl, by omega, by rw [HR.out]; exact HO7⟩, HF7⟩, by simp only [intOf]; omega⟩
          | true =>
            have HR := Lib.hid (rowTo_t HQ.out HCV.out.symm)
            have hz7 : wu.heap.size ≤ w7.heap.size := HF7.out.size
            have hob := OwI.ob2 HO7.out
            go_wp2_with (at_builtin; go_loud (refine wpList_append_lies _ rfl (.tmp 33) (.tmp 35) 22 rfl wu.heap.size 2 i1 (.int .i64 0) 1 8 Try.underlying22 hji hjz hjs hjb rfl (by decide) _ _ _ rfl (OwI.alloc HO7.out _).2 ⟨w7.heap.size, 0, none⟩ 1 1 [.int .i64 (j : Int)] rfl rfl (one_cells _ _ _) (one_one _) (by decide) (by unfold maxLen; omega) (by omega) (by go_size) _ rfl ?_))
            intro g2 cap wx hown hg hat hltg
            have HOx := Lib.hid (show OwI wx wu.heap.size (some ⟨g2, 0, none⟩) (m2 + 1) cap (rowTo s ps p (j + 1)) from ⟨by omega, by rw [HR.out]; simpa using hown⟩)
            have HFx := Lib.hid (show Ext wu wx from Ext.grown (HF7.out.alloc _) hg (fun b hb => (hob b hb).1))
            clear hown hg hat hob
            go_wp2
            refine ⟨⟨j + 1, by go_num, by omega, ⟨_, _, _, rfl, by omega, HOx⟩, HFx⟩, by simp only [intOf]; omega⟩
        · have hjn : j = n := by omega
          have HRN := Lib.hid (show OwI wr wu.heap.size A2 m2 c2 (rowTo s ps p ps.length) by rw [HL.out, ← hjn]; exact hO.out)
          have hml := HRN.out.len
          obtain ⟨vs, hv1, hv2, hv3⟩ := hG.out.ext hF.out
          have hvl : vs.length = k := by have := hv1.1; simpa using this
          have HV1 := Lib.hid hv1
          have HV3 := Lib.hid hv3
          have HRS := Lib.hid (rowsTo_succ (s := s) HP.out)
          have HEW := Lib.hid hEw
          have hobk : ∀ b, (Value.slice A1 k c1).ownBlock = some b → w.heap.size + 1 ≤ b ∧ b < wu.heap.size := fun b hb => by
            obtain ⟨vs', k1, _⟩ := hG.out
            exact World.ownsRow.lt k1 b hb
          have HOB := Lib.hid hobk
          have hzr : w.heap.size + 1 ≤ wr.heap.size := by have := hF.out.size; omega
          have hurs : wu.heap.size ≤ wr.heap.size := hF.out.size
          have HML := Lib.hid hml
          clear hv1 hv3 hEw hobk hml
          go_wp2_with (at_builtin; go_loud (refine wpList_append_lies _ rfl (.tmp 37) (.tmp 39) 43 rfl (w.heap.size + 1) 22 i0 (.slice none 0 0) 1 24 Try.underlying43 hii hiz his hib rfl (by decide) _ _ vs rfl (World.ownsRow.alloc HV1.out _) ⟨wr.heap.size, 0, none⟩ 1 1 [.slice A2 m2 c2] rfl rfl (one_cells _ _ _) (one_slice _ _ _) (by decide) (by unfold maxLen; omega) (by omega) (by go_size) _ rfl ?_))
          intro g2 cap wx hown hg hat hltg
          have hbx := fun b hb => (HOB.out b hb)
          have HGN := Lib.hid (show GrP wx (w.heap.size + 1) (some ⟨g2, 0, none⟩) (k + 1) cap (rowsTo s ps (k + 1)) from by
            rw [HRS.out]
            refine GrP.push (w := wr.alloc (.cells #[.slice A2 m2 c2] 22)) (A := A1) (c := c1) (c' := c2) (A' := A2) (vs := vs) hv2 (fun j v xs e1 e2 => ?_) hvl ?_ (fun b o s e => ?_) hg ?_ (by rw [HML.out]; exact hown)
            · obtain ⟨A', c', e3, e4, e5⟩ := HV3.out j v xs e1 e2
              exact ⟨A', c', e3, e4.ext (Ext.alloc (Ext.refl _) _), fun b o s e => ⟨(e5 b o s e).1, by have := (e5 b o s e).2; simp; omega⟩⟩
            · rw [HML.out]; exact HRN.out.ri.ext (Ext.alloc (Ext.refl _) _)
            · have h9 := HRN.out.bd b o s e
              exact ⟨fun e2 => by have := (hbx b e2).2; omega, by simp; omega⟩
            · rcases hat with h | h
              · exact .inl h
              · exact .inr (by rw [h, World.size_alloc]; exact Nat.le_refl _))
          have HEX := Lib.hid (show Ext w wx from Ext.grown (HEW.out.alloc _) hg (fun b hb => by have := (hbx b hb).1; omega))
          have hne0 : some w.heap.size ≠ (Value.slice A1 k c1).ownBlock := fun e => by have := (hbx _ e.symm).1; omega
          have z0 := hg.cell (Ext.keep (Ext.alloc (Ext.refl wr) (.cells #[.slice A2 m2 c2] 22)) u0) hne0
          have z1 := hg.cell (Ext.keep (Ext.alloc (Ext.refl wr) (.cells #[.slice A2 m2 c2] 22)) u1) hne0
          clear hown hg hat hbx u0 u1
          go_wp2
          refine ⟨⟨k + 1, by go_num, by omega, ⟨_, _, rfl, HGN⟩, HEX, z0, z1⟩, by simp only [intOf]; omega⟩
    · have hkn : k = n := by omega
      have HF := Lib.hid (show RSI wr A1 k (rowsTo s ps n) by rw [← hkn]; exact hG.out.rsi (by omega))
      go_wp2
      go_ret
      exact ⟨A1, k, c1, rfl, HF.out, hE.out⟩

/-! GraphOf of both. -/
set_option maxRecDepth 100000 in
set_option maxHeartbeats 4000000 in
theorem c_iGraphOf {v0 : Value} {s : Sy} {w : World} (h0 : RdSyC w v0 s) :
    Calls Try.prog 15 #[v0] w fun e w' => ∃ A n, e = .returned (.slice A n n) ∧ GrV w' w.heap.size A n (grV s) ∧ Ext w w' := by
  obtain ⟨A0, n0, c0, B0, m0, d0, rfl, ha, hb⟩ := h0
  have HA := Lib.hid ha
  have HB := Lib.hid hb
  clear ha hb
  obtain ⟨h64, hsy, hts⟩ := prV_facts (s := s)
  obtain ⟨ps, hps⟩ : ∃ ps, prV s = ps := ⟨_, rfl⟩
  obtain ⟨bb, hbb⟩ : ∃ bb, prB s = bb := ⟨_, rfl⟩
  have HGR := Lib.hid (show grV s = rowsTo s ps ps.length by unfold grV; rw [hps])
  rw [hps] at h64 hsy hts
  have HPS := Lib.hid hps
  have HBB := Lib.hid hbb
  have HSY := Lib.hid hsy
  have HTS := Lib.hid hts
  clear hps hbb hsy hts
  go_enter Try.func15, Try.ntmps15
  go_wp2_with fail
  (with_reducible refine (c_iPairsOf HPS.out HBB.out (by (first | (first | (with_reducible exact RdI.mk (RI.ext (Hid.out (by with_reducible assumption)) (by exact extX))) | (with_reducible exact RdI.ext (by with_reducible assumption) (by exact extX))) | (with_reducible exact RdDp.mk (OwI.cap (Hid.out (by with_reducible assumption))) (OwI.cap (Hid.out (by with_reducible assumption))) (by (first | (with_reducible exact RI.ext (Hid.out (by with_reducible assumption)) (by exact extX)))) (by (first | (with_reducible exact RI.ext (Hid.out (by with_reducible assumption)) (by exact extX))))) | (with_reducible exact RdDp.ext (by with_reducible assumption) (by exact extX)) | (with_reducible exact RdSyK.mk (by (first | (with_reducible exact RI.ext (Hid.out (by with_reducible assumption)) (by exact extX)))) (RR.ext (Hid.out (by with_reducible assumption)) (by exact extX))) | (with_reducible exact RdSyK.ext (by with_reducible assumption) (by exact extX)) | (with_reducible exact RdSig.mk (by (first | (with_reducible exact RI.ext (Hid.out (by with_reducible assumption)) (by exact extX))))) | (with_reducible exact RdSig.ext (by with_reducible assumption) (by exact extX))))).mono ?_)
  rintro e w1 ⟨A1, n1, c1, rfl, hO1, hE1⟩
  have HR1 := Lib.hid hO1.re
  have hn1 : ps.length = n1 := hO1.1.2.1
  have HN1 := Lib.hid hn1
  clear hO1
  have hz1 := sz_of hE1; (try simp only [World.size_alloc, World.size_setCell, World.size_drew] at hz1); obtain ⟨hc1, hf1⟩ := bcell hE1; (try have hq1_0 : w.heap.size < w1.heap.size := by omega); (try have hq1_1 : w.heap.size + 1 < w1.heap.size := by omega); (try have hq1_2 : w.heap.size + 1 + 1 < w1.heap.size := by omega); (try have hq1_3 : w.heap.size + 1 + 1 + 1 < w1.heap.size := by omega); (try have hq1_4 : w.heap.size + 1 + 1 + 1 + 1 < w1.heap.size := by omega); (try have hq1_5 : w.heap.size + 1 + 1 + 1 + 1 + 1 < w1.heap.size := by omega)
  by_cases hn0 : n1 = 0
  · subst hn0
    have HN := Lib.hid (show grV s = [] by rw [HGR.out, hn1]; rfl)
    clear hn1
    go_wp2
    go_ret
    exact ⟨none, 0, rfl, ⟨by rw [HN.out]; rfl, by omega, .inl ⟨rfl, rfl⟩⟩, by exact extX⟩
  · have hd : ((n1 : Int) == 0) = false := by simp; omega
    have HS := Lib.hid (show SysP s from HSY.out.resolve_left (fun e => hn0 (by rw [← hn1, e]; rfl)))
    have h641 : n1 ≤ 64 := by omega
    clear hn0 hn1 h64
    go_wp2_with fail
    (with_reducible refine (c_graph (s := s) (ps := ps) (by (first | (first | (with_reducible exact RdI.mk (RI.ext (Hid.out (by with_reducible assumption)) (by exact extX))) | (with_reducible exact RdI.ext (by with_reducible assumption) (by exact extX))) | (with_reducible exact RdDp.mk (OwI.cap (Hid.out (by with_reducible assumption))) (OwI.cap (Hid.out (by with_reducible assumption))) (by (first | (with_reducible exact RI.ext (Hid.out (by with_reducible assumption)) (by exact extX)))) (by (first | (with_reducible exact RI.ext (Hid.out (by with_reducible assumption)) (by exact extX))))) | (with_reducible exact RdDp.ext (by with_reducible assumption) (by exact extX)) | (with_reducible exact RdSyK.mk (by (first | (with_reducible exact RI.ext (Hid.out (by with_reducible assumption)) (by exact extX)))) (RR.ext (Hid.out (by with_reducible assumption)) (by exact extX))) | (with_reducible exact RdSyK.ext (by with_reducible assumption) (by exact extX)) | (with_reducible exact RdSig.mk (by (first | (with_reducible exact RI.ext (Hid.out (by with_reducible assumption)) (by exact extX))))) | (with_reducible exact RdSig.ext (by with_reducible assumption) (by exact extX)))) (RE.ext HR1.out (by exact extX)) HS.out HTS.out h641).mono ?_)
    rintro e w2 ⟨g, rfl, hG2, hE2⟩
    have HG2 := Lib.hid hG2
    clear hG2
    have hz2 := sz_of hE2; (try simp only [World.size_alloc, World.size_setCell, World.size_drew] at hz2); obtain ⟨hc2, hf2⟩ := bcell hE2; (try have hq2_0 : w.heap.size < w2.heap.size := by omega); (try have hq2_1 : w.heap.size + 1 < w2.heap.size := by omega); (try have hq2_2 : w.heap.size + 1 + 1 < w2.heap.size := by omega); (try have hq2_3 : w.heap.size + 1 + 1 + 1 < w2.heap.size := by omega); (try have hq2_4 : w.heap.size + 1 + 1 + 1 + 1 < w2.heap.size := by omega); (try have hq2_5 : w.heap.size + 1 + 1 + 1 + 1 + 1 < w2.heap.size := by omega); (try have hx2_1 : w1.heap.size < w2.heap.size := by omega)
    go_wp2_with fail
    go_ret
    refine ⟨_, n1, rfl, ⟨by rw [HGR.out, rowsTo_len s ps _ (Nat.le_refl _), HN1.out], h641, .inr ⟨g, rfl, ?_⟩⟩, by exact extX⟩
    rw [HGR.out, HN1.out]
    exact HG2.out.lower (by go_size)
set_option maxRecDepth 100000 in
set_option maxHeartbeats 4000000 in
theorem c_sGraphOf {v0 : Value} {s : Sy} {w : World} (h0 : RdSyC w v0 s) :
    Calls Try.prog 14 #[v0] w fun e w' => ∃ A n c, e = .returned (.slice A n c) ∧ RSI w' A n (grV s) ∧ Ext w w' := by
  obtain ⟨A0, n0, c0, B0, m0, d0, rfl, ha, hb⟩ := h0
  have HA := Lib.hid ha
  have HB := Lib.hid hb
  clear ha hb
  obtain ⟨h64, hsy, hts⟩ := prV_facts (s := s)
  obtain ⟨ps, hps⟩ : ∃ ps, prV s = ps := ⟨_, rfl⟩
  obtain ⟨bb, hbb⟩ : ∃ bb, prB s = bb := ⟨_, rfl⟩
  have HGR := Lib.hid (show grV s = rowsTo s ps ps.length by unfold grV; rw [hps])
  rw [hps] at h64 hsy hts
  have HPS := Lib.hid hps
  have HBB := Lib.hid hbb
  have HSY := Lib.hid hsy
  have HTS := Lib.hid hts
  clear hsy hts
  go_enter Try.func14, Try.ntmps14
  go_wp2_with fail
  (with_reducible refine (c_sPairsOf HPS.out HBB.out (by (first | (first | (with_reducible exact RdI.mk (RI.ext (Hid.out (by with_reducible assumption)) (by exact extX))) | (with_reducible exact RdI.ext (by with_reducible assumption) (by exact extX))) | (with_reducible exact RdDp.mk (OwI.cap (Hid.out (by with_reducible assumption))) (OwI.cap (Hid.out (by with_reducible assumption))) (by (first | (with_reducible exact RI.ext (Hid.out (by with_reducible assumption)) (by exact extX)))) (by (first | (with_reducible exact RI.ext (Hid.out (by with_reducible assumption)) (by exact extX))))) | (with_reducible exact RdDp.ext (by with_reducible assumption) (by exact extX)) | (with_reducible exact RdSyK.mk (by (first | (with_reducible exact RI.ext (Hid.out (by with_reducible assumption)) (by exact extX)))) (RR.ext (Hid.out (by with_reducible assumption)) (by exact extX))) | (with_reducible exact RdSyK.ext (by with_reducible assumption) (by exact extX)) | (with_reducible exact RdSig.mk (by (first | (with_reducible exact RI.ext (Hid.out (by with_reducible assumption)) (by exact extX))))) | (with_reducible exact RdSig.ext (by with_reducible assumption) (by exact extX))))).mono ?_)
  rintro e w1 ⟨A1, n1, c1, rfl, hO1, hE1⟩
  have HR1 := Lib.hid hO1.re
  have hn1 : ps.length = n1 := hO1.1.2.1
  have HN1 := Lib.hid hn1
  clear hO1
  have hz1 := sz_of hE1; (try simp only [World.size_alloc, World.size_setCell, World.size_drew] at hz1); obtain ⟨hc1, hf1⟩ := bcell hE1; (try have hq1_0 : w.heap.size < w1.heap.size := by omega); (try have hq1_1 : w.heap.size + 1 < w1.heap.size := by omega); (try have hq1_2 : w.heap.size + 1 + 1 < w1.heap.size := by omega); (try have hq1_3 : w.heap.size + 1 + 1 + 1 < w1.heap.size := by omega); (try have hq1_4 : w.heap.size + 1 + 1 + 1 + 1 < w1.heap.size := by omega); (try have hq1_5 : w.heap.size + 1 + 1 + 1 + 1 + 1 < w1.heap.size := by omega)
  cases bb with
  | false =>
    have HN := Lib.hid (show grV s = [] by rw [HGR.out, ← hps, prB_nil hbb]; rfl)
    clear hn1 hps hbb
    go_wp2
    go_ret
    exact ⟨_, 0, 0, rfl, by rw [HN.out]; exact ⟨⟨rfl, by omega⟩, fun j xs hx => by simp at hx⟩, by exact extX⟩
  | true =>
    have HS := Lib.hid (show SysP s from sysOk_iff.1 (by unfold prB at hbb; rw [Bool.and_eq_true] at hbb; exact hbb.1))
    have h641 : n1 ≤ 64 := by omega
    clear hn1 h64 hps hbb
    go_wp2_with fail
    (with_reducible refine (c_l18Graph (s := s) (ps := ps) (by (first | (first | (with_reducible exact RdI.mk (RI.ext (Hid.out (by with_reducible assumption)) (by exact extX))) | (with_reducible exact RdI.ext (by with_reducible assumption) (by exact extX))) | (with_reducible exact RdDp.mk (OwI.cap (Hid.out (by with_reducible assumption))) (OwI.cap (Hid.out (by with_reducible assumption))) (by (first | (with_reducible exact RI.ext (Hid.out (by with_reducible assumption)) (by exact extX)))) (by (first | (with_reducible exact RI.ext (Hid.out (by with_reducible assumption)) (by exact extX))))) | (with_reducible exact RdDp.ext (by with_reducible assumption) (by exact extX)) | (with_reducible exact RdSyK.mk (by (first | (with_reducible exact RI.ext (Hid.out (by with_reducible assumption)) (by exact extX)))) (RR.ext (Hid.out (by with_reducible assumption)) (by exact extX))) | (with_reducible exact RdSyK.ext (by with_reducible assumption) (by exact extX)) | (with_reducible exact RdSig.mk (by (first | (with_reducible exact RI.ext (Hid.out (by with_reducible assumption)) (by exact extX))))) | (with_reducible exact RdSig.ext (by with_reducible assumption) (by exact extX)))) (RE.ext HR1.out (by exact extX)) HS.out HTS.out h641).mono ?_)
    rintro e w2 ⟨A2, m2, c2, rfl, hG2, hE2⟩
    have HG2 := Lib.hid hG2
    clear hG2
    have hz2 := sz_of hE2; (try simp only [World.size_alloc, World.size_setCell, World.size_drew] at hz2); obtain ⟨hc2, hf2⟩ := bcell hE2; (try have hq2_0 : w.heap.size < w2.heap.size := by omega); (try have hq2_1 : w.heap.size + 1 < w2.heap.size := by omega); (try have hq2_2 : w.heap.size + 1 + 1 < w2.heap.size := by omega); (try have hq2_3 : w.heap.size + 1 + 1 + 1 < w2.heap.size := by omega); (try have hq2_4 : w.heap.size + 1 + 1 + 1 + 1 < w2.heap.size := by omega); (try have hq2_5 : w.heap.size + 1 + 1 + 1 + 1 + 1 < w2.heap.size := by omega); (try have hx2_1 : w1.heap.size < w2.heap.size := by omega)
    go_wp2_with fail
    go_ret
    exact ⟨A2, m2, c2, rfl, by rw [HGR.out, HN1.out]; exact HG2.out.ext (by exact extX), by exact extX⟩

end Go.Proofs.Ytoopopgbbkmcpaa
