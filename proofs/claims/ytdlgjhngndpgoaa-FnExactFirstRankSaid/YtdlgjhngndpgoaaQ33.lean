/- Several texts in one: CoV, CoX, CoY. -/
import Derived.Test.YtdlgjhngndpgoaaQ09
import Derived.Test.YtdlgjhngndpgoaaQ17
import Derived.Test.YtdlgjhngndpgoaaQ32
import Derived.Test.YtdlgjhngndpgoaaQ10
import Derived.Test.YtdlgjhngndpgoaaQ30
namespace Go.Proofs.Ytdlgjhngndpgoaa
open Go.Conc Go.RowKit
set_option linter.unusedVariables false
set_option linter.unusedSimpArgs false
section
variable {L : Lim} {β γ : Bl}
theorem VRel.uniq (hid : ∀ k x, k < L.m → β k = some x → x = k) {u y : Value} (h : VRel L β u y) : ∀ {z : Value}, VRel L β u z → y = z := by
  have arr : ∀ {us bs cs : Array Value}, us.size = bs.size → us.size = cs.size → (∀ (i : Nat) (v w : Value), us[i]? = some v → bs[i]? = some w → ∀ {z : Value}, VRel L β v z → w = z) →
      (∀ (i : Nat) (v w : Value), us[i]? = some v → cs[i]? = some w → VRel L β v w) → bs = cs := fun {us bs cs} h1 h2 ih k => by
    refine Array.ext_getElem? fun i => ?_
    cases hb : bs[i]? with
    | none =>
      have : cs.size ≤ i := by rw [← h2, h1]; simpa using hb
      simp [this]
    | some b =>
      have hi : i < bs.size := (Array.getElem?_eq_some_iff.1 hb).1
      have ha : us[i]? = some us[i] := Array.getElem?_eq_getElem (by omega)
      have hc : cs[i]? = some cs[i] := Array.getElem?_eq_getElem (by omega)
      rw [hc, ih i _ _ ha hb (k i _ _ ha hc)]
  have ora : ∀ {a b c : Option Addr}, OARel L β a b → OARel L β a c → b = c := fun {a b c} h k => by
    cases a with
    | none => cases b <;> cases c <;> first | rfl | exact h.elim | exact k.elim
    | some a =>
      cases b with
      | none => exact h.elim
      | some b =>
        cases c with
        | none => exact k.elim
        | some c =>
          obtain ⟨h1, h2, h3, _⟩ := h
          obtain ⟨k1, k2, k3, _⟩ := k
          rw [h1] at k1
          obtain ⟨bb, bo, bs⟩ := b
          obtain ⟨cb, co, cs⟩ := c
          simp only at h2 h3 k2 k3 k1
          injection k1 with k1
          rw [k1, ← h2, ← h3, ← k2, ← k3]
  have orz : ∀ {a : Addr} {b : Option Addr}, a.block < L.m → OARel L β (some a) b → b = some a := fun {a b} hm h => by
    cases b with
    | none => exact h.elim
    | some b =>
      obtain ⟨h1, h2, h3, _⟩ := h
      have := hid _ _ hm h1
      obtain ⟨bb, bo, bs⟩ := b
      obtain ⟨ab, ao, us⟩ := a
      simp only at h2 h3 this
      rw [this, h2, h3]
  induction h with
  | poison h => exact fun k => (pz_inv k).symm
  | bool b => intro z k; generalize hx : Value.bool b = x at k; cases k <;> cases hx <;> rfl
  | int kd n => intro z k; generalize hx : Value.int kd n = x at k; cases k <;> cases hx <;> rfl
  | string s => intro z k; generalize hx : Value.string s = x at k; cases k <;> cases hx <;> rfl
  | @pointer a b h =>
    intro z k; generalize hx : Value.pointer a = x at k
    cases k <;> cases hx
    rename_i k
    rw [ora h k]
  | @slice a b n c h =>
    intro z k; generalize hx : Value.slice a n c = x at k
    cases k <;> cases hx
    · rename_i k
      rw [ora h k]
    · rename_i k
      rw [orz k h]
  | sliceZ a h =>
    intro z k; generalize hx : Value.slice (some a) 0 0 = x at k
    cases k <;> cases hx
    · rename_i k
      rw [orz h k]
    · rfl
  | map => intro z k; generalize hx : Value.map none = x at k; cases k <;> cases hx <;> rfl
  | @chan r s h =>
    intro z k; generalize hx : Value.chan (some r) = x at k
    cases k <;> cases hx
    rename_i k
    rw [h] at k; cases k; rfl
  | chan0 => intro z k; generalize hx : Value.chan none = x at k; cases k <;> cases hx <;> rfl
  | @func f us bs cs ds hf h1 h2 _ _ i3 i4 =>
    intro z k; generalize hx : Value.func (.func f) us cs = x at k
    cases k <;> cases hx
    congr 1
    · exact arr h1 (by assumption) i3 (by assumption)
    · exact arr h2 (by assumption) i4 (by assumption)
  | nilFunc => intro z k; generalize hx : Value.nilFunc = x at k; cases k <;> cases hx <;> rfl
  | @iface t v w ht h ih =>
    intro z k; generalize hx : Value.iface t v = x at k
    cases k <;> cases hx
    rename_i k1 k2
    rw [ih k2]
  | nilIface => intro z k; generalize hx : Value.nilIface = x at k; cases k <;> cases hx <;> rfl
  | @agg us bs h1 h ih =>
    intro z k; generalize hx : Value.agg us = x at k
    cases k <;> cases hx
    rename_i k1 k2
    rw [arr h1 k1 ih k2]
  | @tuple us bs h1 h ih =>
    intro z k; generalize hx : Value.tuple us = x at k
    cases k <;> cases hx
    rename_i k1 k2
    rw [arr h1 k1 ih k2]
theorem VsRel.uniq (hid : ∀ k x, k < L.m → β k = some x → x = k) {us ys zs : Array Value} (h : VsRel L β us ys) (k : VsRel L β us zs) : ys = zs := by
  have := VRel.uniq hid (VRel.agg h.1 h.2) (VRel.agg k.1 k.2)
  injection this
end
def isCells : Option Obj → Bool
  | some (.cells _ _ _) => true
  | _ => false
def bet0 (W : World) : Bl := fun k => if isCells W.heap[k]? then some k else none
theorem bet0_inv {W : World} {k x : Nat} (h : bet0 W k = some x) : x = k ∧ ∃ d T f, W.heap[k]? = some (.cells d T f) := by
  unfold bet0 at h
  split at h
  · rename_i hc
    cases h
    refine ⟨rfl, ?_⟩
    cases hk : W.heap[k]? with
    | none => rw [hk] at hc; cases hc
    | some o =>
      rw [hk] at hc
      cases o with
      | cells d T f => exact ⟨d, T, f, rfl⟩
      | _ => cases hc
  · cases h
theorem bet0_of {W : World} {k : Nat} {d : Array Value} {T : TypeId} {f : Nat × Nat} (h : W.heap[k]? = some (.cells d T f)) : bet0 W k = some k := by
  unfold bet0
  rw [h]; rfl
def padW (W : World) (m : Nat) : World := { W with heap := W.heap ++ Array.replicate m default }
theorem padW_at {W : World} {m k : Nat} (h : k < W.heap.size) : (padW W m).heap[k]? = W.heap[k]? := by
  show (W.heap ++ _)[k]? = _
  rw [Array.getElem?_append_left h]
theorem padW_size (W : World) (m : Nat) : (padW W m).heap.size = W.heap.size + m := by simp [padW]
theorem ghost_start (L : Lim) (hg : L.g = 0) (W : World) : ∃ v : World, v.heap.size = W.heap.size + L.m ∧ WRel L (bet0 W) v W ∧ ∀ (p : Addr) (x : Value), W.cell? p = some x → VRel L (bet0 W) x x → v.cell? p = some x := by
  obtain ⟨v, h1, _, _, _, _, h6, h7⟩ := rebuild (L := L) (γ := bet0 W) (padW W L.m) W (fun k x e => by
    obtain ⟨rfl, d, T, f, h⟩ := bet0_inv e
    have := (Array.getElem?_eq_some_iff.1 h).1
    exact ⟨by rw [padW_size]; omega, d, T, f, h⟩) (fun k l x e1 e2 => by rw [← (bet0_inv e1).1, ← (bet0_inv e2).1]) (by rw [hg]; exact Nat.zero_le _) (by rw [hg]; exact Nat.zero_le _)
  refine ⟨v, by rw [h1, padW_size], h6, fun p x hx hr => ?_⟩
  obtain ⟨c, T, f, e, hs, hc⟩ := cell_isC hx
  have hlt := (Array.getElem?_eq_some_iff.1 e).1
  obtain ⟨c', k1, k2, k3⟩ := h7 p.block p.block c T f (bet0_of e) e
  have := k3 p.off x x (by rw [padW_at hlt, e]; exact hc) hc hr
  unfold World.cell?
  rw [k1]
  simp only [hs, Option.isSome_none, Bool.false_eq_true, if_false]
  exact this
theorem real_end {L : Lim} {W v v' w : World} {γ : Bl} {O : Set_} (hv : L.m ≤ v.heap.size) (hW : WRel L (bet0 W) v W) (hW' : WRel L γ v' w) (hH : Hx v v') (hA : Acc (fun x => x < W.heap.size) (bet0 W) v W O γ v' w) : Below W.heap.size W w := by
  refine ⟨hA.os, hA.tape, hA.output, hA.gw, fun k hk => ?_⟩
  have hid : ∀ k x, k < L.m → γ k = some x → x = k := fun k x hm e => by
    rcases hA.new k x e with h | ⟨_, h⟩
    · exact (bet0_inv h).1
    · omega
  cases hb : bet0 W k with
  | none =>
    refine hA.keep k hk hk fun l e => ?_
    obtain ⟨rfl, d, T, f, h⟩ := bet0_inv e
    rw [bet0_of h] at hb; cases hb
  | some x =>
    obtain ⟨rfl, d, T, f, h⟩ := bet0_inv hb
    obtain ⟨o, p, h1, h2, h3⟩ := hW.blk _ _ hb
    rw [h] at h2; cases h2
    cases h3 with
    | cells _ _ h3 =>
      rename_i c
      obtain ⟨o', p', k1, k2, k3⟩ := hW'.blk _ _ (hA.le _ _ hb)
      rw [hH.2 x (lt_of_heap h1), h1] at k1
      cases k1
      cases k3 with
      | cells _ _ k3 =>
        rename_i d'
        rw [k2, h]
        rw [VsRel.uniq hid k3 (h3.mono hA.le)]
end Go.Proofs.Ytdlgjhngndpgoaa
namespace Go.Proofs.Ytdlgjhngndpgoaa
open Go.ChangeShapes Go.WideShapes Go.ChangeAt Go.RowKit Go.Joins Go.Deep
set_option linter.unusedSimpArgs false
set_option linter.unusedVariables false
set_option linter.constructorNameAsVariable false
def Fit (w : World) (A : Option Addr) (n c : Nat) : Prop := A = none ∨ ∃ a, A = some a ∧ ((∃ d T f, w.heap[a.block]? = some (.cells d T f)) ∨ (n = 0 ∧ c = 0))
theorem Fit.of_cell {w : World} {a : Addr} {n c : Nat} {i : Nat} {x : Value} (h : w.cell? (a.add i) = some x) : Fit w (some a) n c := by
  obtain ⟨d, T, f, h1, _⟩ := cell_isC h
  rw [add_blockC] at h1
  exact .inr ⟨a, rfl, .inl ⟨d, T, f, h1⟩⟩
theorem Fit.rel {w : World} {A : Option Addr} {n c : Nat} (h : Fit w A n c) : ∃ M, ∀ m, M ≤ m → VRel (LM m) (bet0 w) (.slice A n c) (.slice A n c) := by
  rcases h with rfl | ⟨a, rfl, ⟨d, T, f, h⟩ | ⟨rfl, rfl⟩⟩
  · exact ⟨0, fun m _ => .slice (a := none) (b := none) _ _ trivial⟩
  · exact ⟨0, fun m _ => .slice (a := some a) (b := some a) _ _ ⟨bet0_of h, rfl, rfl, Nat.zero_le _, Nat.zero_le _⟩⟩
  · exact ⟨a.block + 1, fun m hm => .sliceZ a (show a.block < m by omega)⟩
theorem bound_all {Q : Nat → Nat → Prop} (h : ∀ j, ∃ M, ∀ m, M ≤ m → Q j m) : ∀ N, ∃ M, ∀ m, M ≤ m → ∀ j, j < N → Q j m
  | 0 => ⟨0, fun m _ j hj => absurd hj (by omega)⟩
  | N + 1 => by
    obtain ⟨M1, h1⟩ := bound_all h N
    obtain ⟨M2, h2⟩ := h N
    refine ⟨M1 + M2, fun m hm j hj => ?_⟩
    rcases Nat.lt_or_ge j N with hl | hl
    · exact h1 m (by omega) j hl
    · obtain rfl : j = N := by omega
      exact h2 m (by omega)
def FG (w : World) (b o : Nat) (xs : List Int) : Prop := ∃ A n c, w.cell? ⟨b, o, none⟩ = some (.slice A n c) ∧ RJ w A n xs ∧ Fit w A n c
def RRG (w : World) (B : Option Addr) (m : Nat) (rs : List Ru) : Prop :=
  (rs.length = m ∧ m ≤ 9223372036854775807) ∧ (0 < m → ∃ b o, B = some ⟨b, o, none⟩ ∧ ∀ (j : Nat) (r : Ru), rs[j]? = some r → FG w b (o + j * 2) r.l ∧ FG w b (o + j * 2 + 1) r.r)
def RawG (w : World) (v : Value) (s : Sy) : Prop := ∃ A n c B m d, v = .agg #[.slice A n c, .slice B m d] ∧ RJ w A n s.ar ∧ Fit w A n c ∧ RRG w B m s.rs ∧ Fit w B m d
section
variable {H : Type} {enc : TypeId × Value → H} {P : Program} {w : World} {base b0 : Nat} {held : Bool} {r : Reach}
theorem raw_intsG {t e : TypeId} {fuel : Nat} {cs : List Value} {x : DataW H × List MemPlace} (ht : P.underlying t = some (.slice e)) (he : P.underlying e = some (.int .i64)) (hc : P.cellsOf e = 1)
    (h : DataW.trod enc P w base (fun _ => true) held fuel t cs = some x) : ∃ A n c xs, cs = [.slice A n c] ∧ RJ w A n xs ∧ Fit w A n c := by
  have h' := h
  obtain ⟨A, n, c, xs, e1, hr⟩ := raw_ints ht he hc h
  refine ⟨A, n, c, xs, e1, hr, ?_⟩
  rcases open_ints ht he hc h' with ⟨hcs, _⟩ | ⟨a, len, cap, zs, hcs, _, hl, hm, hz, _, hcell, hwf⟩
  · rw [hcs] at e1
    simp at e1
    exact .inl e1.1.symm
  · rw [hcs] at e1
    simp at e1
    obtain ⟨rfl, rfl, rfl⟩ := e1
    simp only [if_true] at hz
    rcases Nat.eq_zero_or_pos cap with h0 | h0
    · exact .inr ⟨a, rfl, .inr ⟨by omega, h0⟩⟩
    · exact Fit.of_cell (hcell 0 (by omega))
set_option maxRecDepth 100000 in
theorem raw_rulesG {fuel : Nat} {cs : List Value} {x : DataW H × List MemPlace} (h : DataW.trod enc Try.prog w base (fun _ => true) held fuel 40 cs = some x) : ∃ A n c rs, cs = [.slice A n c] ∧ RRG w A n rs ∧ Fit w A n c := by
  rcases open_slice_fields Try.underlying40 Try.underlying99 (by kernel_rfl) (by kernel_rfl) h with ⟨hcs, _⟩ | ⟨a, len, cap, m, D, Q, hcs, _, hl, hm, hmm, _, hi⟩
  · exact ⟨none, 0, 0, [], hcs, ⟨⟨rfl, by omega⟩, fun h => by omega⟩, .inl rfl⟩
  · simp only [if_true] at hmm
    have hone : ∀ i, ∃ p : Ru, i < len → (∃ A n c, w.cell? (a.add (i * 2)) = some (.slice A n c) ∧ RJ w A n p.l ∧ Fit w A n c) ∧ (∃ A n c, w.cell? (a.add (i * 2 + 1)) = some (.slice A n c) ∧ RJ w A n p.r ∧ Fit w A n c) := by
      intro i
      by_cases hlt : i < len
      · obtain ⟨ys, n, _, _, _, hf⟩ := hi i (by omega)
        obtain ⟨v0, y0, hc0, _, ht0⟩ := hf 0 _ rfl
        obtain ⟨v1, y1, hc1, _, ht1⟩ := hf 1 _ rfl
        obtain ⟨A, n0, c0, zs, e0, r0⟩ := raw_intsG Try.underlying27 Try.underlying2 (by kernel_rfl) ht0
        obtain ⟨B, n1, c1, xs, e1, r1⟩ := raw_intsG Try.underlying27 Try.underlying2 (by kernel_rfl) ht1
        simp at e0 e1
        subst e0 e1
        exact ⟨⟨zs, xs⟩, fun _ => ⟨⟨A, n0, c0, hc0, r0⟩, ⟨B, n1, c1, hc1, r1⟩⟩⟩
      · exact ⟨⟨[], []⟩, fun h => absurd h hlt⟩
    obtain ⟨f, hf⟩ := Classical.axiomOfChoice hone
    have hfit : Fit w (some a) len cap := by
      rcases Nat.eq_zero_or_pos cap with h0 | h0
      · exact .inr ⟨a, rfl, .inr ⟨by omega, h0⟩⟩
      · obtain ⟨ys, n, _, _, _, hf⟩ := hi 0 (by omega)
        obtain ⟨v0, y0, hc0, _, _⟩ := hf 0 _ rfl
        exact Fit.of_cell hc0
    refine ⟨some a, len, cap, (List.range len).map f, hcs, ⟨⟨by simp, by unfold maxLen at hm; omega⟩, fun hn => ?_⟩, hfit⟩
    obtain ⟨b, o, spot⟩ := a
    have hspot : spot = none := by
      obtain ⟨⟨A, n, c, h1, _⟩, _⟩ := hf 0 hn
      simpa [Addr.add] using World.cell?_spot h1
    subst hspot
    refine ⟨b, o, rfl, fun j p hp => ?_⟩
    rw [List.getElem?_map] at hp
    obtain ⟨i, hi', rfl⟩ := Option.map_eq_some_iff.1 hp
    obtain ⟨hl', rfl⟩ := List.getElem?_eq_some_iff.1 hi'
    rw [List.getElem_range]
    rw [List.length_range] at hl'
    have := hf j hl'
    rw [Addr.add_lit, Addr.add_lit] at this
    exact this
set_option maxRecDepth 100000 in
theorem raw_SyG {v : Value} {d : DataW H} {p : List MemPlace} (hv : Value.okWide Try.prog w r b0 42 v) (h : DataW.Trod enc Try.prog w base (fun _ => true) held 42 v d p) : ∃ x, RawG w v x := by
  obtain ⟨v0, v1, y0, y1, n, rfl, _, _, h0, h1⟩ := open_agg2 Try.underlying42 (by kernel_rfl) (by kernel_rfl) hv h
  obtain ⟨xs, n', _, _, _, hlen, hg⟩ := DataW.trod_struct Try.underlying39 h0
  have h00 := hg 0 _ rfl
  obtain ⟨B, m, c1, rs, e1, r1⟩ := raw_rulesG h1
  match xs, hlen, h00 with
  | [x0], _, h00 =>
    have h01 : DataW.trod enc Try.prog w base (fun _ => true) held n' 27 [v0] = some x0 := h00
    obtain ⟨A, n0, c0, zs, e0, r0⟩ := raw_intsG Try.underlying27 Try.underlying2 (by kernel_rfl) h01
    simp at e0 e1
    subst e0 e1
    exact ⟨⟨zs, rs⟩, A, n0, c0, B, m, c1, rfl, r0.1, r0.2, r1.1, r1.2⟩
end
section
variable {W v : World} {m : Nat} {A : Option Addr} {n c : Nat}
theorem RJ.ghost (hk : ∀ (p : Addr) (x : Value), W.cell? p = some x → VRel (LM m) (bet0 W) x x → v.cell? p = some x) {xs : List Int} (h : RJ W A n xs) : RJ v A n xs :=
  ⟨h.1, fun hn => by
    obtain ⟨b, o, e, hc⟩ := h.2.1 hn
    exact ⟨b, o, e, fun j x hx => hk _ _ (hc j x hx) (.int _ _)⟩, h.2.2⟩
theorem RRG.rel {rs : List Ru} (h : RRG W A n rs) : ∃ M, ∀ m, M ≤ m → ∀ v : World, (∀ (p : Addr) (x : Value), W.cell? p = some x → VRel (LM m) (bet0 W) x x → v.cell? p = some x) → RRJ v A n rs := by
  rcases Nat.eq_zero_or_pos n with h0 | h0
  · exact ⟨0, fun m _ v _ => ⟨h.1, fun hn => absurd hn (by omega)⟩⟩
  obtain ⟨b, o, e, hc⟩ := h.2 h0
  have one : ∀ off xs, FG W b off xs → ∃ M, ∀ m, M ≤ m → ∀ v : World, (∀ (p : Addr) (x : Value), W.cell? p = some x → VRel (LM m) (bet0 W) x x → v.cell? p = some x) → FJ v b off xs := fun off xs ⟨A', n', c', k1, k2, k3⟩ => by
    obtain ⟨M, hM⟩ := k3.rel
    exact ⟨M, fun m hm v hk => ⟨A', n', c', hk _ _ k1 (hM m hm), k2.ghost hk⟩⟩
  obtain ⟨M, hM⟩ := bound_all (Q := fun j m => ∀ v : World, (∀ (p : Addr) (x : Value), W.cell? p = some x → VRel (LM m) (bet0 W) x x → v.cell? p = some x) → ∀ r, rs[j]? = some r → FJ v b (o + j * 2) r.l ∧ FJ v b (o + j * 2 + 1) r.r) (fun j => by
    cases hr : rs[j]? with
    | none => exact ⟨0, fun m _ v _ r e => by cases e⟩
    | some r =>
      obtain ⟨h1, h2⟩ := hc j r hr
      obtain ⟨M1, k1⟩ := one _ _ h1
      obtain ⟨M2, k2⟩ := one _ _ h2
      exact ⟨M1 + M2, fun m hm v hk r' e => by cases e; exact ⟨k1 m (by omega) v hk, k2 m (by omega) v hk⟩⟩) n
  refine ⟨M, fun m hm v hk => ⟨h.1, fun hn => ⟨b, o, e, fun j r hr => hM m hm j ?_ v hk r hr⟩⟩⟩
  have := (List.getElem?_eq_some_iff.1 hr).1
  have := h.1.1
  omega
theorem start_ghost {v0 : Value} {s : Sy} (h : RawG W v0 s) : ∃ m v A n c B k d, v0 = .agg #[.slice A n c, .slice B k d] ∧ VRel (LM m) (bet0 W) v0 v0 ∧ m ≤ v.heap.size ∧ WRel (LM m) (bet0 W) v W ∧ RJ v A n s.ar ∧ RRJ v B k s.rs := by
  obtain ⟨A, n, c, B, k, d, rfl, h1, h2, h3, h4⟩ := h
  obtain ⟨M1, k1⟩ := h2.rel
  obtain ⟨M2, k2⟩ := h3.rel
  obtain ⟨M3, k3⟩ := h4.rel
  obtain ⟨v, q1, q2, q3⟩ := ghost_start (LM (M1 + M2 + M3)) rfl W
  refine ⟨M1 + M2 + M3, v, A, n, c, B, k, d, rfl, ?_, ?_, q2, h1.ghost q3, k2 _ (by omega) v q3⟩
  · refine .agg rfl fun i u y e1 e2 => ?_
    rw [e1] at e2; cases e2
    rcases i with _ | _ | i
    · simp at e1; subst e1; exact k1 _ (by omega)
    · simp at e1; subst e1; exact k3 _ (by omega)
    · simp at e1
  · rw [q1]
    show M1 + M2 + M3 ≤ W.heap.size + (M1 + M2 + M3)
    omega
end
end Go.Proofs.Ytdlgjhngndpgoaa
namespace Go.Proofs.Ytdlgjhngndpgoaa
open Go.Conc Go.RowKit
set_option linter.unusedVariables false
set_option linter.unusedSimpArgs false
set_option maxRecDepth 100000
theorem bWn : ∃ f, Try.prog.funcs[(base 4).fn]? = some f := ⟨_, Try.func4⟩
theorem tres_W : TmpRes Try.f4 := tmpB_ok (P := Try.prog) (k := 4) (by kernel_rfl) _ Try.func4
theorem okA {m : Nat} : ∀ c ∈ [lw0, lw1, lw2, lw3, lw4, lw5], CodeOK Try.prog (LM m) c := by
  intro c hc
  simp only [List.mem_cons, List.not_mem_nil, or_false] at hc
  rcases hc with rfl | rfl | rfl | rfl | rfl | rfl <;> exact codeB_ok (fun _ h => h) (fun _ h => h) (by kernel_rfl)
theorem okB {m : Nat} : ∀ c ∈ [lw7, lw8, lw9, lw10, lw11, lw12, lw13, lw14, lw15, lw16, lw17], CodeOK Try.prog (LM m) c := by
  intro c hc
  simp only [List.mem_cons, List.not_mem_nil, or_false] at hc
  rcases hc with rfl | rfl | rfl | rfl | rfl | rfl | rfl | rfl | rfl | rfl | rfl <;> exact codeB_ok (fun _ h => h) (fun _ h => h) (by kernel_rfl)
theorem okC {m : Nat} : CodeOK Try.prog (LM m) lwC := codeB_ok (fun _ h => h) (fun _ h => h) (by kernel_rfl)
theorem leaveW {a : Act} {y : Value} (h : a.tmps[2]? = some y) (u : World) : (results Try.f4 a.tmps).run Try.prog u = .ok y u := by
  rw [results_tmp (fn := Try.f4) (t := 2) rfl]
  simp [h]
def Rw (v0 : World) (a : Act) (v : World) : Prop := a.tmps.size = 96 ∧ a.tmps[2]? = some (.bool true) ∧ Hx v0 v
theorem Rw.ins {v0 : World} : Ins (Rw v0) := fun a v τ d h => h
section
variable {m : Nat} {A : An} {Post : Value → World → Prop} {x0 : Sy} {PA0 PB0 : Option Addr} {pn0 pc0 pm0 pd0 : Nat}
theorem ret_w (post : ∀ γ v w O, Hx A.v v → WRel (LM m) γ v w → Acc A.O A.β A.v A.w O γ v w → Post (.bool true) w) {Stop : Set_ → Goroutine → World → Prop} (hS : ∀ O g w, AtEnd_ Try.prog Post g w → Stop O g w) :
    WkR Try.prog (LM m) true Stop A (base 4) [] (Rw A.v) := by
  refine WkR.done (fn := Try.f4) bW (by kernel_rfl) Try.func4 tres_W hS (R := fun x v => x = .bool true ∧ Hx A.v v) (fun a v h => ⟨.bool true, leaveW h.2.1, rfl, h.2.2⟩) (fun γ x y v w O h hxy hW hn hA => ?_)
  obtain ⟨rfl, hH⟩ := h
  have : y = .bool true := by
    generalize hx : Value.bool true = x at hxy
    cases hxy <;> cases hx
    rfl
  subst this
  exact post γ v w O hH hW hA
theorem law_wk (hJ : RJ A.v PA0 pn0 x0.ar) (hK : RRJ A.v PB0 pm0 x0.rs) (post : ∀ γ v w O, Hx A.v v → WRel (LM m) γ v w → Acc A.O A.β A.v A.w O γ v w → Post (.bool true) w) :
    Wk Try.prog (LM m) true (ScrS Try.prog Post 1) A (base 4) [] [.code bodyW] (fun a v => a = litW (.agg #[.slice PA0 pn0 pc0, .slice PB0 pm0 pd0]) ∧ Hx A.v v) := by
  rw [bodyW_eq]
  refine Wk.codes (pcs := [lw0, lw1, lw2, lw3, lw4, lw5]) (X m) (offs_scr 1) okA bW bWn (Ψ := La A.v x0 PA0 pn0 pc0 PB0 pm0 pd0) (Ρ := Rw A.v) (fun a v τ d h => h) La.ins Rw.ins (fun a v h hd => ?_) ?_ (ret_w post fun _ _ _ => .inl)
  · obtain ⟨rfl, hH⟩ := h
    exact chunkA hH hJ hK
  refine Wk.seq (law7 (StA := ScrS Try.prog Post 0) (offs_scr 0) (offs_scr 1) rfl scrS_mono ?_)
  refine Wk.codes (pcs := [lw7, lw8, lw9, lw10, lw11, lw12, lw13, lw14, lw15, lw16, lw17]) (X m) (offs_scr 0) okB bW bWn (Ψ := Lc A.v x0 PA0 pn0 pc0 PB0 pm0 pd0) (Ρ := Rw A.v) (fun a v τ d h => h) Lc.ins Rw.ins (fun a v h hd => chunkB h hd) ?_ (ret_w post fun _ _ _ => .inl)
  refine Wk.seq (law18 (StA := fun _ g w => AtEnd_ Try.prog Post g w) offs_end (offs_scr 0) rfl (fun _ _ _ => .inl) ?_)
  exact Wk.code (X m) offs_end okC bW bWn (Ψ := fun _ _ => False) (Ρ := Rw A.v) (fun a v τ d h => h) Ins.f Rw.ins (fun a v h hd => chunkC h hd) (fun γ ag a v w O hp => hp.elim) (ret_w post fun _ _ _ h => h)
end
theorem litW_eq (x : Value) : (litW x).tmps = #[x] ++ Array.replicate 95 undef := by
  apply Array.ext'
  rw [Array.toList_append, Array.toList_replicate]
  rfl
theorem law_script {W : World} {v0 : Value} {x0 : Sy} (h : RawG W v0 x0) : Script_ Try.prog (fun v w => v = .bool true ∧ Below W.heap.size W w) 2 (fun x => x < W.heap.size) (G (Frame.enter Try.prog 4 #[v0] .normal) []) W := by
  obtain ⟨m, v, PA0, pn0, pc0, PB0, pm0, pd0, rfl, hv, hm, hW, hJ, hK⟩ := start_ghost h
  rw [enter_at _ Try.func4 (c := bodyW) rfl]
  refine law_wk (m := m) (A := ⟨fun x => x < W.heap.size, bet0 W, v, W⟩) hJ hK (fun γ v' w O hH hW' hA => ⟨rfl, real_end hm hW hW' hH hA⟩) (bet0 W) (litW (.agg #[.slice PA0 pn0 pc0, .slice PB0 pm0 pd0])) _ v W (fun x => x < W.heap.size) ⟨rfl, Hx.refl _⟩ rfl rfl ?_ hW (fun k x e => ?_) (Acc.refl _ _ _ _)
  · rw [litW_eq]
    refine VsRel.append (VsRel.one hv) ⟨by simp [Try.ntmps4], fun i v w h1 h2 => ?_⟩
    have e1 := Array.mem_of_getElem? h1
    have e2 := Array.mem_of_getElem? h2
    rw [(Array.mem_replicate.1 e1).2, (Array.mem_replicate.1 e2).2]
    exact undef_rel
  · obtain ⟨rfl, d, T, f, e⟩ := bet0_inv e
    exact lt_of_heap e
end Go.Proofs.Ytdlgjhngndpgoaa
