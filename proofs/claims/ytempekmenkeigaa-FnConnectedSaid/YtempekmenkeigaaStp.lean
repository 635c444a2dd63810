/- Several texts in one: StpA, StpB, StpC, StpD, StpE. -/
import Derived.Test.YtempekmenkeigaaFil
import Derived.Test.YtempekmenkeigaaMgA
import Derived.Test.YtempekmenkeigaaDicU
import Derived.Test.YtempekmenkeigaaSysOk
-- rd: RdSyK
namespace Go.Proofs.Ytempekmenkeigaa
open Go.RowKit
set_option linter.unusedSimpArgs false
set_option linter.unusedVariables false

/-! Steps by the reference: a part of a term, and a term with another part. -/
theorem RI.seg {w : World} {b o n : Nat} {xs ys rest : List Int} {p : Nat} (h : RI w (some ⟨b, o, none⟩) n xs) (hd : xs.drop p = ys ++ rest) : RI w (some ⟨b, o + p, none⟩) ys.length ys := by
  have hl := h.len
  have hle := h.le
  have e := congrArg List.length hd
  rw [List.length_drop, List.length_append] at e
  refine ⟨⟨rfl, by omega⟩, fun h0 => ?_⟩
  obtain ⟨b', o', e', hc⟩ := h.2 (by omega)
  cases e'
  refine ⟨b, o + p, rfl, fun j x hx => ?_⟩
  rw [Nat.add_assoc]
  refine hc (p + j) x ?_
  rw [← List.getElem?_drop, hd, List.getElem?_append_left (List.getElem?_eq_some_iff.1 hx).1]; exact hx
theorem RI.init {w : World} {A : Option Addr} {n k : Nat} {xs : List Int} (h : RI w A n xs) (hk : k ≤ n) : RI w A k (xs.take k) := by
  refine ⟨⟨by rw [List.length_take, h.len]; omega, by have := h.le; omega⟩, fun h0 => ?_⟩
  obtain ⟨b, o, e, hc⟩ := h.2 (by omega)
  refine ⟨b, o, e, fun j x hx => hc j x ?_⟩
  rw [List.getElem?_take] at hx
  split at hx
  · exact hx
  · cases hx
theorem c_l1EndT {v0 v1 : Value} {ar t : List Int} {p f : Nat} {w : World} (hf : endS ar t p = (f : Int)) (h0 : RdSig w v0 ar) (h1 : RdI w v1 t) (hs : SigP ar) (hp : p ≤ t.length) :
    Calls Try.prog 71 #[v0, v1, .int .i64 (p : Int)] w fun e w' => e = .returned (.int .i64 (f : Int)) ∧ Ext w w' := by
  rw [← hf]
  have := c_l1End (p := (p : Int)) h0 h1 hs (by omega) (by omega)
  simpa using this
set_option maxRecDepth 100000 in
set_option maxHeartbeats 2000000 in
theorem c_l1SubT {v0 : Value} {ar t : List Int} {p : Nat} {A : Option Addr} {n c : Nat} {w : World} (h0 : RdSig w v0 ar) (h1 : RI w A n t) (hc : n ≤ c ∧ c ≤ 9223372036854775807) (ht : TermP ar t) (hp : p < t.length) :
    Calls Try.prog 93 #[v0, .slice A n c, .int .i64 (p : Int)] w (NewI w (subT ar t p).flat) := by
  obtain ⟨D, q, l, rfl, hd⟩ := h0
  obtain ⟨oS, rest, hdr⟩ := subT_ok ht hp
  have hln := h1.len
  have hpos := flat_pos (subT ar t p)
  have hle : p + (subT ar t p).flat.length ≤ n := by
    have := congrArg List.length hdr
    rw [List.length_drop, List.length_append] at this
    omega
  obtain ⟨b, o, hA⟩ : ∃ b o, A = some ⟨b, o, none⟩ := by obtain ⟨b, o, e, _⟩ := h1.2 (by omega); exact ⟨b, o, e⟩
  subst hA
  obtain ⟨f, hf⟩ : ∃ f : Nat, f = p + (subT ar t p).flat.length := ⟨_, rfl⟩
  have HF := Lib.hid (show endS ar t p = (f : Int) by rw [hf]; exact endS_sub ht.2.2.1 oS hdr)
  have HD := Lib.hid hd
  have H1 := Lib.hid h1
  have HS := Lib.hid ht.1
  have HL := Lib.hid (show p ≤ t.length by omega)
  have hfp : p < f := by omega
  have HSUB := Lib.hid (show RI w (some ⟨b, o + p, none⟩) (f - p) (subT ar t p).flat by rw [hf, Nat.add_sub_cancel_left]; exact RI.seg h1 hdr)
  have hpi : (p : Int) ≤ (f : Int) := by omega
  have hp0 : (0 : Int) ≤ (p : Int) := by omega
  have hfc : (f : Int) ≤ (c : Int) := by omega
  have hc1 : ¬ c = p := by omega
  clear hd h1 hf hdr ht hln
  go_enter Try.func93, Try.ntmps93
  go_wp2_with fail
  (with_reducible refine (c_l1EndT HF.out (RdSig.mk (RI.ext HD.out (by exact extX))) (RdI.mk (RI.ext H1.out (by exact extX))) HS.out HL.out).mono ?_)
  rintro e w2 ⟨rfl, hE2⟩
  go_wp2_with fail
  (with_reducible refine (c_l1Copy (RI.ext HSUB.out (by exact extX))).mono ?_)
  rintro e w3 ⟨A3, n3, c3, rfl, hO3, hE3⟩
  have HO3 := Lib.hid (hO3.lower (B' := w.heap.size) (by have := hE2.size; simp at this; omega))
  clear hO3
  go_wp2
  go_ret
  exact ⟨A3, n3, c3, rfl, HO3.out, by exact extX⟩

/-! Steps by the reference: the plain form of a list of terms for variables, and matching. -/
/-- A row of lists in blocks from lo on. -/
def RSo (lo : Nat) (w : World) (A : Option Addr) (n : Nat) (xss : List (List Int)) : Prop :=
  (xss.length = n ∧ n ≤ 4194304) ∧ ∀ (j : Nat) (xs : List Int), xss[j]? = some xs → ∃ b o A' m' c', A = some ⟨b, o, none⟩ ∧ lo ≤ b ∧ w.cell? ⟨b, o + j, none⟩ = some (.slice A' m' c') ∧ RI w A' m' xs ∧ ∀ b' o' s', A' = some ⟨b', o', s'⟩ → lo ≤ b'
theorem RSo.rsg {lo : Nat} {w : World} {A : Option Addr} {n : Nat} {xss : List (List Int)} (h : RSo lo w A n xss) : RSg w A n xss := ⟨h.1, fun j xs hx => by
  obtain ⟨b, o, A', m', c', e, _, h1, h2, _⟩ := h.2 j xs hx
  exact ⟨b, o, A', m', c', e, h1, h2⟩⟩
theorem RSo.ext {lo : Nat} {w w' : World} {A : Option Addr} {n : Nat} {xss : List (List Int)} (h : RSo lo w A n xss) (k : Ext w w') : RSo lo w' A n xss := ⟨h.1, fun j xs hx => by
  obtain ⟨b, o, A', m', c', e, h0, h1, h2, h3⟩ := h.2 j xs hx
  exact ⟨b, o, A', m', c', e, h0, Ext.keep k h1, h2.ext k, h3⟩⟩
theorem RI.setOff {w : World} {A : Option Addr} {n : Nat} {xs : List Int} (h : RI w A n xs) {p : Addr} (v : Value) (hp : ∀ b o s, A = some ⟨b, o, s⟩ → b ≠ p.block) : RI (w.setCell p v) A n xs :=
  ⟨h.1, fun h0 => by
    obtain ⟨b, o, e, hc⟩ := h.2 h0
    refine ⟨b, o, e, fun j x hx => ?_⟩
    rw [World.cell?_of_block (w := w) (w' := w.setCell p v) (a := ⟨b, o + j, none⟩) (Below.heap_setCell _ _ _ _ (hp b o none e))]
    exact hc j x hx⟩
theorem RSo.set {lo : Nat} {w : World} {A : Option Addr} {n : Nat} {xss : List (List Int)} (h : RSo lo w A n xss) {p : Addr} (hp : p.block < lo) (v : Value) : RSo lo (w.setCell p v) A n xss := ⟨h.1, fun j xs hx => by
  obtain ⟨b, o, A', m', c', e, h0, h1, h2, h3⟩ := h.2 j xs hx
  refine ⟨b, o, A', m', c', e, h0, ?_, h2.setOff v (fun b' o' s' e' => by have := h3 b' o' s' e'; omega), h3⟩
  rw [World.cell?_of_block (w := w) (w' := w.setCell p v) (a := ⟨b, o + j, none⟩) (Below.heap_setCell _ _ _ _ (show b ≠ p.block by omega))]
  exact h1⟩
/-- A box that holds a row of lists, each of the call's own. -/
structure RowQ (T TB : TypeId) (sz : Nat) (bcs : Value → Array Value) (w0 w : World) (p : Nat) (A : Option Addr) (n c : Nat) (xss : List (List Int)) : Prop where
  bx : w.heap[p]? = some (.cells (bcs (.slice A n c)) TB (0, 0))
  row : ∃ cs, w.ownsRow w0.heap.size T sz (.slice A n c) n cs ∧ cs.length = xss.length ∧ ∀ (j : Nat) (xs : List Int), xss[j]? = some xs → ∃ A' m' c', cs[j]? = some (.slice A' m' c') ∧ OwI w w0.heap.size A' m' c' xs
  on : Ext w0 w
  ge : w0.heap.size ≤ p
section
variable {T TB : TypeId} {sz : Nat} {bcs : Value → Array Value} {w0 w w' : World} {p : Nat} {A : Option Addr} {n c : Nat} {xss : List (List Int)}
theorem RowQ.ext (h : RowQ T TB sz bcs w0 w p A n c xss) (k : Ext w w') : RowQ T TB sz bcs w0 w' p A n c xss := by
  obtain ⟨cs, h1, h2, h3⟩ := h.row
  have hpl := (Array.getElem?_eq_some_iff.1 h.bx).1
  refine ⟨(k.block p hpl).trans h.bx, ⟨cs, ownsRow_heap h1 (fun b e => k.block b (ownsRow_at h1 e).2.1), h2, fun j xs hx => ?_⟩, h.on.trans k, h.ge⟩
  obtain ⟨A', m', c', e1, e2⟩ := h3 j xs hx
  exact ⟨A', m', c', e1, e2.ext k⟩
theorem RowQ.lt (h : RowQ T TB sz bcs w0 w p A n c xss) : p < w.heap.size := (Array.getElem?_eq_some_iff.1 h.bx).1
theorem RowQ.setLow (h : RowQ T TB sz bcs w0 w p A n c xss) {q i : Nat} (hq : q < w0.heap.size) (v : Value) : (w.setCell ⟨q, i, none⟩ v).heap[p]? = some (.cells (bcs (.slice A n c)) TB (0, 0)) ∧ ∃ cs, (w.setCell ⟨q, i, none⟩ v).ownsRow w0.heap.size T sz (.slice A n c) n cs ∧ cs.length = xss.length ∧ ∀ (j : Nat) (xs : List Int), xss[j]? = some xs → ∃ A' m' c', cs[j]? = some (.slice A' m' c') ∧ OwI (w.setCell ⟨q, i, none⟩ v) w0.heap.size A' m' c' xs := by
  obtain ⟨cs, h1, h2, h3⟩ := h.row
  have hge := h.ge
  refine ⟨(Below.heap_setCell _ _ _ _ (show p ≠ q by omega)).trans h.bx, cs, ownsRow_heap h1 (fun b e => Below.heap_setCell _ _ _ _ (show b ≠ q by have := (ownsRow_at h1 e).1; omega)), h2, fun j xs hx => ?_⟩
  obtain ⟨A', m', c', e1, e2⟩ := h3 j xs hx
  exact ⟨A', m', c', e1, e2.setFar _ fun b o s e => by have := (e2.bd b o s e).1; show b ≠ q; omega⟩
theorem RowQ.push {wx : World} {A2 : Option Addr} {c2 k q : Nat} {cs new : List Value} {yss : List (List Int)} {o : Obj} (h : RowQ T TB sz bcs w0 w p A n c xss)
    (hT1 : T ≠ 2) (hT2 : TB ≠ T) (hT3 : TB ≠ 2) (hset : ∀ v v', (bcs v).setIfInBounds q v' = bcs v')
    (hrow : w.ownsRow w0.heap.size T sz (.slice A n c) n cs) (hcl : cs.length = xss.length) (hel : ∀ (j : Nat) (xs : List Int), xss[j]? = some xs → ∃ A' m' c', cs[j]? = some (.slice A' m' c') ∧ OwI w w0.heap.size A' m' c' xs)
    (hnl : new.length = yss.length) (hnew : ∀ (j : Nat) (xs : List Int), yss[j]? = some xs → ∃ A' m' c', new[j]? = some (.slice A' m' c') ∧ OwI w w0.heap.size A' m' c' xs)
    (hown : wx.ownsRow w0.heap.size T sz (.slice A2 k c2) k (cs ++ new)) (hg : (w.alloc o).grownBy wx (Value.slice A n c).ownBlock) :
    RowQ T TB sz bcs w0 (wx.setCell ⟨p, q, none⟩ (.slice A2 k c2)) p A2 k c2 (xss ++ yss) := by
  have hpl := h.lt
  have hold : ∀ b, b < w.heap.size → (Value.slice A n c).ownBlock ≠ some b → wx.heap[b]? = w.heap[b]? := fun b h1 h2 =>
    (hg.block b (by simp; omega) (fun e => h2 e.symm)).trans (((Ext.refl w).alloc o).block b h1)
  have hrowt : ∀ b, (Value.slice A n c).ownBlock = some b → w0.heap.size ≤ b ∧ ∃ cur, w.heap[b]? = some (.cells cur T (0, 0)) := fun b e => by
    obtain ⟨k1, _, k2⟩ := ownsRow_at hrow e; exact ⟨k1, k2⟩
  have hpne : (Value.slice A n c).ownBlock ≠ some p := fun e => by
    obtain ⟨_, cur, k2⟩ := hrowt p e
    rw [h.bx] at k2; cases k2; exact hT2 rfl
  have hpx : wx.heap[p]? = some (.cells (bcs (.slice A n c)) TB (0, 0)) := (hold p hpl hpne).trans h.bx
  have hkeep : ∀ {A' : Option Addr} {m' c' : Nat} {xs : List Int}, OwI w w0.heap.size A' m' c' xs → OwI (wx.setCell ⟨p, q, none⟩ (.slice A2 k c2)) w0.heap.size A' m' c' xs := fun {A' m' c' xs} hO => by
    refine hO.heap fun b e => ?_
    rcases hO.blk with e0 | ⟨b', cur, e0, _, hb⟩
    · rw [e0] at e; cases e
    · rw [e0] at e; cases e
      have hne : (Value.slice A n c).ownBlock ≠ some b := fun e2 => by
        obtain ⟨_, cur2, k2⟩ := hrowt b e2
        rw [hb] at k2; cases k2; exact hT1 rfl
      have hbp : b ≠ p := fun e2 => by subst e2; rw [h.bx] at hb; cases hb; exact hT3 rfl
      rw [Below.heap_setCell _ _ _ _ hbp]
      exact hold b (Array.getElem?_eq_some_iff.1 hb).1 hne
  refine ⟨?_, ⟨cs ++ new, ownsRow_heap hown (fun b e => ?_), by simp [hcl, hnl], fun j xs hx => ?_⟩, ?_, h.ge⟩
  · simp [World.setCell, Array.getElem?_modify, hpx, hset]
  · obtain ⟨_, _, cur, k2⟩ := ownsRow_at hown e
    refine Below.heap_setCell _ _ _ _ (fun e2 => ?_)
    have e2' : b = p := e2
    subst e2'
    rw [hpx] at k2; cases k2; exact hT2 rfl
  · rcases Nat.lt_or_ge j xss.length with hj | hj
    · rw [List.getElem?_append_left hj] at hx
      obtain ⟨A', m', c', e1, e2⟩ := hel j xs hx
      exact ⟨A', m', c', by rw [List.getElem?_append_left (by omega)]; exact e1, hkeep e2⟩
    · rw [List.getElem?_append_right hj] at hx
      obtain ⟨A', m', c', e1, e2⟩ := hnew _ xs hx
      exact ⟨A', m', c', by rw [List.getElem?_append_right (by omega), hcl]; exact e1, hkeep e2⟩
  · exact Ext.set (Ext.grown (h.on.alloc o) hg fun b e => (hrowt b e).1) h.ge _
/-- The row without its last element. -/
theorem RowQ.cut {g k q : Nat} (h : RowQ T TB 1 bcs w0 w p (some ⟨g, 0, none⟩) (k + 1) c xss) (hT2 : TB ≠ T) (hT3 : TB ≠ 2) (hset : ∀ v v', (bcs v).setIfInBounds q v' = bcs v') (hl : xss.length = k + 1) :
    RowQ T TB 1 bcs w0 (w.setCell ⟨p, q, none⟩ (.slice (some ⟨g, 0, none⟩) k c)) p (some ⟨g, 0, none⟩) k c (xss.take k) := by
  obtain ⟨cs, h1, h2, h3⟩ := h.row
  have hgp : g ≠ p := fun e => by
    obtain ⟨_, _, cur, k2⟩ := ownsRow_at h1 (b := g) rfl
    subst e; rw [h.bx] at k2; cases k2; exact hT2 rfl
  have hcut : w.ownsRow w0.heap.size T 1 (.slice (some ⟨g, 0, none⟩) k c) k (cs.take k) := by
    refine ⟨by rw [List.length_take, h2, hl]; simp, ?_⟩
    rcases h1.2 with ⟨hv, _⟩ | ⟨g', cap, cur, hv, hg, hh, k1, k2, k3, k4⟩
    · cases hv
    · cases hv
      refine .inr ⟨g, c, cur, rfl, hg, hh, by omega, k2, k3, ?_⟩
      rw [← k4, List.take_take, Nat.mul_one, Nat.mul_one, Nat.min_eq_left (by omega)]
  refine ⟨by simp [World.setCell, Array.getElem?_modify, h.bx, hset], ⟨cs.take k, ownsRow_heap hcut (fun b e => by cases e; exact Below.heap_setCell _ _ _ _ hgp), by simp [h2], fun j xs hx => ?_⟩, Ext.set h.on h.ge _, h.ge⟩
  rw [List.getElem?_take] at hx
  split at hx
  · obtain ⟨A', m', c', e1, e2⟩ := h3 j xs hx
    refine ⟨A', m', c', by rw [List.getElem?_take, if_pos (by assumption)]; exact e1, e2.heap fun b e => ?_⟩
    rcases e2.blk with e0 | ⟨b', cur, e0, _, hb⟩
    · rw [e0] at e; cases e
    · rw [e0] at e; cases e
      refine Below.heap_setCell _ _ _ _ (fun e2 => ?_)
      have e3 : b = p := e2
      subst e3; rw [h.bx] at hb; cases hb; exact hT3 rfl
  · cases hx
theorem rso_of {lo : Nat} (hlo : lo ≤ w0.heap.size) (hn : xss.length = n) (hle : n ≤ 4194304) (h : ∃ cs, w.ownsRow w0.heap.size T 1 (.slice A n c) n cs ∧ cs.length = xss.length ∧ ∀ (j : Nat) (xs : List Int), xss[j]? = some xs → ∃ A' m' c', cs[j]? = some (.slice A' m' c') ∧ OwI w w0.heap.size A' m' c' xs) : RSo lo w A n xss := by
  obtain ⟨cs, h1, h2, h3⟩ := h
  refine ⟨⟨hn, hle⟩, fun j xs hx => ?_⟩
  have hj : j < n := by have := (List.getElem?_eq_some_iff.1 hx).1; omega
  obtain ⟨A', m', c', e1, e2⟩ := h3 j xs hx
  obtain ⟨b, cap, hv, hb, hbl⟩ := World.ownsRow.form h1 (by omega)
  cases hv
  exact ⟨b, 0, A', m', c', rfl, by omega, by rw [Nat.zero_add, World.ownsRow.cellAt h1 j (by omega)]; exact e1, e2.ri, fun b' o' s' e => by have := (e2.bd b' o' s' e).1; omega⟩
end
/-- The last element of a row. -/
theorem RowQ.last {T TB : TypeId} {bcs : Value → Array Value} {w0 w : World} {p : Nat} {A : Option Addr} {k c : Nat} {xss : List (List Int)} {xs : List Int} (h : RowQ T TB 1 bcs w0 w p A (k + 1) c xss) (hx : xss[k]? = some xs) :
    ∃ g A' m' c', A = some ⟨g, 0, none⟩ ∧ w.cell? ⟨g, k, none⟩ = some (.slice A' m' c') ∧ OwI w w0.heap.size A' m' c' xs := by
  obtain ⟨cs, h1, h2, h3⟩ := h.row
  obtain ⟨A', m', c', e1, e2⟩ := h3 k xs hx
  obtain ⟨b, cap, hv, _, hbl⟩ := World.ownsRow.form h1 (by omega)
  cases hv
  exact ⟨b, A', m', c', rfl, by rw [World.ownsRow.cellAt h1 k (by omega)]; exact e1, e2⟩
theorem gives_eq1 {τ : List (List Int)} {j : Nat} : plainAt τ j = [] ∨ plainAt τ j = gives τ (-1 - (j : Int)) := by unfold plainAt; split <;> simp
theorem plain_yes {τ : List (List Int)} {j : Nat} (h : gives τ (-1 - (j : Int)) = [-1 - (j : Int)]) : plainAt τ j = [] := if_pos h
theorem plain_no {τ : List (List Int)} {j : Nat} (h : ¬ gives τ (-1 - (j : Int)) = [-1 - (j : Int)]) : plainAt τ j = gives τ (-1 - (j : Int)) := if_neg h
/-- How long the row in the box is. -/
def boxLen (p : Nat) (w : World) : Nat := match w.cell? ⟨p, 0, none⟩ with
  | some (.slice _ n _) => n
  | _ => 0
theorem boxLen_at {p n c : Nat} {A : Option Addr} {w : World} (h : w.cell? ⟨p, 0, none⟩ = some (.slice A n c)) : boxLen p w = n := by unfold boxLen; rw [h]
theorem ints_infoQ : (Try.prog.info? 22).map (fun i => (i.zero, i.size, i.bytes)) = some (some (.slice none 0 0), 1, 24) := by kernel_rfl
abbrev RowS := RowQ 22 55 1 (fun v => #[v])
def NewPln (w : World) (τ : List (List Int)) (n0 : Nat) (e : Ending) (w' : World) : Prop := ∃ (A : Option Addr) (n c : Nat) (σ : List (List Int)), e = .returned (.agg #[.slice A n c]) ∧ RSo w.heap.size w' A n σ ∧ PlP τ σ n0 ∧ Ext w w'
set_option maxRecDepth 100000 in
set_option maxHeartbeats 8000000 in
theorem c_l2Plain {v : Value} {τ : List (List Int)} {n0 : Nat} {w : World} (h0 : RdSub w v τ) (hn : τ.length = n0) (hn24 : n0 ≤ 24) :
    Calls Try.prog 74 #[v] w (NewPln w τ n0) := by
  obtain ⟨B, m, d, rfl, hb⟩ := h0
  obtain rfl : m = n0 := by rw [← hn]; exact hb.1.1.symm
  have HB := Lib.hid hb
  have HN := Lib.hid hn
  obtain ⟨i0, hii, hiz, his, hib⟩ := info_parts ints_infoQ
  clear hb hn
  go_enter Try.func74, Try.ntmps74
  go_wp2_with fail
  obtain ⟨w1, hw1⟩ : ∃ w1, w1 = (w.alloc (.cells #[.slice B m d] 55)).alloc (.cells #[.slice none 0 0] 55) := ⟨_, rfl⟩
  have hb1 : w1.cell? ⟨w.heap.size, 0, none⟩ = some (.slice B m d) := by rw [hw1]; simp [go_sem]
  have hb2 : w1.cell? ⟨w.heap.size + 1, 0, none⟩ = some (.slice none 0 0) := by rw [hw1]; simp [go_sem]
  have hf2 : ∀ j, w1.frozen? ⟨w.heap.size + 1, j, none⟩ = false := by intro j; rw [hw1]; simp [go_sem]
  have hE1 : Ext w w1 := by rw [hw1]; exact extX
  have hz1 : w1.heap.size = w.heap.size + 1 + 1 := by rw [hw1]; simp [go_sem]
  have HR0 := Lib.hid (show RowS w1 (w1.alloc (.cells #[.slice none 0 0] 55)) w1.heap.size none 0 0 (plainL τ 0) from
    ⟨heap_alloc_new w1 _, ⟨[], World.ownsRow_nil _ _ _ _, rfl, fun j xs hx => by simp [plainL] at hx⟩, (Ext.refl _).alloc _, Nat.le_refl _⟩)
  rw [← hw1, ← hz1]
  have hz2 : w.heap.size + 1 < w1.heap.size := by omega
  clear hw1 hz1
  go_loopw [4] (fun kv wr => ∃ k : Nat, kv = .int .i64 k ∧ k ≤ m ∧ Hid (∃ A c, RowS w1 wr w1.heap.size A k c (plainL τ k))) (fun kv _ => m - (intOf kv).toNat)
  case atStart => exact ⟨0, rfl, Nat.zero_le _, Lib.hid ⟨none, 0, HR0.out⟩⟩
  case round =>
    obtain ⟨k, rfl, hk, hI⟩ := hrel
    obtain ⟨A, c, hR⟩ := hI.out
    have HR := Lib.hid hR
    have hE := hR.on
    have hEw := Ext.trans hE1 hE
    have hc1 := Ext.keep hE hb1
    have hsz := hE.size
    clear hI hR
    by_cases hlt : k < m
    · have hki : (k : Int) < (m : Int) := by omega
      have hw1' : IntKind.i64.wrap (-1 - (k : Int)) = -1 - (k : Int) := IntWalk.i64_in _ (by omega)
      have hPS := plainL_succ τ k
      have HPS := Lib.hid hPS
      clear hPS
      go_wp2_with fail
      (with_reducible refine (c_l2Gives (RdSub.mk (RSg.ext HB.out hEw)) (by omega)).mono ?_)
      rintro e w5 ⟨A5, n5, c5, rfl, hO5, hE5⟩
      have HR5 := Lib.hid (HR.out.ext hE5)
      have hl5 := hO5.len
      have HO5 := Lib.hid (hO5.lower (B' := w1.heap.size) hsz)
      have hsz5 := hE5.size
      have hlt5 := HR5.out.lt
      have hp5 : w5.cell? ⟨w1.heap.size, 0, none⟩ = some (.slice A k c) := cell_of_row _ _ _ _ _ (0, 0) HR5.out.bx
      clear hO5
      by_cases hn1 : n5 = 1
      · obtain ⟨b, o, y, rfl, hy, hcy⟩ := RI.at_ HO5.out.ri (show 0 < n5 by omega)
        rw [Nat.add_zero] at hcy
        subst hn1
        by_cases hyk : y = -1 - (k : Int)
        · have HPL := Lib.hid (show plainAt τ k = [] from plain_yes (by
            cases hg : gives τ (-1 - (k : Int)) with
            | nil => rw [hg] at hl5; simp at hl5
            | cons z zs =>
              rw [hg] at hl5 hy
              have : zs = [] := List.length_eq_zero_iff.1 (by simpa using hl5)
              subst this
              simp at hy
              rw [hy, hyk]))
          have hye : (y == -1 - (k : Int)) = true := by simpa using hyk
          subst hyk
          clear hy hl5
          have HO6 := Lib.hid (show OwI (w5.alloc (.cells #[] 2)) w1.heap.size (some ⟨w5.heap.size, 0, none⟩) 0 0 (plainAt τ k) by rw [HPL.out]; exact OwI.none0 (by omega))
          have HR6 := Lib.hid (HR5.out.ext ((Ext.refl w5).alloc (.cells #[] 2)))
          have hbx6 : (w5.alloc (.cells #[] 2)).cell? ⟨w1.heap.size, 0, none⟩ = some (.slice A k c) := cell_of_row _ _ _ _ _ (0, 0) HR6.out.bx
          obtain ⟨cs, hrow, hcl, hel⟩ := HR6.out.row
          have HROW := Lib.hid hrow
          have HCL := Lib.hid hcl
          have HEL := Lib.hid hel
          have hrow2 := Lib.hid (ownsRow_heap (w' := (w5.alloc (.cells #[] 2)).alloc (.cells #[.slice (some ⟨w5.heap.size, 0, none⟩) 0 0] 22)) hrow (fun b e => ((Ext.refl _).alloc _).block b (ownsRow_at hrow e).2.1))
          clear hrow hcl hel
          go_wp2_with (at_builtin; go_loud (refine wpList_append_lies _ rfl (.tmp 30) (.tmp 32) 29 rfl w1.heap.size 22 i0 (.slice none 0 0) 1 24 Try.underlying29 hii hiz his hib rfl (by decide) _ k _ rfl hrow2.out ⟨w5.heap.size + 1, 0, none⟩ 1 1 [.slice (some ⟨w5.heap.size, 0, none⟩) 0 0] rfl rfl (one_cells' (w := w5.alloc (.cells #[] 2)) (by simp) _ _) (by intro u hu; simp at hu; subst hu; rfl) (by decide) (by unfold maxLen; omega) (by omega) (by simp; omega) _ rfl ?_))
          intro g4 cap wx hown hg hat hltg
          have HP := Lib.hid (RowQ.push (q := 0) HR6.out (by decide) (by decide) (by decide) (fun v v' => rfl) HROW.out HCL.out HEL.out (new := [.slice (some ⟨w5.heap.size, 0, none⟩) 0 0]) (yss := [plainAt τ k]) rfl (fun j xs hx => by
            cases j with
            | zero => cases hx; exact ⟨_, _, _, rfl, HO6.out⟩
            | succ j => simp at hx) hown hg)
          have hbxx : wx.heap[w1.heap.size]? = some (.cells #[.slice A k c] 55 (0, 0)) := (hg.block w1.heap.size (by have := HR6.out.lt; simp at this ⊢; omega) (fun e => by
            obtain ⟨_, _, cur, h2⟩ := ownsRow_at HROW.out e.symm
            rw [HR6.out.bx] at h2; cases h2)).trans ((((Ext.refl (w5.alloc (.cells #[] 2))).alloc _).block w1.heap.size HR6.out.lt).trans HR6.out.bx)
          have hcx : wx.cell? ⟨w1.heap.size, 0, none⟩ = some (.slice A k c) := cell_of_row _ _ _ _ _ (0, 0) hbxx
          have hfx : ∀ j, wx.frozen? ⟨w1.heap.size, j, none⟩ = false := fun j => frozen_of_row _ _ _ _ _ hbxx
          clear hown hg hat hbxx
          go_wp2_with fail
          go_roundw
          case rel => exact ⟨k + 1, by go_num, by omega, Lib.hid ⟨_, _, by rw [HPS.out]; exact HP.out⟩⟩
          case measure => simp only [intOf]; omega
        · have HPL := Lib.hid (show plainAt τ k = gives τ (-1 - (k : Int)) from plain_no (fun e => by rw [e] at hy; simp at hy; exact hyk hy.symm))
          have hye : (y == -1 - (k : Int)) = false := by simpa using hyk
          clear hy hl5
          have HO6 := Lib.hid (show OwI w5 w1.heap.size (some ⟨b, o, none⟩) 1 c5 (plainAt τ k) by rw [HPL.out]; exact HO5.out)
          have HR6 := HR5
          have hbx6 : (w5).cell? ⟨w1.heap.size, 0, none⟩ = some (.slice A k c) := cell_of_row _ _ _ _ _ (0, 0) HR6.out.bx
          obtain ⟨cs, hrow, hcl, hel⟩ := HR6.out.row
          have HROW := Lib.hid hrow
          have HCL := Lib.hid hcl
          have HEL := Lib.hid hel
          have hrow2 := Lib.hid (ownsRow_heap (w' := (w5).alloc (.cells #[.slice (some ⟨b, o, none⟩) 1 c5] 22)) hrow (fun b e => ((Ext.refl _).alloc _).block b (ownsRow_at hrow e).2.1))
          clear hrow hcl hel
          go_wp2_with (at_builtin; go_loud (refine wpList_append_lies _ rfl (.tmp 30) (.tmp 32) 29 rfl w1.heap.size 22 i0 (.slice none 0 0) 1 24 Try.underlying29 hii hiz his hib rfl (by decide) _ k _ rfl hrow2.out ⟨w5.heap.size, 0, none⟩ 1 1 [.slice (some ⟨b, o, none⟩) 1 c5] rfl rfl (one_cells' (w := w5) (by simp) _ _) (by intro u hu; simp at hu; subst hu; rfl) (by decide) (by unfold maxLen; omega) (by omega) (by simp; omega) _ rfl ?_))
          intro g4 cap wx hown hg hat hltg
          have HP := Lib.hid (RowQ.push (q := 0) HR6.out (by decide) (by decide) (by decide) (fun v v' => rfl) HROW.out HCL.out HEL.out (new := [.slice (some ⟨b, o, none⟩) 1 c5]) (yss := [plainAt τ k]) rfl (fun j xs hx => by
            cases j with
            | zero => cases hx; exact ⟨_, _, _, rfl, HO6.out⟩
            | succ j => simp at hx) hown hg)
          have hbxx : wx.heap[w1.heap.size]? = some (.cells #[.slice A k c] 55 (0, 0)) := (hg.block w1.heap.size (by have := HR6.out.lt; simp at this ⊢; omega) (fun e => by
            obtain ⟨_, _, cur, h2⟩ := ownsRow_at HROW.out e.symm
            rw [HR6.out.bx] at h2; cases h2)).trans ((((Ext.refl (w5)).alloc _).block w1.heap.size HR6.out.lt).trans HR6.out.bx)
          have hcx : wx.cell? ⟨w1.heap.size, 0, none⟩ = some (.slice A k c) := cell_of_row _ _ _ _ _ (0, 0) hbxx
          have hfx : ∀ j, wx.frozen? ⟨w1.heap.size, j, none⟩ = false := fun j => frozen_of_row _ _ _ _ _ hbxx
          clear hown hg hat hbxx
          go_wp2_with fail
          go_roundw
          case rel => exact ⟨k + 1, by go_num, by omega, Lib.hid ⟨_, _, by rw [HPS.out]; exact HP.out⟩⟩
          case measure => simp only [intOf]; omega
      · have HPL := Lib.hid (show plainAt τ k = gives τ (-1 - (k : Int)) from plain_no (fun e => by rw [e] at hl5; simp at hl5; omega))
        have hne1 : ((n5 : Int) == 1) = false := by simp; omega
        clear hl5
        have HO6 := Lib.hid (show OwI w5 w1.heap.size A5 n5 c5 (plainAt τ k) by rw [HPL.out]; exact HO5.out)
        have HR6 := HR5
        have hbx6 : (w5).cell? ⟨w1.heap.size, 0, none⟩ = some (.slice A k c) := cell_of_row _ _ _ _ _ (0, 0) HR6.out.bx
        obtain ⟨cs, hrow, hcl, hel⟩ := HR6.out.row
        have HROW := Lib.hid hrow
        have HCL := Lib.hid hcl
        have HEL := Lib.hid hel
        have hrow2 := Lib.hid (ownsRow_heap (w' := (w5).alloc (.cells #[.slice (A5) n5 c5] 22)) hrow (fun b e => ((Ext.refl _).alloc _).block b (ownsRow_at hrow e).2.1))
        clear hrow hcl hel
        go_wp2_with (at_builtin; go_loud (refine wpList_append_lies _ rfl (.tmp 30) (.tmp 32) 29 rfl w1.heap.size 22 i0 (.slice none 0 0) 1 24 Try.underlying29 hii hiz his hib rfl (by decide) _ k _ rfl hrow2.out ⟨w5.heap.size, 0, none⟩ 1 1 [.slice (A5) n5 c5] rfl rfl (one_cells' (w := w5) (by simp) _ _) (by intro u hu; simp at hu; subst hu; rfl) (by decide) (by unfold maxLen; omega) (by omega) (by simp; omega) _ rfl ?_))
        intro g4 cap wx hown hg hat hltg
        have HP := Lib.hid (RowQ.push (q := 0) HR6.out (by decide) (by decide) (by decide) (fun v v' => rfl) HROW.out HCL.out HEL.out (new := [.slice (A5) n5 c5]) (yss := [plainAt τ k]) rfl (fun j xs hx => by
          cases j with
          | zero => cases hx; exact ⟨_, _, _, rfl, HO6.out⟩
          | succ j => simp at hx) hown hg)
        have hbxx : wx.heap[w1.heap.size]? = some (.cells #[.slice A k c] 55 (0, 0)) := (hg.block w1.heap.size (by have := HR6.out.lt; simp at this ⊢; omega) (fun e => by
          obtain ⟨_, _, cur, h2⟩ := ownsRow_at HROW.out e.symm
          rw [HR6.out.bx] at h2; cases h2)).trans ((((Ext.refl (w5)).alloc _).block w1.heap.size HR6.out.lt).trans HR6.out.bx)
        have hcx : wx.cell? ⟨w1.heap.size, 0, none⟩ = some (.slice A k c) := cell_of_row _ _ _ _ _ (0, 0) hbxx
        have hfx : ∀ j, wx.frozen? ⟨w1.heap.size, j, none⟩ = false := fun j => frozen_of_row _ _ _ _ _ hbxx
        clear hown hg hat hbxx
        go_wp2_with fail
        go_roundw
        case rel => exact ⟨k + 1, by go_num, by omega, Lib.hid ⟨_, _, by rw [HPS.out]; exact HP.out⟩⟩
        case measure => simp only [intOf]; omega
    · obtain rfl : k = m := by omega
      obtain ⟨wq, rfl⟩ : ∃ wq : World, wq = wr := ⟨_, rfl⟩
      have HP0 := Lib.hid (PlP.start τ k)
      have HL0 := Lib.hid (plainL_len τ k)
      go_wp2_with fail
      go_loopw [] (fun wr => Hid (∃ A n c σ, RowS w1 wr w1.heap.size A n c σ ∧ PlP τ σ k ∧ σ.length = n)) (fun wr => boxLen w1.heap.size wr)
      case atStart => exact Lib.hid ⟨_, _, _, _, HR.out, HP0.out, HL0.out⟩
      case round =>
        obtain ⟨A9, n9, c9, σ, hR9, hP9, hl9⟩ := hrel.out
        have HR9 := Lib.hid hR9
        have HP9 := Lib.hid hP9
        have HL9 := Lib.hid hl9
        have hc9 : wr.cell? ⟨w1.heap.size, 0, none⟩ = some (.slice A9 n9 c9) := cell_of_row _ _ _ _ _ (0, 0) hR9.bx
        have hf9 : ∀ j, wr.frozen? ⟨w1.heap.size, j, none⟩ = false := fun j => frozen_of_row _ _ _ _ _ hR9.bx
        have hE9 := hR9.on
        have hd2 := Ext.keep hE9 hb2
        have hdf : ∀ j, wr.frozen? ⟨w.heap.size + 1, j, none⟩ = false := fun j => (Below.frozen (p := ⟨w.heap.size + 1, j, none⟩) hE9 hz2).trans (hf2 j)
        have hn9 : n9 ≤ 24 := by have := hP9.le; omega
        have HBL := Lib.hid (boxLen_at hc9)
        clear hrel hR9 hP9 hl9
        have hend : ∀ (v : Value), NewPln w τ k (.returned (.agg #[.slice A9 n9 c9])) (wr.setCell ⟨w.heap.size + 1, 0, none⟩ v) := fun v =>
          ⟨A9, n9, c9, σ, rfl, rso_of hE1.size HL9.out (by omega) (HR9.out.setLow hz2 v).2, HP9.out, Ext.set (Ext.trans hE1 hE9) (by show w.heap.size ≤ w.heap.size + 1; omega) _⟩
        have HEND := Lib.hid hend
        clear hend
        rcases Nat.eq_zero_or_pos n9 with hz | hz
        · subst hz
          go_wp2_with fail
          refine bodyPost_ret (v := .agg #[.slice A9 0 c9]) (by simp [results, Try.results74, go_sem, hc9, hd2, hdf]) rfl ?_
          exact HEND.out _
        · obtain ⟨q, rfl⟩ : ∃ q, n9 = q + 1 := ⟨n9 - 1, by omega⟩
          have hq : q < σ.length := by have := HL9.out; omega
          have HLS := Lib.hid (HP9.out.last hq)
          obtain ⟨g9, A8, m8, c8, rfl, hcl, hO8⟩ := HR9.out.last HLS.out
          have hl8 := hO8.len
          have hq1 : ((q + 1 : Nat) : Int) - 1 = (q : Int) := by omega
          have hqp : ((q + 1 : Nat) : Int) > 0 := by omega
          have hq0 : (0 : Int) ≤ (q : Int) := by omega
          have hq2 : (q : Int) < ((q + 1 : Nat) : Int) := by omega
          have hcap := ownsRow_cap HR9.out.row.choose_spec.1
          have hgl := World.block_lt_of_cell? wr _ hcl
          clear hO8
          by_cases hm8 : m8 = 0
          · have HE0 := Lib.hid (show plainAt τ q = [] from List.length_eq_zero_iff.1 (by omega))
            subst hm8
            clear hl8
            have HC := Lib.hid (RowQ.cut (q := 0) HR9.out (by decide) (by decide) (fun v v' => rfl) HL9.out)
            have HPC := Lib.hid (HP9.out.cut HL9.out HE0.out)
            have HLC := Lib.hid (show (σ.take q).length = q by rw [List.length_take]; have := HL9.out; omega)
            go_wp2_with fail
            go_roundw
            case rel => exact Lib.hid ⟨_, _, _, _, HC.out, HPC.out, HLC.out⟩
            case measure =>
              have h1 : boxLen w1.heap.size (wr.setCell ⟨w1.heap.size, 0, none⟩ (.slice (some ⟨g9, 0, none⟩) q c9)) = q := boxLen_at (cell_of_row _ _ _ _ _ (0, 0) HC.out.bx)
              rw [h1, HBL.out]; omega
          · have hm8i : ((m8 : Int) == 0) = false := by simp; omega
            clear hl8
            go_wp2_with fail
            refine bodyPost_ret (v := .agg #[.slice (some ⟨g9, 0, none⟩) (q + 1) c9]) (by simp [results, Try.results74, go_sem, hc9, hd2, hdf]) rfl ?_
            exact HEND.out _

/-! Steps by the reference: matching. -/
theorem RSo.lower {lo lo' : Nat} {w : World} {A : Option Addr} {n : Nat} {xss : List (List Int)} (h : RSo lo w A n xss) (hl : lo' ≤ lo) : RSo lo' w A n xss := ⟨h.1, fun j xs hx => by
  obtain ⟨b, o, A', m', c', e, h0, h1, h2, h3⟩ := h.2 j xs hx
  exact ⟨b, o, A', m', c', e, by omega, h1, h2, fun b' o' s' e' => by have := h3 b' o' s' e'; omega⟩⟩
/-- The row of what is matched. -/
def MtR (w0 w : World) (M : Nat) (τ : List (List Int)) : Prop := ∃ cs, w.ownsRow w0.heap.size 22 1 (.slice (some ⟨M, 0, none⟩) 24 24) 24 cs ∧ ∀ (j : Nat), j < 24 → ∃ A' m' c', cs[j]? = some (.slice A' m' c') ∧ OwI w w0.heap.size A' m' c' (τ.getD j [])
theorem MtR.ext {w0 w w' : World} {M : Nat} {τ : List (List Int)} (h : MtR w0 w M τ) (k : Ext w w') : MtR w0 w' M τ := by
  obtain ⟨cs, h1, h2⟩ := h
  refine ⟨cs, ownsRow_heap h1 (fun b e => k.block b (ownsRow_at h1 e).2.1), fun j hj => ?_⟩
  obtain ⟨A', m', c', e1, e2⟩ := h2 j hj
  exact ⟨A', m', c', e1, e2.ext k⟩
theorem MtR.at_ {w0 w : World} {M j : Nat} {τ : List (List Int)} (h : MtR w0 w M τ) (hj : j < 24) : ∃ A' m' c', w.cell? ⟨M, j, none⟩ = some (.slice A' m' c') ∧ w.frozen? ⟨M, j, none⟩ = false ∧ OwI w w0.heap.size A' m' c' (τ.getD j []) := by
  obtain ⟨cs, h1, h2⟩ := h
  obtain ⟨A', m', c', e1, e2⟩ := h2 j hj
  exact ⟨A', m', c', by rw [World.ownsRow.cellAt h1 j (by omega)]; exact e1, World.ownsRow.frozenAt h1 j, e2⟩
theorem MtR.set {w0 w : World} {M k n c : Nat} {A : Option Addr} {τ : List (List Int)} {u : List Int} (h : MtR w0 w M τ) (hk : k < 24) (hl : τ.length = 24) (hT : 22 ≠ 2) (hO : OwI w w0.heap.size A n c u) :
    MtR w0 (w.setCell ⟨M, k, none⟩ (.slice A n c)) M (τ.set k u) := by
  obtain ⟨cs, h1, h2⟩ := h
  have hcl : cs.length = 24 := by have := h1.1; omega
  have hkeep : ∀ {A' : Option Addr} {m' c' : Nat} {xs : List Int}, OwI w w0.heap.size A' m' c' xs → OwI (w.setCell ⟨M, k, none⟩ (.slice A n c)) w0.heap.size A' m' c' xs := fun {A' m' c' xs} hO => by
    refine hO.heap fun b e => ?_
    rcases hO.blk with e0 | ⟨b', cur, e0, _, hb⟩
    · rw [e0] at e; cases e
    · rw [e0] at e; cases e
      refine Below.heap_setCell _ _ _ _ (fun e2 => ?_)
      have e3 : b = M := e2
      obtain ⟨_, _, cur2, k2⟩ := ownsRow_at h1 (b := M) rfl
      subst e3; rw [hb] at k2; cases k2
  refine ⟨cs.set k (.slice A n c), (World.ownsRow.stored h1 k _).1, fun j hj => ?_⟩
  rw [List.getElem?_set, getD_set (by omega)]
  by_cases e : k = j
  · subst e
    rw [if_pos rfl, if_pos (by omega), if_pos rfl]
    exact ⟨A, n, c, rfl, hkeep hO⟩
  · rw [if_neg e, if_neg e]
    obtain ⟨A', m', c', e1, e2⟩ := h2 j hj
    exact ⟨A', m', c', e1, hkeep e2⟩
theorem MtR.rsg {w0 w : World} {M : Nat} {τ : List (List Int)} (h : MtR w0 w M τ) (hl : τ.length = 24) : RSg w (some ⟨M, 0, none⟩) 24 τ := by
  refine ⟨⟨hl, by omega⟩, fun j xs hx => ?_⟩
  have hj : j < 24 := by have := (List.getElem?_eq_some_iff.1 hx).1; omega
  obtain ⟨A', m', c', e1, _, e2⟩ := h.at_ hj
  rw [List.getD_eq_getElem?_getD, hx] at e2
  exact ⟨M, 0, A', m', c', rfl, by rw [Nat.zero_add]; exact e1, e2.ri⟩
theorem MtR.lt {w0 w : World} {M : Nat} {τ : List (List Int)} (h : MtR w0 w M τ) : w0.heap.size ≤ M ∧ M < w.heap.size := by
  obtain ⟨cs, h1, _⟩ := h
  obtain ⟨k1, k2, _⟩ := ownsRow_at h1 (b := M) rfl
  exact ⟨k1, k2⟩
theorem madeNils (n : Nat) : (madeCells #[Value.slice none 0 0] n).toList = List.replicate n (Value.slice none 0 0) := by
  apply List.ext_getElem?
  intro j
  simp only [madeCells, Array.toList_map, Array.toList_range, List.getElem?_map, List.getElem?_replicate]
  rcases Nat.lt_or_ge j n with h | h
  · simp [h, Nat.mod_one]
  · simp [Nat.not_lt.2 h]

/-! Steps by the reference: all steps from a term. -/

/-! Steps by the reference: the list of all steps. -/
/-- A row of steps in blocks from lo on. -/
def RSt (lo : Nat) (w : World) (A : Option Addr) (n : Nat) (sts : List Stp) : Prop :=
  (sts.length = n ∧ n ≤ 4194304) ∧ ∀ (j : Nat) (q : Stp), sts[j]? = some q → ∃ b o A' m' c', A = some ⟨b, o, none⟩ ∧ lo ≤ b ∧ w.cell? ⟨b, o + j * 3, none⟩ = some (.int .i64 q.at_) ∧ w.cell? ⟨b, o + j * 3 + 1, none⟩ = some (.int .i64 q.rule) ∧
    w.cell? ⟨b, o + j * 3 + 2, none⟩ = some (.slice A' m' c') ∧ (m' ≤ c' ∧ c' ≤ 9223372036854775807) ∧ RI w A' m' q.to ∧ ∀ b' o' s', A' = some ⟨b', o', s'⟩ → lo ≤ b'
section
variable {lo : Nat} {w w' : World} {A : Option Addr} {n k g : Nat} {sts : List Stp}
theorem RSt.ext (h : RSt lo w A n sts) (k : Ext w w') : RSt lo w' A n sts := ⟨h.1, fun j q hq => by
  obtain ⟨b, o, A', m', c', e, h0, h1, h2, h3, h4, h5, h6⟩ := h.2 j q hq
  exact ⟨b, o, A', m', c', e, h0, Ext.keep k h1, Ext.keep k h2, Ext.keep k h3, h4, h5.ext k, h6⟩⟩
theorem RSt.only (h : RSt lo w A n sts) (hk : Only w w' g) (hg : g < lo) : RSt lo w' A n sts := ⟨h.1, fun j q hq => by
  obtain ⟨b, o, A', m', c', e, h0, h1, h2, h3, h4, h5, h6⟩ := h.2 j q hq
  have hb : ∀ {i : Nat} {v : Value}, w.cell? ⟨b, i, none⟩ = some v → w'.cell? ⟨b, i, none⟩ = some v := fun {i v} hc => by
    rw [World.cell?_of_block (w := w) (w' := w') (a := ⟨b, i, none⟩) (hk.block _ (World.block_lt_of_cell? w _ hc) (fun e => by have e2 : b = g := Option.some.inj e; omega))]; exact hc
  exact ⟨b, o, A', m', c', e, h0, hb h1, hb h2, hb h3, h4, RI.only h5 hk (fun b' o' s' e' _ => by have := h6 b' o' s' e'; omega), h6⟩⟩
theorem RSt.lower {lo' : Nat} (h : RSt lo w A n sts) (hl : lo' ≤ lo) : RSt lo' w A n sts := ⟨h.1, fun j q hq => by
  obtain ⟨b, o, A', m', c', e, h0, h1, h2, h3, h4, h5, h6⟩ := h.2 j q hq
  exact ⟨b, o, A', m', c', e, by omega, h1, h2, h3, h4, h5, fun b' o' s' e' => by have := h6 b' o' s' e'; omega⟩⟩
theorem RSt.at_ (h : RSt lo w A n sts) (hk : k < n) : ∃ b o q A' m' c', A = some ⟨b, o, none⟩ ∧ sts[k]? = some q ∧ lo ≤ b ∧ w.cell? ⟨b, o + k * 3, none⟩ = some (.int .i64 q.at_) ∧ w.cell? ⟨b, o + k * 3 + 1, none⟩ = some (.int .i64 q.rule) ∧
    w.cell? ⟨b, o + k * 3 + 2, none⟩ = some (.slice A' m' c') ∧ (m' ≤ c' ∧ c' ≤ 9223372036854775807) ∧ RI w A' m' q.to ∧ ∀ b' o' s', A' = some ⟨b', o', s'⟩ → lo ≤ b' := by
  have hl : k < sts.length := by rw [h.1.1]; exact hk
  have hx := List.getElem?_eq_getElem hl
  obtain ⟨b, o, A', m', c', e, hh⟩ := h.2 k _ hx
  exact ⟨b, o, _, A', m', c', e, hx, hh⟩
end
theorem all_snoc {s : Sy} {t : List Int} {sts : List Stp} {q : Stp} (h : ∀ x ∈ sts, StepP s t x) (hq : StepP s t q) : ∀ x ∈ sts ++ [q], StepP s t x := fun x hx => by
  rcases List.mem_append.1 hx with hx | hx
  · exact h x hx
  · rw [List.mem_singleton.1 hx]; exact hq

end Go.Proofs.Ytempekmenkeigaa
