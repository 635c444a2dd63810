/- Several texts in one: UsA, UsB, UsC, UsD, UsE. -/
import Derived.Test.YtempekmenkeigaaUnA
import Derived.Test.YtempekmenkeigaaMgA
import Derived.Test.YtempekmenkeigaaParts
import Derived.Maps.AppendAt
import Derived.Test.YtempekmenkeigaaCapO
import Derived.Test.YtempekmenkeigaaDepO
-- rd: RdSyK RdDp RdDq
namespace Go.Proofs.Ytempekmenkeigaa
open Go.RowKit
set_option linter.unusedSimpArgs false
set_option linter.unusedVariables false

/-! The reference's: what variables have; bindings followed. -/
/-- Where the table lies. -/
structure SC where
  gx : Nat
  gb : Nat
  ar : List Int
/-- The table in a world; its terms lie in memory of an older one. -/
structure SC.H (X : SC) (b : Int → Option Tm) (w0 w : World) : Prop where
  c0 : w.cell? ⟨X.gx, 0, none⟩ = some (.slice (some ⟨X.gb, 0, none⟩) 48 48)
  ne : X.gx ≠ X.gb
  cw : ∀ k : Nat, k < 48 → ∃ v, w.cell? ⟨X.gb, k, none⟩ = some v ∧ Slot w0 X.gb v (b (-1 - (k : Int)))
  fr : ∀ o, w.frozen? ⟨X.gb, o, none⟩ = false
  on : Only w0 w X.gb
section
variable {X : SC} {b : Int → Option Tm} {w0 w w' : World}
theorem SC.H.lt (h : X.H b w0 w) : X.gb < w.heap.size := by obtain ⟨v, h1, _⟩ := h.cw 0 (by decide); exact World.block_lt_of_cell? w _ h1
theorem SC.H.ltx (h : X.H b w0 w) : X.gx < w.heap.size := World.block_lt_of_cell? w _ h.c0
theorem SC.H.ext (h : X.H b w0 w) (k : Ext w w') : X.H b w0 w' where
  c0 := Ext.keep k h.c0
  ne := h.ne
  cw := fun i hi => by obtain ⟨v, h1, h2⟩ := h.cw i hi; exact ⟨v, Ext.keep k h1, h2⟩
  fr := fun o => (Below.frozen (p := ⟨X.gb, o, none⟩) k h.lt).trans (h.fr o)
  on := Only.trans h.on (Only.of_ext k _)
theorem SC.H.below {D : Nat} (h : X.H b w0 w) (k : Below D w w') (h1 : X.gx < D) (h2 : X.gb < D) (h3 : w0.heap.size ≤ D) : X.H b w0 w' where
  c0 := (Below.cell k h1).trans h.c0
  ne := h.ne
  cw := fun i hi => by obtain ⟨v, h4, h5⟩ := h.cw i hi; exact ⟨v, (Below.cell k h2).trans h4, h5⟩
  fr := fun o => (Below.frozen (p := ⟨X.gb, o, none⟩) k h2).trans (h.fr o)
  on := ⟨k.os.trans h.on.os, k.tape.trans h.on.tape, k.output.trans h.on.output, Nat.le_trans h.on.size k.size, fun i hi hne => (k.block i (by omega)).trans (h.on.block i hi hne)⟩
theorem SC.H.set (h : X.H b w0 w) {k : Nat} {x : Int} (hk : k < 48) (hx : x = -1 - (k : Int)) {v : Value} {t : Tm} (hv : TS w0 X.gb v t) : X.H (setB b x t) w0 (w.setCell ⟨X.gb, k, none⟩ v) := by
  subst hx
  have hO : Only w (w.setCell ⟨X.gb, k, none⟩ v) X.gb := Only.setCell w X.gb _ _
  refine ⟨keepO hO h.ne h.c0, h.ne, fun i hi => ?_, fun o => by rw [World.frozen?_setCell]; exact h.fr o, Only.trans h.on hO⟩
  obtain ⟨u, h1, h2⟩ := h.cw i hi
  by_cases e : i = k
  · subst e
    rw [setB_same]
    exact ⟨v, World.cell?_setCell_same _ _ _ h1, hv⟩
  · rw [setB_other (by omega)]
    exact ⟨u, by rw [World.cell?_setCell_other _ _ _ _ (by first | (simp; done) | (simp; omega))]; exact h1, h2⟩
theorem SC.H.slot (h : X.H b w0 w) {x : Int} (hx : x < 0) (h48 : -48 ≤ x) : ∃ (k : Nat) (v : Value), -1 - x = (k : Int) ∧ x = -1 - (k : Int) ∧ k < 48 ∧ w.cell? ⟨X.gb, k, none⟩ = some v ∧ Slot w0 X.gb v (b x) := by
  obtain ⟨v, h1, h2⟩ := h.cw (-1 - x).toNat (by omega)
  rw [show (-1 - ((-1 - x).toNat : Int)) = x by omega] at h2
  exact ⟨_, v, by omega, by omega, by omega, h1, h2⟩
end
theorem TS.pos {w : World} {g : Nat} {v : Value} {t : Tm} (h : TS w g v t) : ∃ b o n c, v = .slice (some ⟨b, o, none⟩) n c ∧ (0 : Int) < (n : Int) ∧ n ≤ 4194304 := by
  obtain ⟨b, o, n, c, e, h1, h2, h3⟩ := h
  have hl := h3.len
  have hp := flat_pos t
  have hn := h3.le
  exact ⟨b, o, n, c, e, by omega, hn⟩
set_option maxRecDepth 100000 in
set_option maxHeartbeats 4000000 in
theorem c_l11Head {X : SC} {b : Int → Option Tm} {σ : Int → Tm} {r : Int → Nat} {t : Tm} {v : Value} {w0 w : World} (hT : Tri X.ar b σ r) (hH : X.H b w0 w) (ht : TT X.ar w0 X.gb v t) :
    Calls Try.prog 97 #[.pointer (some ⟨X.gx, 0, none⟩), v] w fun e w' => ∃ v' x us, e = .returned v' ∧ TT X.ar w0 X.gb v' (.node x us) ∧ Rt b t (.node x us) ∧ (x < 0 → b x = none) ∧ Lead b t (.node x us) ∧ Ext w w' := by
  have HT := Lib.hid hT
  have HH := Lib.hid hH
  have HV := Lib.hid ht
  clear hT hH ht
  go_enter Try.func97, Try.ntmps97
  go_wp2_with fail
  go_loopg [1] (match t with | .node x _ => r x + 1) (fun k v wr => (∃ x us, Hid (TT X.ar w0 X.gb v (.node x us)) ∧ Hid (Rt b t (.node x us)) ∧ Hid (x < 0 → r x < k) ∧ Hid (Lead b t (.node x us))) ∧ Hid (Ext w wr))
  case atStart =>
    obtain ⟨x, us⟩ := t
    exact ⟨⟨x, us, HV, Lib.hid fun _ _ => rfl, Lib.hid fun _ => Nat.lt_succ_self _, Lib.hid (.here _)⟩, Lib.hid (Ext.refl _)⟩
  case round =>
    obtain ⟨⟨x, us, HX, HR, HK, HL⟩, HE⟩ := hrel
    obtain ⟨bb, oo, nn, cc, rfl, hn0, hcx, hbg, hn4⟩ := (HX.out.ts.only (HH.out.ext HE.out).on).first
    have hcg := Ext.keep HE.out HH.out.c0
    by_cases hx : x < 0
    · have hd0 : decide (x < 0) = true := by simpa using hx
      have h48 : -48 ≤ x := HX.out.dm x (by rw [flat_node]; exact List.mem_cons_self)
      obtain ⟨k, sv, hk, hk', hk48, hcs0, hsl⟩ := HH.out.slot hx h48
      have hcs := Ext.keep HE.out hcs0
      clear hcs0
      have hki : (k : Int) < 48 := by omega
      have HK' := Lib.hid hk'
      have HSL := Lib.hid hsl
      clear hk' hsl
      rcases hb : b x with _ | t'
      · have HB := Lib.hid hb
        have h1 := HSL.out
        rw [hb] at h1
        have h2 : sv = .slice none 0 0 := h1
        subst h2
        clear h1 hb
        go_wp2_with fail
        go_quiet (fail)
        go_wp2
        go_ret
        exact ⟨_, x, us, rfl, HX.out, HR.out, fun _ => HB.out, HL.out, Ext.trans HE.out (by exact extX)⟩
      · obtain ⟨x', us'⟩ := t'
        have HB := Lib.hid hb
        have h1 := HSL.out
        rw [hb] at h1
        have h2 : TS w0 X.gb sv (.node x' us') := h1
        clear h1 hb
        have HS2 := Lib.hid h2
        obtain ⟨b2, o2, n2, c2, rfl, hp2, hn24⟩ := h2.pos
        clear h2
        go_wp2_with fail
        go_quiet (fail)
        go_wp2_with fail
        go_quiet (fail)
        go_wp2_with fail
        go_roundg (r x)
        case measure => exact HK.out hx
        case rel => exact ⟨⟨x', us', Lib.hid ⟨HS2.out, HT.out.ok x _ HB.out, HT.out.dom x _ HB.out⟩, Lib.hid (fun θ hs => (HR.out θ hs).trans (by rw [ok_var HX.out.ok hx, vr_sub hx]; exact hs x _ HB.out)), Lib.hid fun h => HT.out.lt x _ HB.out x' (by rw [flat_node]; exact List.mem_cons_self) h, Lib.hid (HL.out.snoc (ok_var HX.out.ok hx) hx HB.out)⟩, Lib.hid (Ext.trans HE.out (by exact extX))⟩
    · have hd0 : decide (x < 0) = false := by simpa using hx
      go_wp2_with fail
      go_quiet (fail)
      go_wp2
      go_ret
      exact ⟨_, x, us, rfl, HX.out, HR.out, fun h => absurd h (by omega), HL.out, Ext.trans HE.out (by exact extX)⟩

/-! The reference's: whether a variable stands in a term by what variables have; stacks of terms. -/
/-- A stack of terms of the call's own; the terms lie in memory of an older world. -/
def SkT (ar : List Int) (gb : Nat) (w0 w : World) (D : Nat) (A : Option Addr) (n c : Nat) (us : List Tm) : Prop :=
  ∃ vs, w.ownsRow D 22 1 (.slice A n c) n vs ∧ us.length = n ∧ ∀ (j : Nat) (v : Value) (u : Tm), vs[j]? = some v → us[j]? = some u → TT ar w0 gb v u
section
variable {ar : List Int} {gb : Nat} {w0 w w' : World} {D : Nat} {A : Option Addr} {n c : Nat} {us : List Tm}
theorem SkT.len (h : SkT ar gb w0 w D A n c us) : us.length = n := by obtain ⟨_, _, h, _⟩ := h; exact h
theorem ownsRow_blk {D : Nat} {T : TypeId} {k : Nat} {A : Option Addr} {n c : Nat} {vs : List Value} (h : w.ownsRow D T k (.slice A n c) n vs) (hk : ∀ g, D ≤ g → g < w.heap.size → w'.heap[g]? = w.heap[g]?) : w'.ownsRow D T k (.slice A n c) n vs := by
  refine ⟨h.1, ?_⟩
  rcases h.2 with h2 | ⟨g, cap, cur, hv, hg, hh, r⟩
  · exact .inl h2
  · exact .inr ⟨g, cap, cur, hv, hg, (hk g hg (Array.getElem?_eq_some_iff.1 hh).1).trans hh, r⟩
theorem SkT.block (h : SkT ar gb w0 w D A n c us) (hk : ∀ g, D ≤ g → g < w.heap.size → w'.heap[g]? = w.heap[g]?) : SkT ar gb w0 w' D A n c us := by
  obtain ⟨vs, h1, h2, h3⟩ := h
  exact ⟨vs, ownsRow_blk h1 hk, h2, h3⟩
theorem SkT.ext (h : SkT ar gb w0 w D A n c us) (k : Ext w w') : SkT ar gb w0 w' D A n c us := h.block fun g _ hg => k.block g hg
theorem SkT.setFar (h : SkT ar gb w0 w D A n c us) {p : Addr} (hp : p.block < D) (v : Value) : SkT ar gb w0 (w.setCell p v) D A n c us :=
  h.block fun g hg _ => Below.heap_setCell _ _ _ _ (by omega)
theorem SkT.new {g : Nat} {v : Value} {u : Tm} {T : TypeId} (hT : T = 22) (hh : w.heap[g]? = some (.cells #[v] T (0, 0))) (hD : D ≤ g) (ht : TT ar w0 gb v u) : SkT ar gb w0 w D (some ⟨g, 0, none⟩) 1 1 [u] := by
  subst hT
  refine ⟨[v], ⟨rfl, .inr ⟨g, 1, #[v], rfl, hD, hh, Nat.le_refl _, by decide, rfl, rfl⟩⟩, rfl, fun j v' u' h1 h2 => ?_⟩
  match j, h1, h2 with
  | 0, h1, h2 => cases h1; cases h2; exact ht
/-- Its last term. -/
theorem SkT.last {k : Nat} (h : SkT ar gb w0 w D A (k + 1) c us) : ∃ g v u L, A = some ⟨g, 0, none⟩ ∧ (D ≤ g ∧ g < w.heap.size) ∧ us = L ++ [u] ∧ w.cell? ⟨g, k, none⟩ = some v ∧ TT ar w0 gb v u ∧ SkT ar gb w0 w D (some ⟨g, 0, none⟩) k c L ∧ k + 1 ≤ c ∧ c ≤ maxLen := by
  obtain ⟨vs, h1, h2, h3⟩ := h
  have hvl : vs.length = k + 1 := by have := h1.1; simpa using this
  rcases List.eq_nil_or_concat us with rfl | ⟨L, u, rfl⟩
  · simp at h2
  · rw [List.concat_eq_append] at h2 h3 ⊢
    have hL : L.length = k := by simp at h2; omega
    rcases h1.2 with ⟨hv, hn⟩ | ⟨g, cap, cur, hv, hg, hh, r1, r2, r3, r4⟩
    · omega
    · cases hv
      have hc := World.ownsRow.cellAt h1 k (show k < (k + 1) * 1 by omega)
      have hvk : vs[k]? = some (vs[k]'(by omega)) := List.getElem?_eq_getElem (by omega)
      have hown : w.ownsRow D 22 1 (.slice (some ⟨g, 0, none⟩) k c) k (vs.take k) := by
        refine ⟨by rw [List.length_take]; omega, .inr ⟨g, c, cur, rfl, hg, hh, by omega, r2, r3, ?_⟩⟩
        rw [← r4, List.take_take]; congr 1; omega
      refine ⟨g, vs[k]'(by omega), u, L, rfl, ⟨hg, (Array.getElem?_eq_some_iff.1 hh).1⟩, rfl, hc.trans hvk, h3 k _ _ hvk (by rw [List.getElem?_append_right (by omega), hL, Nat.sub_self]; rfl), ⟨vs.take k, hown, hL, fun j v' u' e1 e2 => ?_⟩, r1, r2⟩
      have hj : j < k := by have := (List.getElem?_eq_some_iff.1 e2).1; omega
      rw [List.getElem?_take_of_lt hj] at e1
      exact h3 j v' u' e1 (by rw [List.getElem?_append_left (by omega)]; exact e2)
theorem SkT.push {wx : World} {g cap : Nat} {v : Value} {u : Tm} {vs : List Value} (hl : us.length = n) (hr : ∀ (j : Nat) (v : Value) (u : Tm), vs[j]? = some v → us[j]? = some u → TT ar w0 gb v u) (hvl : vs.length = n) (hv : TT ar w0 gb v u)
    (hown : wx.ownsRow D 22 1 (.slice (some ⟨g, 0, none⟩) (n + 1) cap) (n + 1) (vs ++ [v])) : SkT ar gb w0 wx D (some ⟨g, 0, none⟩) (n + 1) cap (us ++ [u]) := by
  refine ⟨_, hown, by simp [hl], fun j v' u' h1 h2 => ?_⟩
  rcases Nat.lt_or_ge j n with h | h
  · rw [List.getElem?_append_left (by omega)] at h1
    rw [List.getElem?_append_left (by omega)] at h2
    exact hr j v' u' h1 h2
  · have hj : j = n := by have := (List.getElem?_eq_some_iff.1 h1).1; simp [hvl] at this; omega
    subst hj
    rw [List.getElem?_append_right (by omega), hvl, Nat.sub_self] at h1
    rw [List.getElem?_append_right (by omega), hl, Nat.sub_self] at h2
    cases h1; cases h2
    exact hv
end
theorem Seen.below {gs D : Nat} {m : Int → Bool} {w w' : World} (h : Seen gs m w) (k : Below D w w') (hg : gs < D) : Seen gs m w' :=
  ⟨fun i hi => (Below.cell k hg).trans (h.c i hi), fun o => (Below.frozen (p := ⟨gs, o, none⟩) k hg).trans (h.fr o)⟩
theorem bool_infoU : (Try.prog.info? 4).map (fun i => (i.zero, i.size, i.bytes)) = some (some (.bool false), 1, 1) := by kernel_rfl
set_option maxRecDepth 100000 in
set_option maxHeartbeats 8000000 in
theorem c_l11Occurs {X : SC} {b : Int → Option Tm} {σ : Int → Tm} {r : Int → Nat} {x : Int} {t : Tm} {v : Value} {w0 w : World} (hT : Tri X.ar b σ r) (hx : x < 0) (hbx : b x = none) (hH : X.H b w0 w) (ht : TT X.ar w0 X.gb v t) :
    Calls Try.prog 98 #[.pointer (some ⟨X.gx, 0, none⟩), .int .i64 x, v] w fun e w' => ((e = .returned (.bool true) ∧ x ∈ (t.sub σ).flat) ∨ (e = .returned (.bool false) ∧ ¬ x ∈ (t.sub σ).flat)) ∧ Ext w w' := by
  have HT := Lib.hid hT
  have HH := Lib.hid hH
  have HV := Lib.hid ht
  have HBX := Lib.hid hbx
  have hc0 := hH.c0
  obtain ⟨bv, ov, nv, cv, rfl, _, _, _⟩ := ht.ts
  obtain ⟨bi, hbi, hbz, hbs, hbb⟩ := info_parts bool_infoU
  obtain ⟨i0, hii, hiz, his, hib⟩ := info_parts slices_info
  clear hT hH ht hbx
  go_enter Try.func98, Try.ntmps98
  go_wp2_with (at_make; refine wpList_make_full _ rfl _ _ 142 rfl w.heap.size 4 bi _ 1 Try.underlying142 hbi hbz hbs _ _ _ _ 48 rfl rfl rfl rfl (by rw [hbb]; omega) (by simp only [maxLen]; omega) (Nat.le_refl _) ?_)
  intro w1 hown0 hg
  rw [show (madeCells #[Value.bool false] 48).toList = List.replicate 48 (.bool false) by kernel_rfl] at hown0
  have hE1 : Ext w w1 := Ext.grown (Ext.refl _) hg (fun k hk => by cases hk)
  have hgs : w.heap.size < w1.heap.size := (World.ownsRow.lt hown0 _ rfl).2
  have HS1 := Lib.hid (show Seen w.heap.size (fun _ => false) w1 from ⟨fun k hk => by
    rw [World.ownsRow.cellAt hown0 k (by omega), List.getElem?_replicate, if_pos hk], fun o => World.ownsRow.frozenAt hown0 o⟩)
  clear hown0 hg
  go_wp2_with fail
  obtain ⟨w2, hw2⟩ : ∃ w2, w2 = w1.alloc (.cells #[.slice (some ⟨bv, ov, none⟩) nv cv] 22) := ⟨_, rfl⟩
  have hE2 : Ext w1 w2 := by rw [hw2]; exact extX
  have HK2 := Lib.hid (show SkT X.ar X.gb w0 w2 (w.heap.size + 1) (some ⟨w1.heap.size, 0, none⟩) 1 1 [t] from SkT.new rfl (by rw [hw2]; exact alloc_at _ _) (by omega) HV.out)
  rw [← hw2]
  have HS2 := Lib.hid (HS1.out.ext hE2)
  have HE2 := Lib.hid (Ext.trans hE1 hE2)
  clear hw2 hE1 hE2
  go_loopg [8] 49 (fun K tv wr => (∃ A n c m us, tv = .slice A n c ∧ n ≤ 49 ∧ Hid (SkT X.ar X.gb w0 wr (w.heap.size + 1) A n c us) ∧ Hid (Seen w.heap.size m wr) ∧ Hid (OccI X.ar b σ x t m us) ∧ Hid (us.length + ucnt m ≤ K)) ∧ Hid (Ext w wr))
  case atStart => exact ⟨⟨_, 1, 1, fun _ => false, [t], rfl, by omega, HK2, HS2, Lib.hid (OccI.start HV.out.ok HV.out.dm), Lib.hid (by rw [ucnt_all]; simp)⟩, HE2⟩
  case round =>
    obtain ⟨⟨A, n, c, m, us, rfl, hn49, hK, hS, hI, hM⟩, hE⟩ := hrel
    by_cases hn0 : n = 0
    · subst hn0
      have HR := Lib.hid (show ¬ x ∈ (t.sub σ).flat by
        have h1 := hK.out.len
        have h2 := List.eq_nil_of_length_eq_zero h1
        have h3 := hI.out
        rw [h2] at h3
        exact h3.done HT.out hx HV.out.ok)
      go_wp2
      go_ret
      exact ⟨.inr ⟨rfl, HR.out⟩, hE.out⟩
    · obtain ⟨n1, rfl⟩ : ∃ n1, n = n1 + 1 := ⟨n - 1, by omega⟩
      obtain ⟨g, vu, u, L, rfl, hgb, rfl, hcv, htu, hL, hnc, hcm⟩ := hK.out.last
      have HTU := Lib.hid htu
      have HL := Lib.hid hL
      have HJ := Lib.hid hI.out.take
      have HU := Lib.hid (hI.out.ok u (by simp))
      have HUX := Lib.hid (hI.out.so u (by simp))
      have HM := Lib.hid (Nat.lt_of_lt_of_le (show L.length + ucnt m < (L ++ [u]).length + ucnt m by simp) hM.out)
      obtain ⟨bu, ou, nu, cu, rfl, hun, hug, hur⟩ := htu.ts
      have HUR := Lib.hid hur
      have HUL := Lib.hid hur.len
      have hul := hur.le
      unfold maxLen at hcm
      have hn1i : (0 : Int) < ((n1 + 1 : Nat) : Int) := by omega
      clear htu hL hI hM hK hur
      obtain ⟨wo, rfl⟩ : ∃ wo : World, wo = wr := ⟨_, rfl⟩
      obtain ⟨S0, hS0⟩ : ∃ S0, S0 = L.length + ucnt m := ⟨_, rfl⟩
      rw [← hS0] at HM
      have HS0 := Lib.hid hS0
      clear hS0
      go_wp2_with fail
      go_loopw [8, 10] (fun tv iv wr => ∃ k : Nat, iv = .int .i64 k ∧ k ≤ nu ∧ (∃ A n c m us, tv = .slice A n c ∧ n ≤ 49 ∧ Hid (SkT X.ar X.gb w0 wr (w.heap.size + 1) A n c us) ∧ Hid (Seen w.heap.size m wr) ∧ Hid (OccJ X.ar b σ x t m us u k) ∧ Hid (us.length + ucnt m ≤ S0)) ∧ Hid (Ext w wr)) (fun _ iv _ => nu - (intOf iv).toNat)
      case atStart => exact ⟨0, rfl, Nat.zero_le _, ⟨_, n1, c, m, L, rfl, by omega, HL, hS, HJ, Lib.hid (by rw [HS0.out]; exact Nat.le_refl _)⟩, hE⟩
      case round =>
        obtain ⟨k, rfl, hk, ⟨A9, n9, c9, m9, us9, rfl, hn9, hK9, hS9, hJ9, hM9⟩, hE9⟩ := hrel
        by_cases hlt : k < nu
        · have hH9 := HH.out.ext hE9.out
          obtain ⟨_, _, y, e9, hy, hcy⟩ := RI.at_ (RI.only HUR.out hH9.on fun b' o' s' e _ => by cases e; exact hug) hlt
          cases e9
          have HY := Lib.hid hy
          have HYM := Lib.hid (List.mem_of_getElem? hy)
          have hki : (k : Int) < (nu : Int) := by omega
          have h48 : -48 ≤ y := HU.out.2 y HYM.out
          have hcg := hH9.c0
          clear hy
          by_cases hyx : y = x
          · have hd : (y == x) = true := by simpa using hyx
            have HM := Lib.hid (HUX.out (occ_here HT.out hx HBX.out HU.out.1 (hyx ▸ HYM.out)))
            clear hyx
            go_wp2
            go_ret
            exact ⟨.inl ⟨rfl, HM.out⟩, hE9.out⟩
          · have hd : (y == x) = false := by simpa using hyx
            have HYX := Lib.hid hyx
            clear hyx
            by_cases hy0 : 0 ≤ y
            · have hd2 : decide (y < 0) = false := by simp; omega
              have HJN := Lib.hid (hJ9.out.skip HY.out HYX.out (fun h => by omega))
              go_wp2_with fail
              go_quiet (fail)
              go_wp2
              refine ⟨⟨k + 1, by go_num, by omega, ⟨_, _, _, m9, us9, rfl, hn9, Lib.hid (hK9.out.ext (by exact extX)), Lib.hid (hS9.out.ext (by exact extX)), HJN, hM9⟩, Lib.hid (Ext.trans hE9.out (by exact extX))⟩, by simp only [intOf]; omega⟩
            · have hy1 : y < 0 := by omega
              have hd2 : decide (y < 0) = true := by simpa using hy1
              obtain ⟨q, sv, hq, hq', hq48, hcs, hsl⟩ := hH9.slot hy1 h48
              have hqi : (q : Int) < 48 := by omega
              have hcm9 := hS9.out.c q hq48
              rw [← hq'] at hcm9
              have hfm := hS9.out.fr q
              have HQ' := Lib.hid hq'
              have HSL := Lib.hid hsl
              clear hq' hsl hH9
              rcases hmy : m9 y with _ | _
              · rw [hmy] at hcm9
                have HMY := Lib.hid hmy
                clear hmy
                rcases hb : b y with _ | t'
                · have HJN := Lib.hid (hJ9.out.skip HY.out HYX.out (fun _ => .inl hb))
                  have h1 := HSL.out
                  rw [hb] at h1
                  have h2 : sv = .slice none 0 0 := h1
                  subst h2
                  clear h1 hb
                  go_wp2_with fail
                  go_quiet (fail)
                  go_wp2
                  refine ⟨⟨k + 1, by go_num, by omega, ⟨_, _, _, m9, us9, rfl, hn9, Lib.hid (hK9.out.ext (by exact extX)), Lib.hid (hS9.out.ext (by exact extX)), HJN, hM9⟩, Lib.hid (Ext.trans hE9.out (by exact extX))⟩, by simp only [intOf]; omega⟩
                · have HJN := Lib.hid (hJ9.out.push HT.out HU.out.1 HUX.out HY.out HYX.out hy1 h48 HMY.out hb)
                  have HMN := Lib.hid (show (us9 ++ [t']).length + ucnt (setM m9 y) ≤ S0 by have := ucnt_set hy1 h48 HMY.out; have := hM9.out; simp; omega)
                  have HB := Lib.hid hb
                  have h1 := HSL.out
                  rw [hb] at h1
                  have h2 : TS w0 X.gb sv t' := h1
                  clear h1 hb
                  have HTT := Lib.hid (show TT X.ar w0 X.gb sv t' from ⟨h2, HT.out.ok y _ HB.out, HT.out.dom y _ HB.out⟩)
                  obtain ⟨b2, o2, n2, c2, rfl, hp2, hn24⟩ := h2.pos
                  clear h2
                  have hdn2 : decide (0 < n2) = true := by simpa using hp2
                  have hn48 : n9 ≤ 48 := by have := hJ9.out.ln; have := hK9.out.len; omega
                  go_wp2_with fail
                  go_quiet (fail)
                  go_wp2_with fail
                  obtain ⟨wx, hwx⟩ : ∃ wx, wx = (wr.drewN nq).setCell ⟨w.heap.size, q, none⟩ (.bool true) := ⟨_, rfl⟩
                  rw [← hwx]
                  have hSx : Seen w.heap.size (setM m9 y) wx := by rw [hwx]; exact (hS9.out.ext (by exact extX : Ext wr (wr.drewN nq))).set hq48 HQ'.out
                  have hKx : SkT X.ar X.gb w0 wx (w.heap.size + 1) A9 n9 c9 us9 := by rw [hwx]; exact (hK9.out.ext (by exact extX : Ext wr (wr.drewN nq))).setFar (Nat.lt_succ_self _) _
                  have hEx : Ext w wx := by rw [hwx]; exact Ext.set (Ext.drewN hE9.out _) (Nat.le_refl _) _
                  have hHx := HH.out.ext hEx
                  obtain ⟨_, _, y', e9, hy', hcy'⟩ := RI.at_ (RI.only HUR.out hHx.on fun b' o' s' e _ => by cases e; exact hug) hlt
                  cases e9
                  rw [HY.out] at hy'
                  cases hy'
                  have hcgx := hHx.c0
                  have hwq : IntKind.i64.wrap (q : Int) = (q : Int) := IntWalk.i64_in _ (by omega)
                  obtain ⟨q', sv', hqq, hqq', _, hcsx, hslx⟩ := hHx.slot hy1 h48
                  obtain rfl : q' = q := by omega
                  have hsv : wx.cell? ⟨X.gb, q', none⟩ = some (.slice (some ⟨b2, o2, none⟩) n2 c2) := by
                    rw [hwx, World.cell?_setCell_other _ _ _ _ (by have := HH.out.lt; first | (simp; done) | (simp; omega))]; exact hcs
                  have hbux : bu < w.heap.size := by
                    obtain ⟨_, _, _, e9, _, hq9⟩ := RI.at_ (RI.only HUR.out HH.out.on fun b' o' s' e _ => by cases e; exact hug) hlt
                    cases e9; exact World.block_lt_of_cell? w _ hq9
                  have hbx1 : bu < w.heap.size + 1 := by omega
                  have hbx2 : X.gb < w.heap.size + 1 := by have := HH.out.lt; omega
                  have hbx3 : X.gx < w.heap.size + 1 := by have := HH.out.ltx; omega
                  have hwsz : w.heap.size + 1 ≤ wx.heap.size := by obtain hcq := hSx.c 0 (by decide); have := World.block_lt_of_cell? wx _ hcq; exact this
                  obtain ⟨vs9, hown9, hl9, hr9⟩ := hKx
                  have HWN := Lib.hid hown9
                  have HR9 := Lib.hid hr9
                  have hvl9 : vs9.length = n9 := by have := hown9.1; simpa using this
                  have HSX := Lib.hid hSx
                  have HEX := Lib.hid hEx
                  clear hqq' hqq hSx hEx hHx hslx hcsx hown9 hr9 hwx hcs hcm9 hfm hcy hcg hE9 hS9 hK9
                  try simp only [hdn2]
                  refine wp_only (R := fun (a0 : Act) (a8 : Act) (w9 : World) => ∃ (g2 : Nat) (cap2 : Nat), a8 = (((((((((((((((a0.put (some 83) (.slice A9 n9 c9)).put (some 84) (.pointer (some ⟨X.gx, 0, none⟩))).put (some 85) (.pointer (some ⟨X.gx, 0, none⟩))).put (some 86) (.pointer (some ⟨X.gx, 0, none⟩))).put (some 87) (.slice (some ⟨X.gb, 0, none⟩) 48 48)).put (some 88) (.slice (some ⟨bu, ou, none⟩) nu cu)).put (some 89) (.int .i64 (k : Int))).put (some 90) (.pointer (some ⟨bu, ou + k, none⟩))).put (some 91) (.int .i64 y)).put (some 92) (.int .i64 (q' : Int))).put (some 93) (.pointer (some ⟨X.gb, q', none⟩))).put (some 94) (.slice (some ⟨b2, o2, none⟩) n2 c2)).put (some 95) (.slice (some ⟨wx.heap.size, 0, none⟩) 1 1)).put (some 96) (.slice (some ⟨g2, 0, none⟩) (n9 + 1) cap2)).put (some 8) (.slice (some ⟨g2, 0, none⟩) (n9 + 1) cap2)) ∧ SkT X.ar X.gb w0 w9 (w.heap.size + 1) (some ⟨g2, 0, none⟩) (n9 + 1) cap2 (us9 ++ [t']) ∧ Below (w.heap.size + 1) wx w9) ?_ (fun a8 w10 hR => ?_)
                  · refine wp_region_held_drew (S := (fun w' => Below (w.heap.size + 1) wx w')) (by kernel_rfl) ((Below.refl _ wx).drew) (fun hH => ?_)
                    refine wpAnyH_take_dst (i := 0) (v := .slice A9 n9 c9) (d := some 83) rfl rfl (by kernel_rfl) (by kernel_rfl) (by kernel_rfl) (fun _ _ _ h => h) (Or.inl ⟨by rfl, ?_⟩) hH ?_
                    · (intro w' hE'; (try dsimp only at hE'); have y0 := (Below.cell (p := ⟨X.gx, 0, none⟩) hE' hbx3).trans hcgx; have y1 := (Below.cell (p := ⟨X.gb, q', none⟩) hE' hbx2).trans hsv; have y2 := (Below.cell (p := ⟨bu, ou + k, none⟩) hE' hbx1).trans hcy'; go_simp; try with_reducible rfl)
                    try simp only [Act.put, List.setIfInBounds_toArray, List.set_cons_zero, List.set_cons_succ]
                    refine wpAnyH_take_dst (i := 1) (v := .pointer (some ⟨X.gx, 0, none⟩)) (d := some 84) rfl rfl (by kernel_rfl) (by kernel_rfl) (by kernel_rfl) (fun _ _ _ h => h) (Or.inl ⟨by rfl, ?_⟩) hH ?_
                    · (intro w' hE'; (try dsimp only at hE'); have y0 := (Below.cell (p := ⟨X.gx, 0, none⟩) hE' hbx3).trans hcgx; have y1 := (Below.cell (p := ⟨X.gb, q', none⟩) hE' hbx2).trans hsv; have y2 := (Below.cell (p := ⟨bu, ou + k, none⟩) hE' hbx1).trans hcy'; go_simp; try with_reducible rfl)
                    try simp only [Act.put, List.setIfInBounds_toArray, List.set_cons_zero, List.set_cons_succ]
                    refine wpAnyH_take_dst (i := 2) (v := .pointer (some ⟨X.gx, 0, none⟩)) (d := some 85) rfl rfl (by kernel_rfl) (by kernel_rfl) (by kernel_rfl) (fun _ _ _ h => h) (Or.inl ⟨by rfl, ?_⟩) hH ?_
                    · (intro w' hE'; (try dsimp only at hE'); have y0 := (Below.cell (p := ⟨X.gx, 0, none⟩) hE' hbx3).trans hcgx; have y1 := (Below.cell (p := ⟨X.gb, q', none⟩) hE' hbx2).trans hsv; have y2 := (Below.cell (p := ⟨bu, ou + k, none⟩) hE' hbx1).trans hcy'; go_simp; try with_reducible rfl)
                    try simp only [Act.put, List.setIfInBounds_toArray, List.set_cons_zero, List.set_cons_succ]
                    refine wpAnyH_take_dst (i := 3) (v := .pointer (some ⟨X.gx, 0, none⟩)) (d := some 86) rfl rfl (by kernel_rfl) (by kernel_rfl) (by kernel_rfl) (fun _ _ _ h => h) (Or.inl ⟨by rfl, ?_⟩) hH ?_
                    · (intro w' hE'; (try dsimp only at hE'); have y0 := (Below.cell (p := ⟨X.gx, 0, none⟩) hE' hbx3).trans hcgx; have y1 := (Below.cell (p := ⟨X.gb, q', none⟩) hE' hbx2).trans hsv; have y2 := (Below.cell (p := ⟨bu, ou + k, none⟩) hE' hbx1).trans hcy'; go_simp; try with_reducible rfl)
                    try simp only [Act.put, List.setIfInBounds_toArray, List.set_cons_zero, List.set_cons_succ]
                    refine wpAnyH_take_dst (i := 4) (v := .slice (some ⟨X.gb, 0, none⟩) 48 48) (d := some 87) rfl rfl (by kernel_rfl) (by kernel_rfl) (by kernel_rfl) (fun _ _ _ h => h) (Or.inl ⟨by rfl, ?_⟩) hH ?_
                    · (intro w' hE'; (try dsimp only at hE'); have y0 := (Below.cell (p := ⟨X.gx, 0, none⟩) hE' hbx3).trans hcgx; have y1 := (Below.cell (p := ⟨X.gb, q', none⟩) hE' hbx2).trans hsv; have y2 := (Below.cell (p := ⟨bu, ou + k, none⟩) hE' hbx1).trans hcy'; go_simp; try with_reducible rfl)
                    try simp only [Act.put, List.setIfInBounds_toArray, List.set_cons_zero, List.set_cons_succ]
                    refine wpAnyH_take_dst (i := 5) (v := .slice (some ⟨bu, ou, none⟩) nu cu) (d := some 88) rfl rfl (by kernel_rfl) (by kernel_rfl) (by kernel_rfl) (fun _ _ _ h => h) (Or.inl ⟨by rfl, ?_⟩) hH ?_
                    · (intro w' hE'; (try dsimp only at hE'); have y0 := (Below.cell (p := ⟨X.gx, 0, none⟩) hE' hbx3).trans hcgx; have y1 := (Below.cell (p := ⟨X.gb, q', none⟩) hE' hbx2).trans hsv; have y2 := (Below.cell (p := ⟨bu, ou + k, none⟩) hE' hbx1).trans hcy'; go_simp; try with_reducible rfl)
                    try simp only [Act.put, List.setIfInBounds_toArray, List.set_cons_zero, List.set_cons_succ]
                    refine wpAnyH_take_dst (i := 6) (v := .int .i64 (k : Int)) (d := some 89) rfl rfl (by kernel_rfl) (by kernel_rfl) (by kernel_rfl) (fun _ _ _ h => h) (Or.inl ⟨by rfl, ?_⟩) hH ?_
                    · (intro w' hE'; (try dsimp only at hE'); have y0 := (Below.cell (p := ⟨X.gx, 0, none⟩) hE' hbx3).trans hcgx; have y1 := (Below.cell (p := ⟨X.gb, q', none⟩) hE' hbx2).trans hsv; have y2 := (Below.cell (p := ⟨bu, ou + k, none⟩) hE' hbx1).trans hcy'; go_simp; try with_reducible rfl)
                    try simp only [Act.put, List.setIfInBounds_toArray, List.set_cons_zero, List.set_cons_succ]
                    refine wpAnyH_take_dst (i := 7) (v := .pointer (some ⟨bu, ou + k, none⟩)) (d := some 90) rfl rfl (by kernel_rfl) (by kernel_rfl) (by kernel_rfl) (fun _ _ _ h => h) (Or.inl ⟨by rfl, ?_⟩) hH ?_
                    · (intro w' hE'; (try dsimp only at hE'); have y0 := (Below.cell (p := ⟨X.gx, 0, none⟩) hE' hbx3).trans hcgx; have y1 := (Below.cell (p := ⟨X.gb, q', none⟩) hE' hbx2).trans hsv; have y2 := (Below.cell (p := ⟨bu, ou + k, none⟩) hE' hbx1).trans hcy'; go_simp; try with_reducible rfl)
                    try simp only [Act.put, List.setIfInBounds_toArray, List.set_cons_zero, List.set_cons_succ]
                    refine wpAnyH_take_dst (i := 8) (v := .int .i64 y) (d := some 91) rfl rfl (by kernel_rfl) (by kernel_rfl) (by kernel_rfl) (fun _ _ _ h => h) (Or.inl ⟨by rfl, ?_⟩) hH ?_
                    · (intro w' hE'; (try dsimp only at hE'); have y0 := (Below.cell (p := ⟨X.gx, 0, none⟩) hE' hbx3).trans hcgx; have y1 := (Below.cell (p := ⟨X.gb, q', none⟩) hE' hbx2).trans hsv; have y2 := (Below.cell (p := ⟨bu, ou + k, none⟩) hE' hbx1).trans hcy'; go_simp; try with_reducible rfl)
                    try simp only [Act.put, List.setIfInBounds_toArray, List.set_cons_zero, List.set_cons_succ]
                    refine wpAnyH_take_dst (i := 9) (v := .int .i64 (q' : Int)) (d := some 92) rfl rfl (by kernel_rfl) (by kernel_rfl) (by kernel_rfl) (fun _ _ _ h => h) (Or.inl ⟨by rfl, ?_⟩) hH ?_
                    · (intro w' hE'; (try dsimp only at hE'); have y0 := (Below.cell (p := ⟨X.gx, 0, none⟩) hE' hbx3).trans hcgx; have y1 := (Below.cell (p := ⟨X.gb, q', none⟩) hE' hbx2).trans hsv; have y2 := (Below.cell (p := ⟨bu, ou + k, none⟩) hE' hbx1).trans hcy'; go_simp; try with_reducible rfl)
                    try simp only [Act.put, List.setIfInBounds_toArray, List.set_cons_zero, List.set_cons_succ]
                    refine wpAnyH_take_dst (i := 10) (v := .pointer (some ⟨X.gb, q', none⟩)) (d := some 93) rfl rfl (by kernel_rfl) (by kernel_rfl) (by kernel_rfl) (fun _ _ _ h => h) (Or.inl ⟨by rfl, ?_⟩) hH ?_
                    · (intro w' hE'; (try dsimp only at hE'); have y0 := (Below.cell (p := ⟨X.gx, 0, none⟩) hE' hbx3).trans hcgx; have y1 := (Below.cell (p := ⟨X.gb, q', none⟩) hE' hbx2).trans hsv; have y2 := (Below.cell (p := ⟨bu, ou + k, none⟩) hE' hbx1).trans hcy'; go_simp; try with_reducible rfl)
                    try simp only [Act.put, List.setIfInBounds_toArray, List.set_cons_zero, List.set_cons_succ]
                    refine wpAnyH_take_dst (i := 11) (v := .slice (some ⟨b2, o2, none⟩) n2 c2) (d := some 94) rfl rfl (by kernel_rfl) (by kernel_rfl) (by kernel_rfl) (fun _ _ _ h => h) (Or.inl ⟨by rfl, ?_⟩) hH ?_
                    · (intro w' hE'; (try dsimp only at hE'); have y0 := (Below.cell (p := ⟨X.gx, 0, none⟩) hE' hbx3).trans hcgx; have y1 := (Below.cell (p := ⟨X.gb, q', none⟩) hE' hbx2).trans hsv; have y2 := (Below.cell (p := ⟨bu, ou + k, none⟩) hE' hbx1).trans hcy'; go_simp; try with_reducible rfl)
                    try simp only [Act.put, List.setIfInBounds_toArray, List.set_cons_zero, List.set_cons_succ]
                    refine wpAnyH_ready (rs := [12]) (by kernel_rfl) (by simp) ?_
                    refine AllReadyH.cons rfl (fun K hK => ?_) AllReadyH.nil
                    rw [if_pos (by rfl)]
                    go_wp2_with fail
                    refine hK.out _ _ (hH.alloc hwsz _) (fun hH9 => ?_)
                    clear hK; have hH0 := hH; clear hH; have hH := hH9; clear hH9
                    try simp only [Act.put, List.setIfInBounds_toArray, List.set_cons_zero, List.set_cons_succ]
                    refine wpAnyH_ready (rs := [13]) (by kernel_rfl) (by simp) ?_
                    refine AllReadyH.cons rfl (fun K hK => ?_) AllReadyH.nil
                    rw [if_pos (by rfl)]
                    refine wp_append_lies _ (.tmp 83) (.tmp 95) 29 rfl (w.heap.size + 1) 22 i0 (.slice none 0 0) 1 24 Try.underlying29 hii hiz his hib rfl (by decide) _ _ vs9 rfl (World.ownsRow.alloc (w := wx.drew) HWN.out _) ⟨wx.heap.size, 0, none⟩ 1 1 [.slice (some ⟨b2, o2, none⟩) n2 c2] rfl rfl (one_cells _ _ _) (one_slice _ _ _) (by decide) (by unfold maxLen; omega) (by omega) (by go_size) _ rfl ?_; intro g2 cap2 wz hown hg hat hltg; have hSP := SkT.push hl9 HR9.out hvl9 HTT.out hown
                    refine hK.out _ _ (Below.grown hH hg (by go_size) (fun k' hk' => (World.ownsRow.lt HWN.out _ hk').1)) (fun hH9 => ?_)
                    clear hK; have hH0 := hH; clear hH; have hH := hH9; clear hH9
                    try simp only [Act.put, List.setIfInBounds_toArray, List.set_cons_zero, List.set_cons_succ]
                    refine wpAnyH_take_dst (i := 14) (v := .slice (some ⟨g2, 0, none⟩) (n9 + 1) cap2) (d := some 8) rfl rfl (by kernel_rfl) (by kernel_rfl) (by kernel_rfl) (fun _ _ _ h => h) (Or.inl ⟨by rfl, ?_⟩) hH ?_
                    · (intro w' hE'; (try dsimp only at hE'); have y0 := (Below.cell (p := ⟨X.gx, 0, none⟩) hE' hbx3).trans hcgx; have y1 := (Below.cell (p := ⟨X.gb, q', none⟩) hE' hbx2).trans hsv; have y2 := (Below.cell (p := ⟨bu, ou + k, none⟩) hE' hbx1).trans hcy'; go_simp; try with_reducible rfl)
                    try simp only [Act.put, List.setIfInBounds_toArray, List.set_cons_zero, List.set_cons_succ]
                    refine wpAnyH_done (by kernel_rfl) ?_ _
                    exact ⟨g2, cap2, by rfl, hSP, hH⟩
                  obtain ⟨g2, cap2, ha, ⟨hK10, hB10⟩⟩ := hR
                  simp only [Act.put, List.setIfInBounds_toArray, List.set_cons_zero, List.set_cons_succ] at ha
                  subst ha
                  have HK10 := Lib.hid hK10
                  have HS10 := Lib.hid (HSX.out.below hB10 (Nat.lt_succ_self _))
                  have HE10 := Lib.hid (show Ext w w10 from Below.trans HEX.out (hB10.mono (Nat.le_succ _)))
                  clear hK10 hB10
                  go_wp2
                  refine ⟨⟨k + 1, by go_num, by omega, ⟨_, _, _, setM m9 y, us9 ++ [t'], rfl, by omega, HK10, HS10, HJN, HMN⟩, HE10⟩, by simp only [intOf]; omega⟩
              · rw [hmy] at hcm9
                have HJN := Lib.hid (hJ9.out.skip HY.out HYX.out (fun _ => .inr hmy))
                clear hmy
                go_wp2_with fail
                go_quiet (fail)
                go_wp2
                refine ⟨⟨k + 1, by go_num, by omega, ⟨_, _, _, m9, us9, rfl, hn9, Lib.hid (hK9.out.ext (by exact extX)), Lib.hid (hS9.out.ext (by exact extX)), HJN, hM9⟩, Lib.hid (Ext.trans hE9.out (by exact extX))⟩, by simp only [intOf]; omega⟩
        · have hkn : k = nu := by omega
          have HI9 := Lib.hid (show OccI X.ar b σ x t m9 us9 from by have := hJ9.out; rw [hkn, ← HUL.out] at this; exact this.all)
          go_wp2
          go_roundg (us9.length + ucnt m9)
          case measure => exact Nat.lt_of_le_of_lt hM9.out HM.out
          case rel => exact ⟨⟨_, _, _, m9, us9, rfl, hn9, hK9, hS9, HI9, Lib.hid (Nat.le_refl _)⟩, hE9⟩

/-! The reference's: two terms made one by a stack of pairs. -/
set_option maxRecDepth 100000 in
set_option maxHeartbeats 2000000 in
theorem c_l13PartsT {v0 v1 : Value} {ar : List Int} {x : Int} {us : List Tm} {gb : Nat} {w0 w : World} (h0 : RdSig w v0 ar) (h1 : TT ar w0 gb v1 (Tm.node x us)) (hO : Only w0 w gb) (hs : SigP ar) (hxp : ¬ x < 0) :
    Calls Try.prog 99 #[v0, v1] w fun e w' => ∃ g c, e = .returned (.slice (some ⟨g, 0, none⟩) us.length c) ∧ SkT ar gb w0 w' (w.heap.size + 1) (some ⟨g, 0, none⟩) us.length c us ∧ Ext w w' := by
  obtain ⟨A, n, c, rfl, ha⟩ := h0
  have hu := h1.ok
  have HDM := Lib.hid h1.dm
  obtain ⟨b0, o0, m, d, rfl, ⟨hmd, hd⟩, hbg, hb0⟩ := h1.ts
  have HB0 := Lib.hid hb0
  have hb := RI.only hb0 hO fun b' o' s' e _ => by cases e; exact hbg
  have hm := hb.le
  have hml := hb.len
  have hnl := ha.len
  have hfl : (flatL us).length + 1 = (Tm.node x us).flat.length := by rw [flat_node]; rfl
  obtain ⟨hok, hol⟩ := Ok_node.1 hu
  have hal : us.length ≤ 3 := arI_le hs hok
  obtain ⟨b, o, y, e1, hy, hcy⟩ := RI.at_ hb (show 0 < m by omega)
  cases e1
  rw [flat_node] at hy
  cases hy
  rw [Nat.add_zero] at hcy
  have hbl : b0 < w.heap.size := World.block_lt_of_cell? w _ hcy
  have hm0 : (0 : Int) < (m : Int) := by omega
  obtain ⟨i0, hii, hiz, his, hib⟩ := info_parts slices_info
  have HA := Lib.hid ha
  have HB := Lib.hid hb
  have HS := Lib.hid hs
  have HOK := Lib.hid hok
  have HOL := Lib.hid (OkL_iff.1 hol)
  have HFL := Lib.hid hfl
  have HM := Lib.hid hml
  have hxl := arI_lt hok
  clear ha hb hb0 hO hs hok hol hu hml h1
  cases (show some (⟨b0, o0, none⟩ : Addr) = some ⟨b0, o0, none⟩ from rfl)
  · obtain ⟨z0, rfl⟩ := Int.eq_ofNat_of_zero_le (show 0 ≤ x by omega)
    have hzn : z0 < n := by omega
    obtain ⟨b2, o2, s, rfl, hs2, hcs⟩ := RI.at_ HA.out hzn
    have has : (s : Int) = (us.length : Int) := by
      have hf := HOK.out
      rw [arI_at (by omega) (by rw [Int.toNat_natCast]; exact hs2)] at hf
      have := HS.out.2.2 s (List.mem_of_getElem? hs2)
      injection hf with hf; omega
    subst has
    have hzi : (z0 : Int) < (n : Int) := by omega
    have hbl2 : b2 < w.heap.size := World.block_lt_of_cell? w _ hcs
    clear hs2 hfl hnl hxl
    go_enter Try.func99, Try.ntmps99
    go_wp2_with fail
    obtain ⟨wo, hwo⟩ : ∃ wo, wo = (w.alloc (.cells #[.slice (some ⟨b2, o2, none⟩) n c] 31)).alloc (.cells #[] 22) := ⟨_, rfl⟩
    have hb0 : wo.cell? ⟨w.heap.size, 0, none⟩ = some (.slice (some ⟨b2, o2, none⟩) n c) := by rw [hwo]; simp [go_sem]
    have hh0 : wo.heap[w.heap.size + 1]? = some (.cells #[] 22 (0, 0)) := by rw [hwo]; have := alloc_at (w.alloc (.cells #[.slice (some ⟨b2, o2, none⟩) n c] 31)) (.cells #[] 22); rwa [World.size_alloc] at this
    have hsz0 : wo.heap.size = w.heap.size + 2 := by rw [hwo]; simp [go_sem]
    have hEo : Ext w wo := by rw [hwo]; exact extX
    rw [← hwo]
    clear hwo
    go_loopw [5, 6, 7] (fun ov av kv wr => ∃ k : Nat, kv = .int .i64 k ∧ k ≤ us.length ∧ (∃ q : Nat, av = .int .i64 (q : Int) ∧ Hid (q = 1 + (flatL (us.take k)).length) ∧ q ≤ m) ∧ (∃ g c, ov = .slice (some ⟨g, 0, none⟩) k c ∧ Hid (SkT ar gb w0 wr (w.heap.size + 1) (some ⟨g, 0, none⟩) k c (us.take k))) ∧ Ext w wr ∧ wr.cell? ⟨w.heap.size, 0, none⟩ = some (.slice (some ⟨b2, o2, none⟩) n c)) (fun _ _ kv _ => us.length - (intOf kv).toNat)
    case atStart => exact ⟨0, rfl, Nat.zero_le _, ⟨1, by go_num, Lib.hid (by simp [flatL_nil]), by omega⟩, ⟨w.heap.size + 1, 0, rfl, Lib.hid ⟨[], ⟨rfl, .inr ⟨w.heap.size + 1, 0, #[], rfl, Nat.le_refl _, hh0, Nat.le_refl _, by decide, rfl, rfl⟩⟩, by simp, fun j v xs h => by simp at h⟩⟩, hEo, hb0⟩
    case round =>
      obtain ⟨k, rfl, hk, ⟨q, rfl, hq, hqm⟩, ⟨g, c1, rfl, hO⟩, hE, hr0⟩ := hrel
      have hcx : wr.cell? ⟨b0, o0, none⟩ = some (.int .i64 (z0 : Int)) := Ext.keep hE hcy
      have hcz : wr.cell? ⟨b2, o2 + z0, none⟩ = some (.int .i64 (us.length : Int)) := Ext.keep hE hcs
      by_cases hlt : k < us.length
      · obtain ⟨a, hak⟩ : ∃ a, us[k]? = some a := ⟨us[k], List.getElem?_eq_getElem hlt⟩
        have hda := drop_arg (x := (z0 : Int)) (t := (Tm.node (z0 : Int) us).flat) (p := 0) (rest := []) (by simp) hak
        rw [Nat.zero_add, ← hq.out] at hda
        have hao := HOL.out a (List.mem_of_getElem? hak)
        have hqa := drop_lt hda (flat_pos a)
        have hal2 := flat_pos a
        rw [HM.out] at hqa
        have hst : us.take (k + 1) = us.take k ++ [a] := take_snoc hak
        have ham := List.mem_of_getElem? hak
        have hfk : (flatL (us.take (k + 1))).length = (flatL (us.take k)).length + a.flat.length := by
          rw [take_snoc hak, flatL_append, flatL_cons, flatL_nil, List.append_nil, List.length_append]
        have HDA := Lib.hid hda
        have HAO := Lib.hid hao
        have HST := Lib.hid hst
        have HFK := Lib.hid hfk
        clear hda hao hst hfk hak
        have hlt' : (k : Int) < (us.length : Int) := by omega
        go_wp2_with fail
        go_quiet (fail)
        have hEd : Ext w (wr.drewN nq) := by exact extX
        have hrd : (wr.drewN nq).cell? ⟨w.heap.size, 0, none⟩ = some (.slice (some ⟨b2, o2, none⟩) n c) := hr0
        have hqd : (q : Int) ≤ ((q + a.flat.length : Nat) : Int) := by omega
        have hqd2 : ((q + a.flat.length : Nat) : Int) ≤ (d : Int) := by omega
        have hqd3 : (0 : Int) ≤ (q : Int) := by omega
        go_wp2_with fail
        (with_reducible refine (c_l13End (u := a) (RdSig.mk (RI.ext HA.out (by exact extX))) (RdI.mk (RI.ext HB.out (by exact extX))) HS.out HAO.out HDA.out).mono ?_)
        rintro e w5 ⟨rfl, hE5⟩
        have hE6 : Ext wr w5 := Ext.trans (Ext.drewN (Ext.refl _) _) hE5
        obtain ⟨vs, hown5, hl5, hr5⟩ := hO.out.ext hE6
        have hvl : vs.length = k := by have := hown5.1; simpa using this
        have HRI := Lib.hid (show TT ar w0 gb (.slice (some ⟨b0, o0 + q, none⟩) a.flat.length (d - q)) a from ⟨⟨b0, o0 + q, _, _, rfl, ⟨by omega, by omega⟩, hbg, RI.sub HB0.out HDA.out⟩, HAO.out, fun y hy => HDM.out y (by rw [flat_node]; exact List.mem_cons_of_mem _ (mem_flatL ham y hy))⟩)
        have HR5 := Lib.hid hr5
        have hb5 : w5.cell? ⟨w.heap.size, 0, none⟩ = some (.slice (some ⟨b2, o2, none⟩) n c) := Ext.keep hE6 hr0
        have hE7 : Ext w w5 := by exact extX
        have hsz7 := hE7.size
        have hlt5 : w.heap.size < w5.heap.size := World.block_lt_of_cell? w5 _ hb5
        have hl8 : (us.take k).length = k := hl5
        have HWN := Lib.hid hown5
        clear hl5 hr5 hown5 hO
        go_wp2_with (at_builtin; go_loud (refine wpList_append_lies _ rfl (.tmp 30) (.tmp 35) 29 rfl (w.heap.size + 1) 22 i0 (.slice none 0 0) 1 24 Try.underlying29 hii hiz his hib rfl (by decide) _ _ vs rfl (World.ownsRow.alloc HWN.out _) ⟨w5.heap.size, 0, none⟩ 1 1 [.slice (some ⟨b0, o0 + q, none⟩) a.flat.length (d - q)] rfl rfl (one_cells _ _ _) (one_slice _ _ _) (by decide) (by unfold maxLen; omega) (by omega) (by simp [go_sem]; omega) _ rfl ?_))
        intro g2 cap2 wx hown hg hat hltg
        have hE8 : Ext w wx := Ext.grown (hE7.alloc _) hg (fun k' hk' => by have := World.ownsRow.lt HWN.out _ hk'; omega)
        have hbx : wx.cell? ⟨w.heap.size, 0, none⟩ = some (.slice (some ⟨b2, o2, none⟩) n c) := (hg.cell_far ⟨w.heap.size, 0, none⟩ (by simp [go_sem]; omega) (fun e => by have := World.ownsRow.lt HWN.out _ e.symm; simp at this; omega)).trans ((World.cell?_alloc_past _ _ _ (by omega)).trans hb5)
        have HNEW := Lib.hid (SkT.push hl8 HR5.out hvl HRI.out hown)
        clear hown hg hat
        go_wp2
        go_roundw
        case rel => exact ⟨k + 1, by go_num, by omega, ⟨q + a.flat.length, by go_num, Lib.hid (by rw [HFK.out, hq.out]; omega), by omega⟩, ⟨_, _, rfl, by rw [HST.out]; exact HNEW⟩, hE8, hbx⟩
        case measure => simp only [intOf]; omega
      · have hkn : k = us.length := by omega
        have hlt' : decide ((k : Int) < (us.length : Int)) = false := by simp; omega
        go_wp2_with fail
        go_quiet (fail)
        go_wp2
        go_ret
        subst hkn
        exact ⟨_, _, rfl, by have := hO.out; rw [List.take_length] at this; exact this.ext (by exact extX), by exact extX⟩

section
variable {ar : List Int} {gb : Nat} {w0 w w' : World} {D g1 g2 n c m d : Nat} {L us : List Tm}
theorem SkT.grown (h : SkT ar gb w0 w D (some ⟨g2, 0, none⟩) m d L) (hg : w.grownBy w' (some g1)) (hne : g2 ≠ g1) : SkT ar gb w0 w' D (some ⟨g2, 0, none⟩) m d L := by
  obtain ⟨vs, h1, h2, h3⟩ := h
  refine ⟨vs, ⟨h1.1, ?_⟩, h2, h3⟩
  rcases h1.2 with ⟨hv, _⟩ | ⟨g, cap, cur, hv, hg', hh, r⟩
  · cases hv
  · have hgg : g = g2 := by cases hv; rfl
    subst hgg
    exact .inr ⟨g, cap, cur, hv, hg', (hg.block g (Array.getElem?_eq_some_iff.1 hh).1 (fun e => hne (by injection e))).trans hh, r⟩
theorem SkT.lt (h : SkT ar gb w0 w D (some ⟨g2, 0, none⟩) m d L) : D ≤ g2 ∧ g2 < w.heap.size := by
  obtain ⟨vs, h1, h2, h3⟩ := h
  exact World.ownsRow.lt h1 _ rfl
theorem wpList_append_sk {ops : Array Oper} {rest : List Oper} {o : Oper} {a : Act} {Q : Exit → Act → World → Prop} (hgd : o.guard = none) (s x : Operand)
    (ho : o.op = .call { callee := .builtin .append, args := #[s, x], argTypes := #[29, 29] }) (i : TypeInfo) (hi : Try.prog.info? 22 = some i) (hz : i.zero = some (.slice none 0 0)) (hsize : i.size = 1) (hby : i.bytes = 24) {D2 c2 : Nat}
    (hs : a.eval s = .slice (some ⟨g1, 0, none⟩) n c) (hL : SkT ar gb w0 w D (some ⟨g1, 0, none⟩) n c L) (hx : a.eval x = .slice (some ⟨g2, 0, none⟩) m c2) (hU : SkT ar gb w0 w D2 (some ⟨g2, 0, none⟩) m c2 us) (hn : n + m ≤ 9200) (hD : D ≤ w.heap.size)
    (h : ∀ g cap w', SkT ar gb w0 w' D (some ⟨g, 0, none⟩) (n + m) cap (L ++ us) → w.grownBy w' (some g1) → (g = g1 ∨ g = w.heap.size) → wpList Try.prog ops Q rest (a.put o.dst (.slice (some ⟨g, 0, none⟩) (n + m) cap)) w') : wpList Try.prog ops Q (o :: rest) a w := by
  obtain ⟨vs, h1, h2, h3⟩ := hL
  obtain ⟨us', k1, k2, k3⟩ := hU
  have hvl : vs.length = n := by have := h1.1; simpa using this
  have hul : us'.length = m := by have := k1.1; simpa using this
  refine wpList_append_own_at w hgd s x 29 ho D 22 i (.slice none 0 0) 1 24 Try.underlying29 hi hz hsize hby rfl (by decide) _ n vs hs h1 ⟨g2, 0, none⟩ m c2 us' hx (by omega) ?_ ?_ (by unfold maxLen; omega) (by omega) hD ?_
  · intro j u hu
    have hj : j < m := by have := (List.getElem?_eq_some_iff.1 hu).1; omega
    rw [show (⟨g2, 0, none⟩ : Addr).add j = ⟨g2, j, none⟩ by first | (simp [Addr.add]; done) | (simp [Addr.add]; omega), World.ownsRow.cellAt k1 j (by omega)]; exact hu
  · intro u hu
    obtain ⟨j, hj, e⟩ := List.mem_iff_getElem.1 hu
    obtain ⟨b, o, n', c', e2, _⟩ := (k3 j u (us[j]'(by omega)) (by rw [List.getElem?_eq_getElem hj, e]) (List.getElem?_eq_getElem (by omega))).ts
    subst e2; rfl
  · intro v' w' hown hg hnil hat
    have key : ∃ g cap, v' = .slice (some ⟨g, 0, none⟩) (n + m) cap := by
      rcases hown.2 with ⟨hv, _⟩ | ⟨g, cap, cur, hv, _⟩
      · have := (hnil.1 hv).1; cases this
      · exact ⟨g, cap, hv⟩
    obtain ⟨g, cap, rfl⟩ := key
    refine h g cap w' ⟨vs ++ us', hown, by simp [h2, k2], fun j v u e1 e2 => ?_⟩ hg ?_
    · rcases Nat.lt_or_ge j n with hj | hj
      · rw [List.getElem?_append_left (by omega)] at e1 e2
        exact h3 j v u e1 e2
      · rw [List.getElem?_append_right (by omega)] at e1 e2
        rw [hvl] at e1; rw [h2] at e2
        exact k3 _ v u e1 e2
    · rcases hat with hat | hat
      · left; injection hat
      · right; injection hat
end
set_option maxRecDepth 100000 in
set_option maxHeartbeats 8000000 in
theorem c_l11Meet {X : SC} {A : Option Addr} {sn sc : Nat} {s t : Tm} {v2 v3 : Value} {w : World} (hsg : RI w A sn X.ar) (hsb : ∀ b o s, A = some ⟨b, o, s⟩ → b ≠ X.gb) (hs : SigP X.ar) (hH : X.H (fun _ => none) w w) (hts : TT X.ar w X.gb v2 s) (htt : TT X.ar w X.gb v3 t) (hs60 : s.flat.length ≤ 60) (ht60 : t.flat.length ≤ 60) :
    Calls Try.prog 76 #[.agg #[.slice A sn sc], .pointer (some ⟨X.gx, 0, none⟩), v2, v3] w fun e w' => e = .returned (.bool (uniB s t)) ∧ Only w w' X.gb := by
  have HA := Lib.hid hsg
  have HSB := Lib.hid hsb
  have HS := Lib.hid hs
  have HVS := Lib.hid hts
  have HVT := Lib.hid htt
  have HH := Lib.hid hH
  have HI0 := Lib.hid (MeetS.start (ar := X.ar) hs60 ht60)
  have hgl := hH.lt
  have hgl2 := hH.ltx
  have hgb : X.gb < w.heap.size + 1 := by omega
  obtain ⟨bs, os, ns, cs, rfl, _, _, _⟩ := hts.ts
  obtain ⟨bt, ot, nt, ct, rfl, _, _, _⟩ := htt.ts
  obtain ⟨i0, hii, hiz, his, hib⟩ := info_parts slices_info
  clear hsg hsb hs hH hts htt hs60 ht60
  go_enter Try.func76, Try.ntmps76
  go_wp2_with fail
  obtain ⟨wa, hwa⟩ : ∃ wa, wa = w.alloc (.cells #[.slice A sn sc] 31) := ⟨_, rfl⟩
  rw [← hwa]
  have hza : wa.heap.size = w.heap.size + 1 := by rw [hwa]; simp
  have hca : wa.cell? ⟨w.heap.size, 0, none⟩ = some (.slice A sn sc) := by rw [hwa]; simp [go_sem]
  have hEa : Ext w wa := by rw [hwa]; exact extX
  obtain ⟨wb, hwb⟩ : ∃ wb, wb = wa.alloc (.cells #[.slice (some ⟨bs, os, none⟩) ns cs] 22) := ⟨_, rfl⟩
  rw [← hwb]
  have hKb : SkT X.ar X.gb w wb (w.heap.size + 1) (some ⟨w.heap.size + 1, 0, none⟩) 1 1 [s] := SkT.new rfl (by rw [hwb, ← hza]; exact alloc_at _ _) (Nat.le_refl _) HVS.out
  have hEb : Ext wa wb := by rw [hwb]; exact extX
  have hzb : wb.heap.size = w.heap.size + 2 := by rw [hwb]; simp; omega
  obtain ⟨wc, hwc⟩ : ∃ wc, wc = wb.alloc (.cells #[.slice (some ⟨bt, ot, none⟩) nt ct] 22) := ⟨_, rfl⟩
  rw [← hwc]
  have hEc : Ext wb wc := by rw [hwc]; exact extX
  have HL1 := Lib.hid (hKb.ext hEc)
  have HR1 := Lib.hid (show SkT X.ar X.gb w wc (w.heap.size + 1) (some ⟨w.heap.size + 1 + 1, 0, none⟩) 1 1 [t] from SkT.new rfl (by rw [hwc, show w.heap.size + 1 + 1 = wb.heap.size by omega]; exact alloc_at _ _) (by omega) HVT.out)
  have hEab : Ext w wc := Ext.trans hEa (Ext.trans hEb hEc)
  have HHC := Lib.hid (HH.out.ext hEab)
  have hcc : wc.cell? ⟨w.heap.size, 0, none⟩ = some (.slice A sn sc) := Ext.keep (Ext.trans hEb hEc) hca
  clear hwa hwb hwc hca hKb hEa hEb hEc hEab hza hzb
  go_loopg [9, 10] (meas (fun _ => none) vr [s] [t]) (fun K lv rv wr => (∃ n c m d g1 g2 L R b σ r ch, lv = .slice (some ⟨g1, 0, none⟩) n c ∧ rv = .slice (some ⟨g2, 0, none⟩) m d ∧ g1 ≠ g2 ∧ Hid (SkT X.ar X.gb w wr (w.heap.size + 1) (some ⟨g1, 0, none⟩) n c L) ∧ Hid (SkT X.ar X.gb w wr (w.heap.size + 1) (some ⟨g2, 0, none⟩) m d R) ∧ Hid (X.H b w wr) ∧ Hid (MeetS X.ar b σ r ch s t L R) ∧ Hid (meas b σ L R ≤ K)) ∧ wr.cell? ⟨w.heap.size, 0, none⟩ = some (.slice A sn sc))
  case atStart => exact ⟨⟨1, 1, 1, 1, _, _, [s], [t], _, _, _, _, rfl, rfl, by omega, HL1, HR1, HHC, HI0, Lib.hid (Nat.le_refl _)⟩, hcc⟩
  case round =>
    obtain ⟨⟨n, c, m, d, g1, g2, L, R, b, σ, r, ch, rfl, rfl, hgg, hL, hR, hHr, hM, hK⟩, hbx⟩ := hrel
    have hlr : m = n := by have h1 := hL.out.len; have h2 := hR.out.len; have h3 := hM.out.len; omega
    subst hlr
    by_cases hn0 : m = 0
    · subst hn0
      have HU := Lib.hid (show uniB s t = true by
        have h1 := List.eq_nil_of_length_eq_zero hL.out.len
        have h2 := List.eq_nil_of_length_eq_zero hR.out.len
        have h3 := hM.out
        rw [h1, h2] at h3
        exact h3.done)
      have HO := Lib.hid hHr.out.on
      clear hL hR hM hK hHr
      go_wp2
      go_ret
      exact ⟨ret_bool HU.out.symm, HO.out⟩
    · obtain ⟨n1, rfl⟩ : ∃ n1, m = n1 + 1 := ⟨m - 1, by omega⟩
      obtain ⟨g1', vu, u, L, e1, hg1, rfl, hcu, htu, hL1, hnc, hcm⟩ := hL.out.last
      cases e1
      obtain ⟨g2', vv, v, R, e2, hg2, rfl, hcv, htv, hR1, hnd, hdm⟩ := hR.out.last
      cases e2
      obtain ⟨bu, ou, nu, cu, rfl, _, _, _⟩ := htu.ts
      obtain ⟨bv, ov, nv, cv, rfl, _, _, _⟩ := htv.ts
      have HTU := Lib.hid htu
      have HTV := Lib.hid htv
      have HL := Lib.hid hL1
      have HR := Lib.hid hR1
      have HT := Lib.hid hM.out.tri
      unfold maxLen at hcm hdm
      have hn1i : (0 : Int) < ((n1 + 1 : Nat) : Int) := by omega
      have HLO := Lib.hid (show (∀ e ∈ L, e.Ok X.ar) ∧ ∀ e ∈ R, e.Ok X.ar from by
        obtain ⟨vs, k1, k2, k3⟩ := hL1
        obtain ⟨vs', k4, k5, k6⟩ := hR1
        have e1 := k1.1
        have e2 := k4.1
        refine ⟨fun e he => ?_, fun e he => ?_⟩
        · obtain ⟨j, hj, rfl⟩ := List.mem_iff_getElem.1 he
          exact (k3 j _ _ (List.getElem?_eq_getElem (by omega)) (List.getElem?_eq_getElem hj)).ok
        · obtain ⟨j, hj, rfl⟩ := List.mem_iff_getElem.1 he
          exact (k6 j _ _ (List.getElem?_eq_getElem (by omega)) (List.getElem?_eq_getElem hj)).ok)
      clear htu htv hL1 hR1 hL hR
      obtain ⟨wo, rfl⟩ : ∃ wo : World, wo = wr := ⟨_, rfl⟩
      go_wp2_with fail
      (with_reducible refine (c_l11Head HT.out hHr.out HTU.out).mono ?_)
      rintro e w1 ⟨vu', x, us, rfl, hA1, hR1, hf1, hld1, hE1⟩
      have hcv1 := Ext.keep hE1 hcv
      have HH1 := Lib.hid (hHr.out.ext hE1)
      go_wp2_with fail
      (with_reducible refine (c_l11Head HT.out HH1.out HTV.out).mono ?_)
      rintro e w2 ⟨vv', y, ss, rfl, hA2, hR2, hf2, hld2, hE2⟩
      have hE12 := Ext.trans hE1 hE2
      have HH2 := Lib.hid (HH1.out.ext hE2)
      have HU := Lib.hid (HeadU.mk hR1 hld1 hf1)
      have HV := Lib.hid (HeadU.mk hR2 hld2 hf2)
      have HTX := Lib.hid hA1
      have HTY := Lib.hid hA2
      obtain ⟨b1, o1, q1, c1, rfl, hq1, hx1, hgb1, hl1⟩ := (hA1.ts.only HH2.out.on).first
      obtain ⟨b2, o2, q2, c2, rfl, hq2, hx2, hgb2, hl2⟩ := (hA2.ts.only HH2.out.on).first
      have hq1' : 0 < q1 := by omega
      have hq2' : 0 < q2 := by omega
      have HL2 := Lib.hid (HL.out.ext hE12)
      have HR2 := Lib.hid (HR.out.ext hE12)
      have hbx2 := Ext.keep hE12 hbx
      have hM2 := hM
      have hK2 := hK
      clear hR1 hR2 hld1 hld2 hf1 hf2 hA1 hA2 hE1 hE2 hE12 hcv hcu hcv1 hbx HH1 hHr HL HR hM hK HTU HTV
      by_cases hxy : x = y
      · subst hxy
        by_cases hx0 : x < 0
        · have hd1 : (x == x) = true := by simp
          have hd2 : decide (x < 0) = true := by simpa using hx0
          obtain ⟨ch', hN, hlt⟩ := hM2.out.same HU.out HV.out HTX.out.ok HTY.out.ok hx0
          have HN := Lib.hid hN
          have HLT := Lib.hid (Nat.lt_of_lt_of_le hlt hK2.out)
          clear hN hlt hx0 hM2 hK2
          go_wp2_with fail
          go_quiet (fail)
          go_wp2_with fail
          have hEd : Ext w2 (w2.drewN nq) := by exact extX
          go_roundg (meas b σ L R)
          case measure => exact HLT.out
          case rel => exact ⟨⟨n1, c, n1, d, g1, g2, L, R, b, σ, r, ch', rfl, rfl, hgg, Lib.hid (HL2.out.ext hEd), Lib.hid (HR2.out.ext hEd), Lib.hid (HH2.out.ext hEd), HN, Lib.hid (Nat.le_refl _)⟩, Ext.keep hEd hbx2⟩
        · have hd1 : (x == x) = true := by simp
          have hd2 : decide (x < 0) = false := by simpa using hx0
          have hd3 : (x != x) = false := by simp
          have hll : us.length = ss.length := by
            have e1 := (Ok_node.1 HTX.out.ok).1
            rw [(Ok_node.1 HTY.out.ok).1] at e1
            injection e1 with e1; exact e1.symm
          have hal : us.length ≤ 3 := arI_le HS.out (Ok_node.1 HTX.out.ok).1
          obtain ⟨ch', hN, hlt⟩ := hM2.out.args HU.out HV.out hx0 hll hal
          have HN := Lib.hid hN
          have HLT := Lib.hid (Nat.lt_of_lt_of_le hlt hK2.out)
          have hsh : n1 ≤ 9151 := by have h1 := hM2.out.short; have h2 := HL2.out.len; simp at h1; omega
          have HX0 := Lib.hid (show 0 ≤ x by omega)
          have HLL := Lib.hid hll
          clear hN hlt hM2 hK2 hx0 hll
          go_wp2_with fail
          go_quiet (fail)
          go_wp2_with fail
          go_quiet (fail)
          go_wp2_with fail
          generalize hw3 : World.drewN _ _ = w3
          have hE3 : Ext w2 w3 := by rw [← hw3]; exact extX
          have hbx3 := Ext.keep hE3 hbx2
          have HH3 := Lib.hid (HH2.out.ext hE3)
          have HL3 := Lib.hid (HL2.out.ext hE3)
          have HR3 := Lib.hid (HR2.out.ext hE3)
          clear hw3 hE3 hbx2 HH2 HL2 HR2 hx1 hx2
          try go_wp2_with fail
          (with_reducible refine (c_l13PartsT (gb := X.gb) (RdSig.mk (RI.only HA.out HH3.out.on fun b' o' s' e _ => HSB.out b' o' s' e)) HTX.out HH3.out.on HS.out (Int.not_lt.2 HX0.out)).mono ?_)
          rintro e w4 ⟨ga, ca, rfl, hP4, hE4⟩
          have HP4 := Lib.hid hP4
          have HL4 := Lib.hid (HL3.out.ext hE4)
          have HR4 := Lib.hid (HR3.out.ext hE4)
          have HH4 := Lib.hid (HH3.out.ext hE4)
          have hbx4 := Ext.keep hE4 hbx3
          clear hP4 hE4 hbx3 HL3 HR3 HH3
          have hz4 : w.heap.size + 1 ≤ w4.heap.size := by have := World.block_lt_of_cell? w4 _ hbx4; exact this
          go_wp2_with (at_builtin; go_loud (refine wpList_append_sk rfl (.tmp 46) (.tmp 49) rfl i0 hii hiz his hib rfl HL4.out rfl HP4.out (by omega) hz4 ?_))
          intro g5 cap5 w5 hL5 hg5 hat5
          have hB5 : Below (w.heap.size + 1) w4 w5 := Below.grown (Below.refl _ _) hg5 hz4 (fun k hk => by cases hk; exact hg1.1)
          have hR5 := HR4.out.grown hg5 (fun e => hgg e.symm)
          have hgg5 : g5 ≠ g2 := by rcases hat5 with h | h; (rw [h]; exact hgg); (have := HR4.out.lt; omega)
          have hbx5 := (Below.cell (p := ⟨w.heap.size, 0, none⟩) hB5 (Nat.lt_succ_self _)).trans hbx4
          have HL5 := Lib.hid hL5
          have HR5 := Lib.hid hR5
          have HH5 := Lib.hid (HH4.out.below hB5 (by omega) hgb (Nat.le_succ _))
          clear hL5 hg5 hat5 hB5 hR5 hbx4 HL4 HR4 HH4 HP4
          go_wp2_with fail
          (with_reducible refine (c_l13PartsT (gb := X.gb) (RdSig.mk (RI.only HA.out HH5.out.on fun b' o' s' e _ => HSB.out b' o' s' e)) HTY.out HH5.out.on HS.out (Int.not_lt.2 HX0.out)).mono ?_)
          rintro e w6 ⟨gc, cc, rfl, hP6, hE6⟩
          have HP6 := Lib.hid hP6
          have HL6 := Lib.hid (HL5.out.ext hE6)
          have HR6 := Lib.hid (HR5.out.ext hE6)
          have HH6 := Lib.hid (HH5.out.ext hE6)
          have hbx6 := Ext.keep hE6 hbx5
          clear hP6 hE6 hbx5 HL5 HR5 HH5
          have hz6 : w.heap.size + 1 ≤ w6.heap.size := by have := World.block_lt_of_cell? w6 _ hbx6; exact this
          have hal2 : ss.length ≤ 3 := by rw [← HLL.out]; exact hal
          go_wp2_with (at_builtin; go_loud (refine wpList_append_sk rfl (.tmp 51) (.tmp 54) rfl i0 hii hiz his hib rfl HR6.out rfl HP6.out (by omega) hz6 ?_))
          intro g7 cap7 w7 hR7 hg7 hat7
          have hB7 : Below (w.heap.size + 1) w6 w7 := Below.grown (Below.refl _ _) hg7 hz6 (fun k hk => by cases hk; exact hg2.1)
          have hL7 := HL6.out.grown hg7 hgg5
          have hgg7 : g5 ≠ g7 := by rcases hat7 with h | h; (rw [h]; exact hgg5); (have := HL6.out.lt; omega)
          have hbx7 := (Below.cell (p := ⟨w.heap.size, 0, none⟩) hB7 (Nat.lt_succ_self _)).trans hbx6
          have HL7 := Lib.hid hL7
          have HR7 := Lib.hid hR7
          have HH7 := Lib.hid (HH6.out.below hB7 (by omega) hgb (Nat.le_succ _))
          clear hL7 hg7 hat7 hB7 hR7 hbx6 HL6 HR6 HH6 HP6
          go_wp2_with fail
          go_roundg (meas b σ (L ++ us) (R ++ ss))
          case measure => exact HLT.out
          case rel => exact ⟨⟨n1 + us.length, cap5, n1 + ss.length, cap7, g5, g7, L ++ us, R ++ ss, b, σ, r, ch', by rfl, by rfl, hgg7, HL7, HR7, HH7, HN, Lib.hid (Nat.le_refl _)⟩, hbx7⟩
      · have hd1 : (x == y) = false := by simpa using hxy
        by_cases hx0 : x < 0
        · have hd2 : decide (x < 0) = true := by simpa using hx0
          have h48 : -48 ≤ x := HTX.out.dm x (by rw [flat_node]; exact List.mem_cons_self)
          go_wp2_with fail
          go_quiet (fail)
          go_wp2_with fail
          generalize hw3 : World.drewN _ _ = w3
          have hE3 : Ext w2 w3 := by rw [← hw3]; exact extX
          have HE3 := Lib.hid hE3
          clear hw3 hE3
          try go_wp2_with fail
          (with_reducible refine (c_l11Occurs HT.out hx0 (HU.out.fr hx0) (HH2.out.ext HE3.out) HTY.out).mono ?_)
          rintro e w4 ⟨⟨rfl, hm⟩ | ⟨rfl, hm⟩, hE4⟩
          · have HF := Lib.hid (hM2.out.occL HU.out HV.out HTX.out.ok HTY.out.ok hx0 hxy hm)
            have HO := Lib.hid ((HH2.out.ext (Ext.trans HE3.out hE4)).on)
            clear hm hE4 hM2 hK2
            go_wp2
            go_ret
            exact ⟨ret_bool HF.out.symm, HO.out⟩
          · obtain ⟨σ', r', ch', hN, hlt⟩ := hM2.out.bindL HU.out HV.out HTX.out.ok HTY.out.ok HTY.out.dm hx0 h48 hm HLO.out
            have HN := Lib.hid hN
            have HLT := Lib.hid (Nat.lt_of_lt_of_le hlt hK2.out)
            have hE24 := Ext.trans HE3.out hE4
            have HH4 := Lib.hid (HH2.out.ext hE24)
            have HL4 := Lib.hid (HL2.out.ext hE24)
            have HR4 := Lib.hid (HR2.out.ext hE24)
            have hx4 := Ext.keep hE24 hx1
            have hbx4 := Ext.keep hE24 hbx2
            obtain ⟨k, sv, hk, hk', hk48, hcs, _⟩ := HH4.out.slot hx0 h48
            have hcg := HH4.out.c0
            have hfr := HH4.out.fr
            have hki : (k : Int) < 48 := by omega
            have hwk : IntKind.i64.wrap (k : Int) = (k : Int) := IntWalk.i64_in _ (by omega)
            have HK' := Lib.hid hk'
            clear hN hlt hM2 hK2 hm hE4 hE24 hk' HH2 HL2 HR2 hbx2 hx1
            go_wp2_with fail
            go_still_tail 9, (by kernel_rfl)
            change wpList _ _ _ _ _ w4.drew
            obtain ⟨w5, hw5⟩ : ∃ w5, w5 = w4.drew := ⟨_, rfl⟩
            have hE5 : Ext w4 w5 := by rw [hw5]; exact Ext.drew (Ext.refl _)
            have hcs5 : w5.cell? ⟨X.gb, k, none⟩ = some sv := by rw [hw5]; exact hcs
            have hfr5 : w5.frozen? ⟨X.gb, k, none⟩ = false := by rw [hw5]; exact hfr _
            rw [← hw5]
            have HL6 := Lib.hid ((HL4.out.ext hE5).setFar (p := ⟨X.gb, k, none⟩) hgb (.slice (some ⟨b2, o2, none⟩) q2 c2))
            have HR6 := Lib.hid ((HR4.out.ext hE5).setFar (p := ⟨X.gb, k, none⟩) hgb (.slice (some ⟨b2, o2, none⟩) q2 c2))
            have HH6 := Lib.hid ((HH4.out.ext hE5).set hk48 HK'.out HTY.out.ts)
            have hbx6 : (w5.setCell ⟨X.gb, k, none⟩ (.slice (some ⟨b2, o2, none⟩) q2 c2)).cell? ⟨w.heap.size, 0, none⟩ = some (.slice A sn sc) := by
              rw [World.cell?_setCell_other _ _ _ _ (by have := hgl; first | (simp; done) | (simp; omega))]; exact Ext.keep hE5 hbx4
            have HBX := Lib.hid hbx6
            clear hw5 hcs hfr hE5 hbx6 hbx4 HL4 HR4 HH4
            go_wp2_with fail
            go_roundg (meas (setB b x (.node y ss)) σ' L R)
            case measure => exact HLT.out
            case rel => exact ⟨⟨n1, c, n1, d, g1, g2, L, R, _, σ', r', ch', rfl, rfl, hgg, HL6, HR6, HH6, HN, Lib.hid (Nat.le_refl _)⟩, HBX.out⟩
        · have hd2 : decide (x < 0) = false := by simpa using hx0
          by_cases hy0 : y < 0
          · have hd3 : decide (y < 0) = true := by simpa using hy0
            have h48 : -48 ≤ y := HTY.out.dm y (by rw [flat_node]; exact List.mem_cons_self)
            have HX0 := Lib.hid (show 0 ≤ x by omega)
            clear hx0
            go_wp2_with fail
            go_quiet (fail)
            go_wp2_with fail
            generalize hw3 : World.drewN _ _ = w3
            have hE3 : Ext w2 w3 := by rw [← hw3]; exact extX
            have HE3 := Lib.hid hE3
            clear hw3 hE3
            try go_wp2_with fail
            (with_reducible refine (c_l11Occurs HT.out hy0 (HV.out.fr hy0) (HH2.out.ext HE3.out) HTX.out).mono ?_)
            rintro e w4 ⟨⟨rfl, hm⟩ | ⟨rfl, hm⟩, hE4⟩
            · have HF := Lib.hid (hM2.out.occR HU.out HV.out HTX.out.ok HTY.out.ok (Int.not_lt.2 HX0.out) hy0 hm)
              have HO := Lib.hid ((HH2.out.ext (Ext.trans HE3.out hE4)).on)
              clear hm hE4 hM2 hK2
              go_wp2
              go_ret
              exact ⟨ret_bool HF.out.symm, HO.out⟩
            · obtain ⟨σ', r', ch', hN, hlt⟩ := hM2.out.bindR HU.out HV.out HTX.out.ok HTY.out.ok HTX.out.dm hy0 h48 hm HLO.out
              have HN := Lib.hid hN
              have HLT := Lib.hid (Nat.lt_of_lt_of_le hlt hK2.out)
              have hE24 := Ext.trans HE3.out hE4
              have HH4 := Lib.hid (HH2.out.ext hE24)
              have HL4 := Lib.hid (HL2.out.ext hE24)
              have HR4 := Lib.hid (HR2.out.ext hE24)
              have hx4 := Ext.keep hE24 hx2
              have hbx4 := Ext.keep hE24 hbx2
              obtain ⟨k, sv, hk, hk', hk48, hcs, _⟩ := HH4.out.slot hy0 h48
              have hcg := HH4.out.c0
              have hfr := HH4.out.fr
              have hki : (k : Int) < 48 := by omega
              have hwk : IntKind.i64.wrap (k : Int) = (k : Int) := IntWalk.i64_in _ (by omega)
              have HK' := Lib.hid hk'
              clear hN hlt hM2 hK2 hm hE4 hE24 hk' HH2 HL2 HR2 hbx2 hx2
              go_wp2_with fail
              go_still_tail 9, (by kernel_rfl)
              change wpList _ _ _ _ _ w4.drew
              obtain ⟨w5, hw5⟩ : ∃ w5, w5 = w4.drew := ⟨_, rfl⟩
              have hE5 : Ext w4 w5 := by rw [hw5]; exact Ext.drew (Ext.refl _)
              have hcs5 : w5.cell? ⟨X.gb, k, none⟩ = some sv := by rw [hw5]; exact hcs
              have hfr5 : w5.frozen? ⟨X.gb, k, none⟩ = false := by rw [hw5]; exact hfr _
              rw [← hw5]
              have HL6 := Lib.hid ((HL4.out.ext hE5).setFar (p := ⟨X.gb, k, none⟩) hgb (.slice (some ⟨b1, o1, none⟩) q1 c1))
              have HR6 := Lib.hid ((HR4.out.ext hE5).setFar (p := ⟨X.gb, k, none⟩) hgb (.slice (some ⟨b1, o1, none⟩) q1 c1))
              have HH6 := Lib.hid ((HH4.out.ext hE5).set hk48 HK'.out HTX.out.ts)
              have hbx6 : (w5.setCell ⟨X.gb, k, none⟩ (.slice (some ⟨b1, o1, none⟩) q1 c1)).cell? ⟨w.heap.size, 0, none⟩ = some (.slice A sn sc) := by
                rw [World.cell?_setCell_other _ _ _ _ (by have := hgl; first | (simp; done) | (simp; omega))]; exact Ext.keep hE5 hbx4
              have HBX := Lib.hid hbx6
              clear hw5 hcs hfr hE5 hbx6 hbx4 HL4 HR4 HH4
              go_wp2_with fail
              go_roundg (meas (setB b y (.node x us)) σ' L R)
              case measure => exact HLT.out
              case rel => exact ⟨⟨n1, c, n1, d, g1, g2, L, R, _, σ', r', ch', rfl, rfl, hgg, HL6, HR6, HH6, HN, Lib.hid (Nat.le_refl _)⟩, HBX.out⟩
          · have hd3 : decide (y < 0) = false := by simpa using hy0
            have hd4 : (x != y) = true := by simpa using hxy
            have HF := Lib.hid (hM2.out.clash HU.out HV.out hx0 hy0 hxy)
            have HO := Lib.hid HH2.out.on
            clear hM2 hK2 hx0 hy0 hxy
            go_wp2_with fail
            go_quiet (fail)
            go_wp2_with fail
            go_quiet (fail)
            go_wp2
            go_ret
            exact ⟨ret_bool HF.out.symm, Only.trans HO.out (Only.of_ext (by exact extX) _)⟩

/-! The reference's: variables of one's own; whether pairs are connected. -/
set_option maxRecDepth 100000 in
set_option maxHeartbeats 4000000 in
theorem c_l11Away {A : Option Addr} {n c : Nat} {t : List Int} {w : World} (h0 : RI w A n t) (hv : ∀ x ∈ t, -24 ≤ x) : Calls Try.prog 77 #[.slice A n c, .int .i64 24] w (NewI w (aw t)) := by
  have HA := Lib.hid h0
  have HV := Lib.hid hv
  have hn := h0.le
  obtain ⟨i0, hii, hiz, his, hib⟩ := info_parts int64_info
  clear h0 hv
  go_enter Try.func77, Try.ntmps77
  go_wp2_with fail
  have HO1 := Lib.hid (OwI.none0 (w := w) (D := w.heap.size) (Nat.le_refl _))
  have HE1 := Lib.hid (show Ext w (w.alloc (.cells #[] 2)) by exact extX)
  go_loopw [5, 6] (fun ov iv wr => ∃ k : Nat, iv = .int .i64 k ∧ k ≤ n ∧ (∃ A1 c1, ov = .slice A1 k c1 ∧ Hid (OwI wr w.heap.size A1 k c1 ((aw t).take k))) ∧ Hid (Ext w wr)) (fun _ iv _ => n - (intOf iv).toNat)
  case atStart => exact ⟨0, rfl, Nat.zero_le _, ⟨_, 0, rfl, HO1⟩, HE1⟩
  case round =>
    obtain ⟨k, rfl, hk, ⟨A1, c1, rfl, hO⟩, hE⟩ := hrel
    by_cases hlt : k < n
    · obtain ⟨b, o, x, rfl, hx, hcx⟩ := RI.at_ (RI.ext HA.out hE.out) hlt
      have hx24 := HV.out x (List.mem_of_getElem? hx)
      have hki : (k : Int) < (n : Int) := by omega
      have HT := Lib.hid (show (aw t).take (k + 1) = (aw t).take k ++ [awI x] by
        obtain ⟨hk2, rfl⟩ := List.getElem?_eq_some_iff.1 hx
        rw [List.take_succ_eq_append_getElem (by rw [aw_len]; exact hk2)]
        congr 1; unfold aw; simp)
      have hob := OwI.ob2 hO.out
      have hsz := hE.out.size
      have hwz : w.heap.size ≤ wr.heap.size := hsz
      clear hx
      by_cases h0 : x < 0
      · have hd : decide (x < 0) = true := by simpa using h0
        have hw1 : IntKind.i64.wrap (x - 24) = x - 24 := IntWalk.i64_in _ (by omega)
        go_wp2_with (at_builtin; go_loud (refine wpList_append_lies _ rfl (.tmp 19) (.tmp 26) 22 rfl w.heap.size 2 i0 (.int .i64 0) 1 8 Try.underlying22 hii hiz his hib rfl (by decide) _ _ _ rfl (OwI.alloc hO.out _).2 ⟨wr.heap.size, 0, none⟩ 1 1 [.int .i64 (x - 24)] rfl rfl (one_cells _ _ _) (one_one _) (by decide) (by unfold maxLen; omega) (by omega) (by go_size) _ rfl ?_))
        intro g cap wx hown hg hat hltg
        have HO3 := Lib.hid (show OwI wx w.heap.size (some ⟨g, 0, none⟩) (k + 1) cap ((aw t).take (k + 1)) from ⟨by omega, by rw [HT.out, awI, if_pos h0]; simpa using hown⟩)
        have HE3 := Lib.hid (show Ext w wx from Ext.grown (hE.out.alloc _) hg (fun b hb => (hob b hb).1))
        clear hown hg hat
        go_wp2
        refine ⟨⟨k + 1, by go_num, by omega, ⟨_, _, rfl, HO3⟩, HE3⟩, by simp only [intOf]; omega⟩
      · have hd : decide (x < 0) = false := by simpa using h0
        have HX := Lib.hid (show awI x = x by unfold awI; rw [if_neg h0])
        go_wp2_with (at_builtin; go_loud (refine wpList_append_lies _ rfl (.tmp 28) (.tmp 33) 22 rfl w.heap.size 2 i0 (.int .i64 0) 1 8 Try.underlying22 hii hiz his hib rfl (by decide) _ _ _ rfl (OwI.alloc hO.out _).2 ⟨wr.heap.size, 0, none⟩ 1 1 [.int .i64 x] rfl rfl (one_cells _ _ _) (one_one _) (by decide) (by unfold maxLen; omega) (by omega) (by go_size) _ rfl ?_))
        intro g cap wx hown hg hat hltg
        have HO3 := Lib.hid (show OwI wx w.heap.size (some ⟨g, 0, none⟩) (k + 1) cap ((aw t).take (k + 1)) from ⟨by omega, by rw [HT.out, HX.out]; simpa using hown⟩)
        have HE3 := Lib.hid (show Ext w wx from Ext.grown (hE.out.alloc _) hg (fun b hb => (hob b hb).1))
        clear hown hg hat
        go_wp2
        refine ⟨⟨k + 1, by go_num, by omega, ⟨_, _, rfl, HO3⟩, HE3⟩, by simp only [intOf]; omega⟩
    · have hkn : k = n := by omega
      have HF := Lib.hid (show OwI wr w.heap.size A1 k c1 (aw t) by
        have := hO.out
        rw [List.take_of_length_le (by rw [aw_len, HA.out.len]; omega)] at this
        exact this)
      go_wp2
      go_ret
      exact ⟨A1, k, c1, rfl, HF.out, hE.out⟩
theorem SC.H.self {X : SC} {w0 w : World} (h : X.H (fun _ => none) w0 w) : X.H (fun _ => none) w w := ⟨h.c0, h.ne, h.cw, h.fr, Only.refl _ _⟩
theorem below_only {w w' : World} {g : Nat} (h : Only w w' g) (hg : g < w.heap.size) : Below g w w' := ⟨h.os, h.tape, h.output, h.size, fun i hi => h.block i (by omega) (fun e => by injection e; omega)⟩
theorem keep3 {gb : Nat} {w3 a b : World} {p q : Addr} {u v : Value} (h : Below gb w3 a ∧ a.cell? p = some u ∧ a.cell? q = some v) (k : Below gb a b) (hp : p.block < gb) (hq : q.block < gb) : Below gb w3 b ∧ b.cell? p = some u ∧ b.cell? q = some v :=
  ⟨Below.trans h.1 k, (Below.cell k hp).trans h.2.1, (Below.cell k hq).trans h.2.2⟩
set_option maxRecDepth 100000 in
set_option maxHeartbeats 8000000 in
theorem c_l17Connected {v0 v1 v2 : Value} {s : Sy} {p q : DepP} {w : World} (h0 : RdSyC w v0 s) (h1 : RdDp w v1 p) (h2 : RdDp w v2 q) (hs : SysP s) (hp : TermP s.ar p.r) (hq : TermP s.ar q.l) :
    Calls Try.prog 50 #[v0, v1, v2] w fun e w' => e = .returned (.bool (connV s p q)) ∧ Ext w w' := by
  obtain ⟨A, n, c, B, m, d, rfl, ha, hb⟩ := h0
  obtain ⟨C1, k1, l1, C2, k2, l2, rfl, _, hcp, _, hpr⟩ := h1
  obtain ⟨D1, m1, d1, D2, m2, d2, rfl, hcq, _, hql, _⟩ := h2
  have hpl := hpr.len
  have hp1 : 0 < k2 := by have := hp.2.1.1; omega
  have hqlen := hql.len
  have hq1 : 0 < m1 := by have := hq.2.1.1; omega
  obtain ⟨b1, o1, x, rfl, hx, hcx⟩ := RI.at_ hpr hp1
  obtain ⟨b2, o2, y, rfl, hy, hcy⟩ := RI.at_ hql hq1
  rw [Nat.add_zero] at hcx hcy
  obtain ⟨ab, ao, z0, rfl, _, hcz⟩ := RI.at_ ha (show 0 < n by have := ha.len; have := hs.1.1; omega)
  have hbl3 : ab < w.heap.size := World.block_lt_of_cell? w _ hcz
  clear hcz
  have HA := Lib.hid ha
  have HB := Lib.hid hb
  have HP := Lib.hid hpr
  have HQ := Lib.hid hql
  have HCP := Lib.hid hcp
  have HCQ := Lib.hid hcq
  have HS := Lib.hid hs
  have HTP := Lib.hid hp
  have HTQ := Lib.hid hq
  have HVQ := Lib.hid (show ∀ x ∈ q.l, -24 ≤ x from hq.2.2.1)
  have HSG := Lib.hid (show SigP s.ar from hs.1)
  have HX := Lib.hid hx
  have HY := Lib.hid hy
  have hp1i : (0 : Int) < (k2 : Int) := by omega
  have hq1i : (0 : Int) < (m1 : Int) := by omega
  have hbl1 : b1 < w.heap.size := World.block_lt_of_cell? w _ hcx
  have hbl2 : b2 < w.heap.size := World.block_lt_of_cell? w _ hcy
  have HCO := Lib.hid (show capOk s p.r = decide (capF s p.r ≤ 24) by unfold capOk; rw [sysOk_iff.2 hs, termOk_iff.2 hp]; rfl)
  obtain ⟨i0, hii, hiz, his, hib⟩ := info_parts slices_info
  clear ha hb hpr hql hcp hcq hs hp hq hx hy hpl hqlen
  go_enter Try.func50, Try.ntmps50
  go_wp2_with fail
  obtain ⟨wo, hwo⟩ : ∃ wo, wo = ((w.alloc (.cells #[.slice (some ⟨ab, ao, none⟩) n c, .slice B m d] 34)).alloc (.cells #[.slice C1 k1 l1, .slice (some ⟨b1, o1, none⟩) k2 l2, .int .i64 p.rule, .int .i64 p.at_] 51)).alloc (.cells #[.slice (some ⟨b2, o2, none⟩) m1 d1, .slice D2 m2 d2, .int .i64 q.rule, .int .i64 q.at_] 51) := ⟨_, rfl⟩
  have a0 : wo.cell? ⟨w.heap.size, 0, none⟩ = some (.slice (some ⟨ab, ao, none⟩) n c) := by rw [hwo]; simp [go_sem]
  have a1 : wo.cell? ⟨w.heap.size, 1, none⟩ = some (.slice B m d) := by rw [hwo]; simp [go_sem]
  have a2 : wo.cell? ⟨w.heap.size + 1, 1, none⟩ = some (.slice (some ⟨b1, o1, none⟩) k2 l2) := by rw [hwo]; simp [go_sem]
  have a3 : wo.cell? ⟨w.heap.size + 1 + 1, 0, none⟩ = some (.slice (some ⟨b2, o2, none⟩) m1 d1) := by rw [hwo]; simp [go_sem]
  have hEo : Ext w wo := by rw [hwo]; exact extX
  rw [← hwo]
  have hcx := Ext.keep hEo hcx
  have hcy := Ext.keep hEo hcy
  clear hwo
  (with_reducible refine (c_sCappedC (s := s) (t := p.r) (RdSyK.mk (RI.ext HA.out hEo) (RR.ext HB.out hEo)) (RdIc.mk HCP.out (RI.ext HP.out hEo))).mono ?_)
  rintro e w1 ⟨A3, n3, c3, rfl, hO3, hE3, hcap3⟩
  have hEw1 : Ext w w1 := Ext.trans hEo hE3
  have a0 := Ext.keep hE3 a0
  have a2 := Ext.keep hE3 a2
  have a3 := Ext.keep hE3 a3
  have hcx := Ext.keep hE3 hcx
  have hcy := Ext.keep hE3 hcy
  have hO3' := hO3
  have HE1 := Lib.hid hEw1
  have HB3 := Lib.hid (show w.heap.size + 1 + 1 < w1.heap.size from World.block_lt_of_cell? w1 _ a3)
  clear hO3 hE3 hEw1 hEo a1
  rw [HCO.out]
  by_cases hxy : x = y
  · subst hxy
    have hd1 : (x != x) = false := by simp
    have HH := Lib.hid (show p.r[0]? = q.l[0]? by rw [HX.out, HY.out])
    by_cases hf : 24 < capF s p.r
    · have HV := Lib.hid (connV_many HH.out hf)
      have hdf : decide (capF s p.r ≤ 24) = false := by simp; omega
      rw [hdf]
      clear hf
      go_wp2_with fail
      go_quiet (fail)
      go_wp2
      go_ret
      exact ⟨ret_bool HV.out.symm, Ext.trans HE1.out (by exact extX)⟩
    · have HV := Lib.hid (connV_uni HH.out hf)
      have HF := Lib.hid (show capF s p.r ≤ 24 by omega)
      have hdf : decide (capF s p.r ≤ 24) = true := by simp; omega
      rw [hdf]
      clear hf
      go_wp2_with fail
      go_quiet (fail)
      go_wp2_with (at_make; refine wpList_make_full _ rfl _ _ 29 rfl w1.heap.size 22 i0 _ 1 Try.underlying29 hii hiz his _ _ _ _ 48 rfl rfl rfl rfl (by rw [hib]; omega) (by simp only [maxLen]; omega) (by go_size) ?_)
      intro w2 hown0 hg
      rw [show (madeCells #[Value.slice none 0 0] 48).toList = List.replicate 48 (.slice none 0 0) by kernel_rfl] at hown0
      have hE2 : Ext w1 w2 := Ext.grown (by exact extX) hg (fun k hk => by cases hk)
      have hlt2 : w1.heap.size < w2.heap.size := (World.ownsRow.lt hown0 _ rfl).2
      have HRW := Lib.hid hown0
      have hEw2 := Ext.trans HE1.out hE2
      have a0 := Ext.keep hE2 a0
      have a3 := Ext.keep hE2 a3
      have HE2 := Lib.hid hE2
      have HEW2 := Lib.hid hEw2
      have hb3 : w.heap.size + 1 + 1 < w1.heap.size := HB3.out
      clear hown0 hg hE2 hEw2 a2 hcx hcy
      have hcapv : capV s p.r = capO s p.r := capV_t (by rw [HCO.out]; simpa using HF.out)
      rw [hcapv] at hO3'
      obtain ⟨hTo, hTf⟩ := tmOf_ok HTP.out
      obtain ⟨hQo, hQf⟩ := tmOf_ok HTQ.out
      have hce : capO s p.r = (capT s (tmOf s.ar p.r)).flat := by
        have := capO_tree hTo (by rw [hTf]; exact HTP.out)
        rw [hTf] at this; exact this
      have hct := capO_term HTP.out HF.out
      obtain ⟨b3, o3, z3, rfl, _, hc3⟩ := RI.at_ hO3' (show 0 < n3 by have := hO3'.len; have := hct.2.1.1; omega)
      have hb33 : b3 < w1.heap.size := World.block_lt_of_cell? w1 _ hc3
      clear hc3
      go_wp2_with fail
      obtain ⟨w3, hw3⟩ : ∃ w3, w3 = w2.alloc (.cells #[.slice (some ⟨w1.heap.size, 0, none⟩) 48 48] 113) := ⟨_, rfl⟩
      rw [← hw3]
      have hE3 : Ext w2 w3 := by rw [hw3]; exact extX
      have hc3 : w3.cell? ⟨w2.heap.size, 0, none⟩ = some (.slice (some ⟨w1.heap.size, 0, none⟩) 48 48) := by rw [hw3]; simp [go_sem]
      have a0 := Ext.keep hE3 a0
      have a3 := Ext.keep hE3 a3
      have HH3 := Lib.hid (show SC.H ⟨w2.heap.size, w1.heap.size, s.ar⟩ (fun _ => none) w3 w3 from by
        refine ⟨hc3, by show w2.heap.size ≠ w1.heap.size; omega, fun k hk => ⟨.slice none 0 0, ?_, rfl⟩, fun o => ?_, Only.refl _ _⟩
        · refine Ext.keep hE3 ?_
          rw [World.ownsRow.cellAt HRW.out k (by omega), List.getElem?_replicate, if_pos hk]
        · exact (Below.frozen (p := ⟨w1.heap.size, o, none⟩) hE3 hlt2).trans (World.ownsRow.frozenAt HRW.out o))
      have HE3 := Lib.hid (Ext.trans HE2.out hE3)
      have HEW3 := Lib.hid (Ext.trans HEW2.out hE3)
      have HTA := Lib.hid (show TT s.ar w3 w1.heap.size (.slice (some ⟨b3, o3, none⟩) n3 c3) (capT s (tmOf s.ar p.r)) from
        ⟨⟨b3, o3, n3, c3, rfl, hcap3, by omega, by rw [← hce]; exact RI.ext hO3' HE3.out⟩, capT_ok hTo, fun y hy => by rw [← hce] at hy; have := hct.2.2.1 y hy; omega⟩)
      have HC60 := Lib.hid (show (capT s (tmOf s.ar p.r)).flat.length ≤ 60 by rw [← hce]; exact hct.2.1.2)
      have HQ60 := Lib.hid (show (awT (tmOf s.ar q.l)).flat.length ≤ 60 by rw [awT_flat hQo, hQf, aw_len]; exact HTQ.out.2.1.2)
      have HAT := Lib.hid (show ∀ (w5 : World) (A5 : Option Addr) (n5 c5 : Nat), OwI w5 w3.heap.size A5 n5 c5 (aw q.l) → TT s.ar w5 w1.heap.size (.slice A5 n5 c5) (awT (tmOf s.ar q.l)) from fun w5 A5 n5 c5 hO5 => by
        obtain ⟨b5, o5, z5, rfl, _, hc5⟩ := RI.at_ (OwI.ri hO5) (show 0 < n5 by have := hO5.len; rw [aw_len] at this; have := HTQ.out.2.1.1; omega)
        have hb5 := (OwI.bd hO5 _ _ _ rfl).1
        have := HE3.out.size
        have := hE3.size
        refine ⟨⟨b5, o5, n5, c5, rfl, OwI.cap hO5, by omega, by rw [awT_flat hQo, hQf]; exact OwI.ri hO5⟩, awT_ok hQo, fun y hy => ?_⟩
        rw [awT_flat hQo, hQf] at hy
        obtain ⟨z, hz, rfl⟩ := List.mem_map.1 hy
        have := HTQ.out.2.2.1 z hz
        unfold awI; split <;> omega)
      clear hw3 hE3 hc3 hct hce hcapv hO3' hTo hTf hQo hQf
      refine wp_region_held_drew (S := (fun w' => Below w1.heap.size w3 w' ∧ w'.cell? ⟨w.heap.size, 0, none⟩ = some (.slice (some ⟨ab, ao, none⟩) n c) ∧ w'.cell? ⟨w.heap.size + 1 + 1, 0, none⟩ = some (.slice (some ⟨b2, o2, none⟩) m1 d1))) (by kernel_rfl) ?_ (fun hH => ?_)
      · exact ⟨Below.drew (Below.refl _ _), a0, a3⟩
      refine wpAnyH_take_dst (i := 0) (v := .pointer (some ⟨w.heap.size, 0, none⟩)) (d := some 31) rfl rfl (by kernel_rfl) (by kernel_rfl) (by kernel_rfl) (fun _ _ _ h => h) (Or.inl ⟨by rfl, ?_⟩) hH ?_
      · (intro w hSw; (try dsimp only at hSw); go_split_ands; go_simp; try with_reducible rfl)
      try simp only [Act.put, List.setIfInBounds_toArray, List.set_cons_zero, List.set_cons_succ]
      refine wpAnyH_take_dst (i := 1) (v := .agg #[.slice (some ⟨ab, ao, none⟩) n c]) (d := some 32) rfl rfl (by kernel_rfl) (by kernel_rfl) (by kernel_rfl) (fun _ _ _ h => h) (Or.inl ⟨by rfl, ?_⟩) hH ?_
      · (intro w hSw; (try dsimp only at hSw); go_split_ands; go_simp; try with_reducible rfl)
      try simp only [Act.put, List.setIfInBounds_toArray, List.set_cons_zero, List.set_cons_succ]
      refine wpAnyH_take_dst (i := 2) (v := .pointer (some ⟨w2.heap.size, 0, none⟩)) (d := some 33) rfl rfl (by kernel_rfl) (by kernel_rfl) (by kernel_rfl) (fun _ _ _ h => h) (Or.inl ⟨by rfl, ?_⟩) hH ?_
      · (intro w hSw; (try dsimp only at hSw); go_split_ands; go_simp; try with_reducible rfl)
      try simp only [Act.put, List.setIfInBounds_toArray, List.set_cons_zero, List.set_cons_succ]
      refine wpAnyH_take_dst (i := 3) (v := .slice (some ⟨b3, o3, none⟩) n3 c3) (d := some 34) rfl rfl (by kernel_rfl) (by kernel_rfl) (by kernel_rfl) (fun _ _ _ h => h) (Or.inl ⟨by rfl, ?_⟩) hH ?_
      · (intro w hSw; (try dsimp only at hSw); go_split_ands; go_simp; try with_reducible rfl)
      try simp only [Act.put, List.setIfInBounds_toArray, List.set_cons_zero, List.set_cons_succ]
      refine wpAnyH_take_dst (i := 4) (v := .pointer (some ⟨w.heap.size + 1 + 1, 0, none⟩)) (d := some 35) rfl rfl (by kernel_rfl) (by kernel_rfl) (by kernel_rfl) (fun _ _ _ h => h) (Or.inl ⟨by rfl, ?_⟩) hH ?_
      · (intro w hSw; (try dsimp only at hSw); go_split_ands; go_simp; try with_reducible rfl)
      try simp only [Act.put, List.setIfInBounds_toArray, List.set_cons_zero, List.set_cons_succ]
      refine wpAnyH_take_dst (i := 5) (v := .slice (some ⟨b2, o2, none⟩) m1 d1) (d := some 36) rfl rfl (by kernel_rfl) (by kernel_rfl) (by kernel_rfl) (fun _ _ _ h => h) (Or.inl ⟨by rfl, ?_⟩) hH ?_
      · (intro w hSw; (try dsimp only at hSw); go_split_ands; go_simp; try with_reducible rfl)
      try simp only [Act.put, List.setIfInBounds_toArray, List.set_cons_zero, List.set_cons_succ]
      refine wpAnyH_ready (rs := [6]) (by kernel_rfl) (by simp) ?_
      refine AllReadyH.cons rfl (fun K hK => ?_) AllReadyH.nil
      rw [if_pos (by rfl)]
      go_wp2_with (go_at_call 77; (with_reducible refine ((c_l11Away (t := q.l) (RI.ext HQ.out (Ext.trans HEW3.out (Ext.drew (Ext.refl _)))) HVQ.out)).mono ?_); rintro e w5 ⟨A5, n5, c5, rfl, hO5, hE9⟩)
      refine hK.out _ _ (keep3 hH (by first | exact below_only hO9 (by have := HE3.out.size; have := hH.1.size; have := HH3.out.lt; simp at this; omega) | exact Below.mono hE9 (by have := HE3.out.size; have := hH.1.size; omega)) (by show w.heap.size < w1.heap.size; omega) (by show w.heap.size + 1 + 1 < w1.heap.size; omega)) (fun hH9 => ?_)
      clear hK hH; have hH := hH9; clear hH9
      try simp only [Act.put, List.setIfInBounds_toArray, List.set_cons_zero, List.set_cons_succ]
      refine wpAnyH_ready (rs := [7]) (by kernel_rfl) (by simp) ?_
      refine AllReadyH.cons rfl (fun K hK => ?_) AllReadyH.nil
      rw [if_pos (by rfl)]
      go_wp2_with (go_at_call 76; (with_reducible refine ((c_l11Meet (X := ⟨w2.heap.size, w1.heap.size, s.ar⟩) (RI.ext HA.out (Ext.trans HEW3.out (Ext.trans (Ext.drew (Ext.refl _)) ‹Ext w3.drew w5›))) (fun b' o' s' e => by cases e; show ab ≠ w1.heap.size; omega) HSG.out (SC.H.self (HH3.out.ext (Ext.trans (Ext.drew (Ext.refl _)) ‹Ext w3.drew w5›))) (HTA.out.ext (Ext.trans (Ext.drew (Ext.refl _)) ‹Ext w3.drew w5›)) (HAT.out _ _ _ _ (OwI.lower hO5 (show w3.heap.size ≤ w3.drew.heap.size from Nat.le_refl _))) HC60.out HQ60.out)).mono ?_); rintro e w6 ⟨rfl, hO9⟩)
      refine hK.out _ _ (keep3 hH (by first | exact below_only hO9 (by have := HE3.out.size; have := hH.1.size; have := HH3.out.lt; simp at this; omega) | exact Below.mono hE9 (by have := HE3.out.size; have := hH.1.size; omega)) (by show w.heap.size < w1.heap.size; omega) (by show w.heap.size + 1 + 1 < w1.heap.size; omega)) (fun hH9 => ?_)
      clear hK hH; have hH := hH9; clear hH9
      try simp only [Act.put, List.setIfInBounds_toArray, List.set_cons_zero, List.set_cons_succ]
      refine wpAnyH_take_dst (i := 8) (v := .bool (uniB (capT s (tmOf s.ar p.r)) (awT (tmOf s.ar q.l)))) (d := some 6) rfl rfl (by kernel_rfl) (by kernel_rfl) (by kernel_rfl) (fun _ _ _ h => h) (Or.inl ⟨by rfl, ?_⟩) hH ?_
      · (intro w hSw; (try dsimp only at hSw); go_split_ands; go_simp; try with_reducible rfl)
      try simp only [Act.put, List.setIfInBounds_toArray, List.set_cons_zero, List.set_cons_succ]
      refine wpAnyH_done (by kernel_rfl) ?_ _
      have HBL := Lib.hid hH.1
      clear hH
      go_wp2
      go_ret
      exact ⟨ret_bool HV.out.symm, Below.trans HE1.out (Below.mono (Below.trans (Below.mono HE3.out (Nat.le_refl _)) HBL.out) HE1.out.size)⟩
  · have hd1 : (x != y) = true := by simpa using hxy
    have HV := Lib.hid (connV_head (s := s) (show p.r[0]? ≠ q.l[0]? by rw [HX.out, HY.out]; intro e; exact hxy (Option.some.inj e)))
    clear hxy
    go_wp2_with fail
    go_quiet (fail)
    go_wp2
    go_ret
    exact ⟨ret_bool HV.out.symm, Ext.trans HE1.out (by exact extX)⟩

/-! ConnectedIn of both. -/
noncomputable def cinV (s : Sy) (p q : DepP) : Bool := depOk s p && depOk s q && connV s p q
theorem cinV_1 {s : Sy} {p q : DepP} (h : depOk s p = false) : cinV s p q = false := by unfold cinV; rw [h]; rfl
theorem cinV_2 {s : Sy} {p q : DepP} (h1 : depOk s p = true) (h : depOk s q = false) : cinV s p q = false := by unfold cinV; rw [h1, h]; rfl
theorem cinV_3 {s : Sy} {p q : DepP} (h1 : depOk s p = true) (h : depOk s q = true) : cinV s p q = connV s p q := by unfold cinV; rw [h1, h]; rfl
/-- A right pair's terms are right. -/
theorem depOk_terms {s : Sy} {p : DepP} (h : depOk s p = true) : SysP s ∧ TermP s.ar p.l ∧ TermP s.ar p.r := by
  unfold depOk at h
  rw [Bool.and_eq_true] at h
  have hs := sysOk_iff.1 h.1
  have hg : DepGood s p := by have := h.2; simp only [depG, decide_eq_true_eq] at this; exact this
  obtain ⟨k, a, r, x, ⟨_, _, h3, h4⟩, q, h5, h6⟩ := hg
  obtain ⟨hL, hR, _, _⟩ := hs.2.2 k r h3
  have hq : q.l = r.l ∧ q.r = (subT s.ar r.r a).flat := by
    unfold depOf at h5
    split at h5
    · cases h5
    · split at h5
      · cases h5
      · split at h5
        · cases h5
        · cases h5; exact ⟨rfl, rfl⟩
  unfold DepP.same at h6
  simp only [Bool.and_eq_true, beq_iff_eq] at h6
  refine ⟨hs, ?_, ?_⟩
  · rw [← h6.1.1.1, hq.1]; exact hL
  · rw [← h6.1.1.2, hq.2]; exact (sub_term hR (List.getElem?_eq_some_iff.1 h4).1).1

theorem c_iConnectedInDep' {v0 v1 : Value} {s : Sy} {p : DepP} {w : World} {b : Bool} (hb : depOk s p = b) (h0 : RdSyC w v0 s) (h1 : RdDq w v1 p) :
    Calls Try.prog 41 #[v0, v1] w fun e w' => e = .returned (.bool b) ∧ Ext w w' :=
  (c_iDepOk h0 h1).mono fun _ _ ⟨he, hw⟩ => ⟨he.trans (ret_bool hb), hw⟩
set_option maxRecDepth 100000 in
set_option maxHeartbeats 4000000 in
theorem c_iConnectedIn {v0 v1 v2 : Value} {s : Sy} {p q : DepP} {w : World} (h0 : RdSyC w v0 s) (h1 : RdDp w v1 p) (h2 : RdDp w v2 q) :
    Calls Try.prog 19 #[v0, v1, v2] w fun e w' => e = .returned (.bool (cinV s p q)) ∧ Ext w w' := by
  obtain ⟨A, n, c, B, m, d, rfl, ha, hb⟩ := h0
  obtain ⟨C1, k1, l1, C2, k2, l2, rfl, hc1, hc2, hr1, hr2⟩ := h1
  obtain ⟨D1, m1, d1, D2, m2, d2, rfl, hc3, hc4, hr3, hr4⟩ := h2
  have HA := Lib.hid ha
  have HB := Lib.hid hb
  have H1 := Lib.hid hr1
  have H2 := Lib.hid hr2
  have H3 := Lib.hid hr3
  have H4 := Lib.hid hr4
  have HC1 := Lib.hid hc1
  have HC2 := Lib.hid hc2
  have HC3 := Lib.hid hc3
  have HC4 := Lib.hid hc4
  clear ha hb hr1 hr2 hr3 hr4 hc1 hc2 hc3 hc4
  cases e1 : depOk s p with
  | false =>
    have HD1 := Lib.hid e1
    have HV := Lib.hid (cinV_1 (q := q) e1)
    clear e1
    go_enter Try.func19, Try.ntmps19
    go_wp2_with fail
    (with_reducible refine (c_iConnectedInDep' (p := p) HD1.out (RdSyK.mk (RI.ext HA.out (by exact extX)) (RR.ext HB.out (by exact extX))) (RdDq.mk (RI.ext H1.out (by exact extX)) (RI.ext H2.out (by exact extX)))).mono ?_); rintro e w1 ⟨rfl, hE1⟩; have hz1 := sz_of hE1; (try simp only [World.size_alloc, World.size_setCell, World.size_drew] at hz1); obtain ⟨hc1, hf1⟩ := bcell hE1; (try have hq1_0 : w.heap.size < w1.heap.size := by omega); (try have hq1_1 : w.heap.size + 1 < w1.heap.size := by omega); (try have hq1_2 : w.heap.size + 1 + 1 < w1.heap.size := by omega); (try have hq1_3 : w.heap.size + 1 + 1 + 1 < w1.heap.size := by omega); (try have hq1_4 : w.heap.size + 1 + 1 + 1 + 1 < w1.heap.size := by omega); (try have hq1_5 : w.heap.size + 1 + 1 + 1 + 1 + 1 < w1.heap.size := by omega)
    go_wp2
    go_ret
    exact ⟨ret_bool HV.out.symm, by exact extX⟩
  | true =>
    have HD1 := Lib.hid e1
    cases e2 : depOk s q with
    | false =>
      have HD2 := Lib.hid e2
      have HV := Lib.hid (cinV_2 e1 e2)
      clear e1 e2
      go_enter Try.func19, Try.ntmps19
      go_wp2_with fail
      (with_reducible refine (c_iConnectedInDep' (p := p) HD1.out (RdSyK.mk (RI.ext HA.out (by exact extX)) (RR.ext HB.out (by exact extX))) (RdDq.mk (RI.ext H1.out (by exact extX)) (RI.ext H2.out (by exact extX)))).mono ?_); rintro e w1 ⟨rfl, hE1⟩; have hz1 := sz_of hE1; (try simp only [World.size_alloc, World.size_setCell, World.size_drew] at hz1); obtain ⟨hc1, hf1⟩ := bcell hE1; (try have hq1_0 : w.heap.size < w1.heap.size := by omega); (try have hq1_1 : w.heap.size + 1 < w1.heap.size := by omega); (try have hq1_2 : w.heap.size + 1 + 1 < w1.heap.size := by omega); (try have hq1_3 : w.heap.size + 1 + 1 + 1 < w1.heap.size := by omega); (try have hq1_4 : w.heap.size + 1 + 1 + 1 + 1 < w1.heap.size := by omega); (try have hq1_5 : w.heap.size + 1 + 1 + 1 + 1 + 1 < w1.heap.size := by omega)
      go_wp2_with fail
      (with_reducible refine (c_iConnectedInDep' (p := q) HD2.out (RdSyK.mk (RI.ext HA.out (by exact extX)) (RR.ext HB.out (by exact extX))) (RdDq.mk (RI.ext H3.out (by exact extX)) (RI.ext H4.out (by exact extX)))).mono ?_); rintro e w2 ⟨rfl, hE2⟩; have hz2 := sz_of hE2; (try simp only [World.size_alloc, World.size_setCell, World.size_drew] at hz2); obtain ⟨hc2, hf2⟩ := bcell hE2; (try have hq2_0 : w.heap.size < w2.heap.size := by omega); (try have hq2_1 : w.heap.size + 1 < w2.heap.size := by omega); (try have hq2_2 : w.heap.size + 1 + 1 < w2.heap.size := by omega); (try have hq2_3 : w.heap.size + 1 + 1 + 1 < w2.heap.size := by omega); (try have hq2_4 : w.heap.size + 1 + 1 + 1 + 1 < w2.heap.size := by omega); (try have hq2_5 : w.heap.size + 1 + 1 + 1 + 1 + 1 < w2.heap.size := by omega); (try have hx2_1 : w1.heap.size < w2.heap.size := by omega)
      go_wp2
      go_ret
      exact ⟨ret_bool HV.out.symm, by exact extX⟩
    | true =>
      have HD2 := Lib.hid e2
      have HV := Lib.hid (cinV_3 e1 e2)
      have HS := Lib.hid (depOk_terms e1).1
      have HTP := Lib.hid (depOk_terms e1).2.2
      have HTQ := Lib.hid (depOk_terms e2).2.1
      clear e1 e2
      go_enter Try.func19, Try.ntmps19
      go_wp2_with fail
      (with_reducible refine (c_iConnectedInDep' (p := p) HD1.out (RdSyK.mk (RI.ext HA.out (by exact extX)) (RR.ext HB.out (by exact extX))) (RdDq.mk (RI.ext H1.out (by exact extX)) (RI.ext H2.out (by exact extX)))).mono ?_); rintro e w1 ⟨rfl, hE1⟩; have hz1 := sz_of hE1; (try simp only [World.size_alloc, World.size_setCell, World.size_drew] at hz1); obtain ⟨hc1, hf1⟩ := bcell hE1; (try have hq1_0 : w.heap.size < w1.heap.size := by omega); (try have hq1_1 : w.heap.size + 1 < w1.heap.size := by omega); (try have hq1_2 : w.heap.size + 1 + 1 < w1.heap.size := by omega); (try have hq1_3 : w.heap.size + 1 + 1 + 1 < w1.heap.size := by omega); (try have hq1_4 : w.heap.size + 1 + 1 + 1 + 1 < w1.heap.size := by omega); (try have hq1_5 : w.heap.size + 1 + 1 + 1 + 1 + 1 < w1.heap.size := by omega)
      go_wp2_with fail
      (with_reducible refine (c_iConnectedInDep' (p := q) HD2.out (RdSyK.mk (RI.ext HA.out (by exact extX)) (RR.ext HB.out (by exact extX))) (RdDq.mk (RI.ext H3.out (by exact extX)) (RI.ext H4.out (by exact extX)))).mono ?_); rintro e w2 ⟨rfl, hE2⟩; have hz2 := sz_of hE2; (try simp only [World.size_alloc, World.size_setCell, World.size_drew] at hz2); obtain ⟨hc2, hf2⟩ := bcell hE2; (try have hq2_0 : w.heap.size < w2.heap.size := by omega); (try have hq2_1 : w.heap.size + 1 < w2.heap.size := by omega); (try have hq2_2 : w.heap.size + 1 + 1 < w2.heap.size := by omega); (try have hq2_3 : w.heap.size + 1 + 1 + 1 < w2.heap.size := by omega); (try have hq2_4 : w.heap.size + 1 + 1 + 1 + 1 < w2.heap.size := by omega); (try have hq2_5 : w.heap.size + 1 + 1 + 1 + 1 + 1 < w2.heap.size := by omega); (try have hx2_1 : w1.heap.size < w2.heap.size := by omega)
      go_wp2_with fail
      (with_reducible refine (c_connected (p := p) (q := q) (RdSyK.mk (RI.ext HA.out (by exact extX)) (RR.ext HB.out (by exact extX))) (RdDp.mk HC1.out HC2.out (RI.ext H1.out (by exact extX)) (RI.ext H2.out (by exact extX))) (RdDp.mk HC3.out HC4.out (RI.ext H3.out (by exact extX)) (RI.ext H4.out (by exact extX))) HS.out HTP.out HTQ.out).mono ?_); rintro e w3 ⟨rfl, hE3⟩; have hz3 := sz_of hE3; (try simp only [World.size_alloc, World.size_setCell, World.size_drew] at hz3); obtain ⟨hc3, hf3⟩ := bcell hE3; (try have hq3_0 : w.heap.size < w3.heap.size := by omega); (try have hq3_1 : w.heap.size + 1 < w3.heap.size := by omega); (try have hq3_2 : w.heap.size + 1 + 1 < w3.heap.size := by omega); (try have hq3_3 : w.heap.size + 1 + 1 + 1 < w3.heap.size := by omega); (try have hq3_4 : w.heap.size + 1 + 1 + 1 + 1 < w3.heap.size := by omega); (try have hq3_5 : w.heap.size + 1 + 1 + 1 + 1 + 1 < w3.heap.size := by omega); (try have hx3_1 : w1.heap.size < w3.heap.size := by omega); (try have hx3_2 : w2.heap.size < w3.heap.size := by omega)
      go_wp2
      go_ret
      exact ⟨ret_bool HV.out.symm, by exact extX⟩

end Go.Proofs.Ytempekmenkeigaa
