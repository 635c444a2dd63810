/- Several texts in one: UniA, UniB, UniC, UniD, UniE. -/
import Derived.Test.YtempekmenkeigaaMgA
import Derived.Test.YtempekmenkeigaaWraps
import Derived.Test.YtempekmenkeigaaHeld
import Derived.Deep.LoopGhost
import Derived.Defers
import Derived.Recover
import Derived.Laws.Pointers
import Derived.Test.YtempekmenkeigaaCapI
-- rd: RdSyK
namespace Go.Proofs.Ytempekmenkeigaa
open Go.RowKit
set_option linter.unusedSimpArgs false
set_option linter.unusedVariables false

/-! The program's unifier: what it keeps; bindings followed. -/
/-- A term in a slice that lies in another block. -/
def TS (w : World) (g : Nat) (v : Value) (t : Tm) : Prop := ∃ b o n c, v = .slice (some ⟨b, o, none⟩) n c ∧ (n ≤ c ∧ c ≤ 9223372036854775807) ∧ b ≠ g ∧ RI w (some ⟨b, o, none⟩) n t.flat
theorem TS.ext {w w' : World} {g : Nat} {v : Value} {t : Tm} (h : TS w g v t) (k : Ext w w') : TS w' g v t := by
  obtain ⟨b, o, n, c, e, h1, h2, h3⟩ := h; exact ⟨b, o, n, c, e, h1, h2, h3.ext k⟩
theorem TS.only {w w' : World} {g : Nat} {v : Value} {t : Tm} (h : TS w g v t) (k : Only w w' g) : TS w' g v t := by
  obtain ⟨b, o, n, c, e, h1, h2, h3⟩ := h
  exact ⟨b, o, n, c, e, h1, h2, h3.only k fun b' o' s' e _ => by cases e; exact h2⟩
theorem TS.rd {w : World} {g : Nat} {v : Value} {t : Tm} (h : TS w g v t) : RdI w v t.flat := by
  obtain ⟨b, o, n, c, e, h1, h2, h3⟩ := h; exact ⟨_, n, c, e, h3⟩
theorem TS.rdc {w : World} {g : Nat} {v : Value} {t : Tm} (h : TS w g v t) : RdIc w v t.flat := by
  obtain ⟨b, o, n, c, e, h1, h2, h3⟩ := h; exact ⟨_, n, c, e, h1, h3⟩
/-- Its first number. -/
theorem TS.first {w : World} {g : Nat} {v : Value} {x : Int} {us : List Tm} (h : TS w g v (.node x us)) : ∃ b o n c, v = .slice (some ⟨b, o, none⟩) n c ∧ (0 : Int) < (n : Int) ∧ w.cell? ⟨b, o, none⟩ = some (.int .i64 x) ∧ b ≠ g ∧ n ≤ 4194304 := by
  obtain ⟨b, o, n, c, e, h1, h2, h3⟩ := h
  have hl := h3.len
  have hp := flat_pos (.node x us)
  have hn := h3.le
  obtain ⟨b', o', y, e', hy, hc⟩ := RI.at_ h3 (show 0 < n by omega)
  cases e'
  rw [flat_node] at hy
  cases hy
  exact ⟨b, o, n, c, e, by omega, hc, h2, hn⟩
/-- What a slot of the bindings holds. -/
def Slot (w : World) (g : Nat) (v : Value) : Option Tm → Prop
  | none => v = .slice none 0 0
  | some t => TS w g v t
structure UC where
  g : Nat
  sb : Nat
  so : Nat
  n : Nat
  c : Nat
  ar : List Int
structure UC.H (X : UC) (b : Int → Option Tm) (w : World) : Prop where
  a : RI w (some ⟨X.sb, X.so, none⟩) X.n X.ar
  na : X.sb ≠ X.g
  c0 : w.cell? ⟨X.g, 0, none⟩ = some (.slice (some ⟨X.sb, X.so, none⟩) X.n X.c)
  cw : ∀ k : Nat, k < 48 → ∃ v, w.cell? ⟨X.g, 1 + k, none⟩ = some v ∧ Slot w X.g v (b (-1 - (k : Int)))
  fr : ∀ o, w.frozen? ⟨X.g, o, none⟩ = false
theorem Slot.ext {w w' : World} {g : Nat} {v : Value} {o : Option Tm} (h : Slot w g v o) (k : Ext w w') : Slot w' g v o := by
  cases o with
  | none => exact h
  | some t => exact TS.ext h k
theorem Slot.only {w w' : World} {g : Nat} {v : Value} {o : Option Tm} (h : Slot w g v o) (k : Only w w' g) : Slot w' g v o := by
  cases o with
  | none => exact h
  | some t => exact TS.only h k
section
variable {X : UC} {b : Int → Option Tm} {w w' : World}
theorem UC.H.lt (h : X.H b w) : X.g < w.heap.size := World.block_lt_of_cell? w _ h.c0
theorem UC.H.ext (h : X.H b w) (k : Ext w w') : X.H b w' where
  a := h.a.ext k
  na := h.na
  c0 := Ext.keep k h.c0
  cw := fun i hi => by obtain ⟨v, h1, h2⟩ := h.cw i hi; exact ⟨v, Ext.keep k h1, h2.ext k⟩
  fr := fun o => (Below.frozen (p := ⟨X.g, o, none⟩) k h.lt).trans (h.fr o)
theorem UC.H.sig (h : X.H b w) : RdSig w (.agg #[.slice (some ⟨X.sb, X.so, none⟩) X.n X.c]) X.ar := RdSig.mk h.a
/-- A term is stored for a variable. -/
theorem UC.H.set (h : X.H b w) {k : Nat} {x : Int} (hk : k < 48) (hx : x = -1 - (k : Int)) {v : Value} {t : Tm} (hv : TS w X.g v t) : X.H (setB b x t) (w.setCell ⟨X.g, 1 + k, none⟩ v) := by
  subst hx
  have hO : Only w (w.setCell ⟨X.g, 1 + k, none⟩ v) X.g := Only.setCell w X.g _ _
  refine ⟨h.a.only hO fun b' o' s' e _ => by cases e; exact h.na, h.na, ?_, fun i hi => ?_, fun o => by rw [World.frozen?_setCell]; exact h.fr o⟩
  · rw [World.cell?_setCell_other _ _ _ _ (by first | (simp; done) | (simp; omega))]; exact h.c0
  · obtain ⟨u, h1, h2⟩ := h.cw i hi
    by_cases e : i = k
    · subst e
      rw [setB_same]
      exact ⟨v, World.cell?_setCell_same _ _ _ h1, TS.only hv hO⟩
    · rw [setB_other (by omega)]
      exact ⟨u, by rw [World.cell?_setCell_other _ _ _ _ (by first | (simp; done) | (simp; omega))]; exact h1, h2.only hO⟩
/-- The slot of a variable. -/
theorem UC.H.slot (h : X.H b w) {x : Int} (hx : x < 0) (h48 : -48 ≤ x) : ∃ (k : Nat) (v : Value), -1 - x = (k : Int) ∧ x = -1 - (k : Int) ∧ k < 48 ∧ w.cell? ⟨X.g, 1 + k, none⟩ = some v ∧ Slot w X.g v (b x) := by
  obtain ⟨v, h1, h2⟩ := h.cw (-1 - x).toNat (by omega)
  rw [show (-1 - ((-1 - x).toNat : Int)) = x by omega] at h2
  exact ⟨_, v, by omega, by omega, by omega, h1, h2⟩
end
/-- What a term is at last by what variables have. -/
def Rt (b : Int → Option Tm) (u v : Tm) : Prop := ∀ θ, Sol θ b → u.sub θ = v.sub θ
/-- A term that lies there and is right. -/
structure TT (ar : List Int) (w : World) (g : Nat) (v : Value) (t : Tm) : Prop where
  ts : TS w g v t
  ok : t.Ok ar
  dm : ∀ y ∈ t.flat, -48 ≤ y
theorem TT.ext {ar : List Int} {w w' : World} {g : Nat} {v : Value} {t : Tm} (h : TT ar w g v t) (k : Ext w w') : TT ar w' g v t := ⟨h.ts.ext k, h.ok, h.dm⟩
theorem TT.only {ar : List Int} {w w' : World} {g : Nat} {v : Value} {t : Tm} (h : TT ar w g v t) (k : Only w w' g) : TT ar w' g v t := ⟨h.ts.only k, h.ok, h.dm⟩
set_option maxRecDepth 100000 in
set_option maxHeartbeats 4000000 in
theorem c_root {X : UC} {b : Int → Option Tm} {σ : Int → Tm} {r : Int → Nat} {t : Tm} {v : Value} {w : World} (hT : Tri X.ar b σ r) (hH : X.H b w) (ht : TT X.ar w X.g v t) :
    Calls Try.prog 105 #[.pointer (some ⟨X.g, 0, none⟩), v] w fun e w' => ∃ v' x us, e = .returned v' ∧ TT X.ar w' X.g v' (.node x us) ∧ Rt b t (.node x us) ∧ (x < 0 → b x = none) ∧ Ext w w' := by
  have HT := Lib.hid hT
  have HH := Lib.hid hH
  have HV := Lib.hid ht
  clear hT hH ht
  go_enter Try.func105, Try.ntmps105
  go_wp2_with fail
  go_loopg [1] (match t with | .node x _ => r x + 1) (fun k v wr => (∃ x us, Hid (TT X.ar w X.g v (.node x us)) ∧ Hid (Rt b t (.node x us)) ∧ Hid (x < 0 → r x < k)) ∧ Hid (Ext w wr))
  case atStart =>
    obtain ⟨x, us⟩ := t
    exact ⟨⟨x, us, HV, Lib.hid fun _ _ => rfl, Lib.hid fun _ => Nat.lt_succ_self _⟩, Lib.hid (Ext.refl _)⟩
  case round =>
    obtain ⟨⟨x, us, HX, HR, HK⟩, HE⟩ := hrel
    obtain ⟨bb, oo, nn, cc, rfl, hn0, hcx, hbg, hn4⟩ := (HX.out.ts.ext HE.out).first
    by_cases hx : x < 0
    · have hd0 : decide (x < 0) = true := by simpa using hx
      have h48 : -48 ≤ x := HX.out.dm x (by rw [flat_node]; exact List.mem_cons_self)
      obtain ⟨k, sv, hk, hk', hk48, hcs0, hsl⟩ := HH.out.slot hx h48
      have hcs := Ext.keep HE.out hcs0
      clear hcs0
      have hki : (k : Int) < 48 := by omega
      have HK' := Lib.hid hk'
      have HSL := Lib.hid hsl
      clear hk' hsl
      rcases hb : b x with _ | t'
      · have HB := Lib.hid hb
        have h1 := HSL.out
        rw [hb] at h1
        have h2 : sv = .slice none 0 0 := h1
        subst h2
        clear h1 hb
        go_wp2_with fail
        go_quiet (fail)
        go_wp2
        go_ret
        exact ⟨_, x, us, rfl, HX.out.ext (Ext.trans HE.out (by exact extX)), HR.out, fun _ => HB.out, Ext.trans HE.out (by exact extX)⟩
      · obtain ⟨x', us'⟩ := t'
        have HB := Lib.hid hb
        have h1 := HSL.out
        rw [hb] at h1
        have h2 : TS w X.g sv (.node x' us') := h1
        clear h1 hb
        have HS2 := Lib.hid h2
        obtain ⟨b2, o2, n2, c2, rfl, _, _, _, _⟩ := h2
        go_wp2_with fail
        go_quiet (fail)
        go_wp2_with fail
        go_quiet (fail)
        go_wp2_with fail
        go_roundg (r x)
        case measure => exact HK.out hx
        case rel => exact ⟨⟨x', us', Lib.hid ⟨HS2.out, HT.out.ok x _ HB.out, HT.out.dom x _ HB.out⟩, Lib.hid (fun θ hs => (HR.out θ hs).trans (by rw [ok_var HX.out.ok hx, vr_sub hx]; exact hs x _ HB.out)), Lib.hid fun h => HT.out.lt x _ HB.out x' (by rw [flat_node]; exact List.mem_cons_self) h⟩, Lib.hid (Ext.trans HE.out (by exact extX))⟩
    · have hd0 : decide (x < 0) = false := by simpa using hx
      go_wp2_with fail
      go_quiet (fail)
      go_wp2
      go_ret
      exact ⟨_, x, us, rfl, HX.out.ext (Ext.trans HE.out (by exact extX)), HR.out, fun h => absurd h (by omega), Ext.trans HE.out (by exact extX)⟩

/-! The program's unifier: whether a variable stands in a term by what variables have. -/
/-- The table of marks. -/
structure Seen (gs : Nat) (m : Int → Bool) (w : World) : Prop where
  c : ∀ k : Nat, k < 48 → w.cell? ⟨gs, k, none⟩ = some (.bool (m (-1 - (k : Int))))
  fr : ∀ o, w.frozen? ⟨gs, o, none⟩ = false
theorem Seen.ext {gs : Nat} {m : Int → Bool} {w w' : World} (h : Seen gs m w) (k : Ext w w') : Seen gs m w' :=
  ⟨fun i hi => Ext.keep k (h.c i hi), fun o => (Below.frozen (p := ⟨gs, o, none⟩) k (show gs < w.heap.size from World.block_lt_of_cell? w _ (h.c 0 (by decide)))).trans (h.fr o)⟩
theorem Seen.set {gs k : Nat} {m : Int → Bool} {x : Int} {w : World} (h : Seen gs m w) (hk : k < 48) (hx : x = -1 - (k : Int)) : Seen gs (setM m x) (w.setCell ⟨gs, k, none⟩ (.bool true)) := by
  subst hx
  refine ⟨fun i hi => ?_, fun o => by rw [World.frozen?_setCell]; exact h.fr o⟩
  have h1 := h.c i hi
  by_cases e : i = k
  · subst e
    rw [setM_same]; exact World.cell?_setCell_same _ _ _ h1
  · rw [setM_other (by omega), World.cell?_setCell_other _ _ _ _ (by first | (simp; done) | (simp; omega))]; exact h1
/-- What has come to be marked is told of. -/
def NewM (b : Int → Option Tm) (x : Int) (m m' : Int → Bool) : Prop := (∀ y, m y = true → m' y = true) ∧ ∀ y, m' y = true → m y = true ∨ ∀ t, b y = some t → Dn b x m' t
theorem Dn.mono {b : Int → Option Tm} {x : Int} {m m' : Int → Bool} {t : Tm} (h : Dn b x m t) (hm : ∀ y, m y = true → m' y = true) : Dn b x m' t :=
  fun y hy => ⟨(h y hy).1, fun h0 => ((h y hy).2 h0).imp id (hm y)⟩
theorem NewM.refl (b : Int → Option Tm) (x : Int) (m : Int → Bool) : NewM b x m m := ⟨fun _ h => h, fun _ h => .inl h⟩
/-- A variable that has nothing is marked. -/
theorem NewM.free {b : Int → Option Tm} {x y : Int} {m m' : Int → Bool} (h : NewM b x m m') (hy : b y = none) : NewM b x m (setM m' y) := by
  refine ⟨fun z hz => setM_le (h.1 z hz), fun z hz => ?_⟩
  by_cases e : z = y
  · right; intro t ht; rw [e, hy] at ht; cases ht
  · rw [setM_other e] at hz
    exact (h.2 z hz).imp id fun h2 t ht => (h2 t ht).mono fun q hq => setM_le hq
/-- One is marked and told of. -/
theorem NewM.call {b : Int → Option Tm} {x y : Int} {m m1 m2 : Int → Bool} {t : Tm} (h : NewM b x m m1) (hy : b y = some t) (h2 : NewM b x (setM m1 y) m2) (hd : Dn b x m2 t) : NewM b x m m2 := by
  refine ⟨fun z hz => h2.1 z (setM_le (h.1 z hz)), fun z hz => ?_⟩
  rcases h2.2 z hz with h3 | h3
  · by_cases e : z = y
    · right; intro t' ht; rw [e, hy] at ht; cases ht; exact hd
    · rw [setM_other e] at h3
      exact (h.2 z h3).imp id fun h4 t' ht => (h4 t' ht).mono fun q hq => h2.1 q (setM_le hq)
  · exact .inr h3
/-- What the search in a term tells. -/
def OccP (b : Int → Option Tm) (σ : Int → Tm) (x : Int) (t : Tm) (gs : Nat) (m : Int → Bool) (w0 : World) (e : Ending) (w' : World) : Prop :=
  ∃ m', Ext w0 w' ∧ Seen gs m' w' ∧ ((e = .returned (.bool true) ∧ x ∈ (t.sub σ).flat) ∨ (e = .returned (.bool false) ∧ NewM b x m m' ∧ Dn b x m' t))
set_option maxRecDepth 100000 in
set_option maxHeartbeats 8000000 in
theorem c_occurs {X : UC} {b : Int → Option Tm} {σ : Int → Tm} {r : Int → Nat} {x : Int} {gs : Nat} {w0 : World} (hT : Tri X.ar b σ r) (hx : x < 0) (hbx : b x = none) (hH : X.H b w0) (hg : w0.heap.size ≤ gs) :
    ∀ (R : Nat) (t : Tm) (v : Value) (m : Int → Bool) (w : World), (∀ y ∈ t.flat, y < 0 → r y < R) → TT X.ar w0 X.g v t → Ext w0 w → Seen gs m w →
    Calls Try.prog 106 #[.pointer (some ⟨X.g, 0, none⟩), .int .i64 x, v, .pointer (some ⟨gs, 0, none⟩)] w (OccP b σ x t gs m w0) := by
  intro R
  induction R using Nat.strongRecOn with
  | _ R ih =>
    intro t v m w hR ht hE hS
    have HT := Lib.hid hT
    have HH := Lib.hid hH
    have HV := Lib.hid ht
    have HR := Lib.hid hR
    have HE := Lib.hid hE
    have HS := Lib.hid hS
    have HI := Lib.hid ih
    have HBX := Lib.hid hbx
    have HL := Lib.hid (show ∀ y ∈ t.flat, y = x → x ∈ (t.sub σ).flat from fun y hy e => by
      subst e
      exact (mem_sub ht.ok).2 ⟨y, hy, .inl ⟨hx, by rw [hT.unb y hx hbx, vr_flat]; simp⟩⟩)
    obtain ⟨bb, oo, n, c, rfl, _, hbg, hrt⟩ := ht.ts
    have hn4 := hrt.le
    have HRT := Lib.hid hrt
    have HN := Lib.hid hrt.len
    clear hT hH hR ht hE hS ih hbx hrt
    go_enter Try.func106, Try.ntmps106
    go_wp2_with fail
    go_loopw [14] (fun i wr => ∃ k : Nat, i = .int .i64 k ∧ k ≤ n ∧ Hid (∃ m', Ext w0 wr ∧ Seen gs m' wr ∧ NewM b x m m' ∧ ∀ (j : Nat) (y : Int), j < k → t.flat[j]? = some y → y ≠ x ∧ (y < 0 → b y = none ∨ m' y = true))) (fun i _ => n - (intOf i).toNat)
    case atStart => exact ⟨0, rfl, Nat.zero_le _, Lib.hid ⟨m, HE.out, HS.out, NewM.refl _ _ _, fun j y hj => by omega⟩⟩
    case round =>
      obtain ⟨k, rfl, hk, hJ⟩ := hrel
      obtain ⟨m', hE1, hS1, hN1, hD1⟩ := hJ.out
      have HE1 := Lib.hid hE1
      have HS1 := Lib.hid hS1
      have HN1 := Lib.hid hN1
      have HD1 := Lib.hid hD1
      clear hE1 hS1 hN1 hD1 hJ
      by_cases hlt : k < n
      · obtain ⟨b1, o1, y, e1, hy, hcy⟩ := RI.at_ (RI.ext HRT.out HE1.out) hlt
        cases e1
        have HY := Lib.hid hy
        have HYM := Lib.hid (List.mem_of_getElem? hy)
        have hkn : (k : Int) < (n : Int) := by omega
        have h48 : -48 ≤ y := HV.out.dm y HYM.out
        clear hy
        have step : ∀ m2 : Int → Bool, (∀ z, m' z = true → m2 z = true) → y ≠ x → (y < 0 → b y = none ∨ m2 y = true) → ∀ (j : Nat) (z : Int), j < k + 1 → t.flat[j]? = some z → z ≠ x ∧ (z < 0 → b z = none ∨ m2 z = true) := by
          intro m2 hm h1 h2 j z hj hz
          by_cases e : j = k
          · subst e; rw [HY.out] at hz; cases hz; exact ⟨h1, h2⟩
          · obtain ⟨h3, h4⟩ := HD1.out j z (by omega) hz
            exact ⟨h3, fun h0 => (h4 h0).imp id (hm z)⟩
        have HST := Lib.hid step
        clear step
        by_cases hyx : y = x
        · have hd : (y == x) = true := by simpa using hyx
          have HM := Lib.hid (HL.out y HYM.out hyx)
          clear hyx
          go_wp2
          go_ret
          exact ⟨m', HE1.out, HS1.out, .inl ⟨rfl, HM.out⟩⟩
        · have hd : (y == x) = false := by simpa using hyx
          have HYX := Lib.hid hyx
          clear hyx
          by_cases hy0 : 0 ≤ y
          · go_wp2
            refine ⟨⟨k + 1, by go_num, by omega, Lib.hid ⟨m', HE1.out, HS1.out, HN1.out, HST.out _ (fun _ h => h) HYX.out (fun h => by omega)⟩⟩, by simp only [intOf]; omega⟩
          · have hy1 : y < 0 := by omega
            obtain ⟨q, sv, hq, hq', hq48, hcs0, hsl⟩ := HH.out.slot hy1 h48
            have hcs := Ext.keep HE1.out hcs0
            have hqi : (q : Int) < 48 := by omega
            have hcm := HS1.out.c q hq48
            rw [← hq'] at hcm
            have hfm := HS1.out.fr q
            have HQ' := Lib.hid hq'
            have HSL := Lib.hid hsl
            clear hcs0 hq' hsl
            rcases hmy : m' y with _ | _
            · rw [hmy] at hcm
              have HMY := Lib.hid hmy
              have hgn : X.g ≠ gs := by have := HH.out.lt; omega
              have hgn' : gs ≠ X.g := fun e => hgn e.symm
              have hS2 : Seen gs (setM m' y) (wr.setCell ⟨gs, q, none⟩ (.bool true)) := HS1.out.set hq48 HQ'.out
              have hE2 : Ext w0 (wr.setCell ⟨gs, q, none⟩ (.bool true)) := Ext.set HE1.out hg _
              have hcs2 : (wr.setCell ⟨gs, q, none⟩ (.bool true)).cell? ⟨X.g, 1 + q, none⟩ = some sv := by rw [World.cell?_setCell_other _ _ _ _ (by simp; try (intro e; exact absurd e (by first | exact hgn | exact hgn')))]; exact hcs
              have HS2 := Lib.hid hS2
              have HE2 := Lib.hid hE2
              clear hmy hS2 hE2
              rcases hb : b y with _ | t'
              · have HB := Lib.hid hb
                have h1 := HSL.out
                rw [hb] at h1
                have h2 : sv = .slice none 0 0 := h1
                subst h2
                clear h1 hb
                go_wp2
                refine ⟨⟨k + 1, by go_num, by omega, Lib.hid ⟨setM m' y, HE2.out, HS2.out, HN1.out.free HB.out, HST.out _ (fun _ h => setM_le h) HYX.out (fun _ => .inl HB.out)⟩⟩, by simp only [intOf]; omega⟩
              · have HB := Lib.hid hb
                have h1 := HSL.out
                rw [hb] at h1
                have h2 : TS w0 X.g sv t' := h1
                clear h1 hb
                have HTT := Lib.hid (show TT X.ar w0 X.g sv t' from ⟨h2, HT.out.ok y _ HB.out, HT.out.dom y _ HB.out⟩)
                obtain ⟨b2, o2, n2, c2, rfl, _, _, _⟩ := h2
                have HC := Lib.hid (HI.out (r y) (HR.out y HYM.out hy1) t' _ (setM m' y) (wr.setCell ⟨gs, q, none⟩ (.bool true)) (fun z hz h0 => HT.out.lt y _ HB.out z hz h0) HTT.out HE2.out HS2.out)
                go_wp2_with (go_at_call 106; (with_reducible refine HC.out.mono ?_); rintro e w2 ⟨m2, hE3, hS3, ⟨rfl, h3⟩ | ⟨rfl, h3, h4⟩⟩)
                · have HM := Lib.hid (show x ∈ (t.sub σ).flat from (mem_sub HV.out.ok).2 ⟨y, HYM.out, .inl ⟨hy1, by rw [HT.out.bnd y _ HB.out]; exact h3⟩⟩)
                  go_ret
                  exact ⟨m2, hE3, hS3, .inl ⟨rfl, HM.out⟩⟩
                · have HE3 := Lib.hid hE3
                  have HS3 := Lib.hid hS3
                  have HN3 := Lib.hid h3
                  have HD3 := Lib.hid h4
                  clear hE3 hS3 h3 h4
                  go_wp2
                  refine ⟨⟨k + 1, by go_num, by omega, Lib.hid ⟨m2, HE3.out, HS3.out, HN1.out.call HB.out HN3.out HD3.out, HST.out _ (fun z h => HN3.out.1 z (setM_le h)) HYX.out (fun _ => .inr (HN3.out.1 y (setM_same _ _)))⟩⟩, by simp only [intOf]; omega⟩
            · rw [hmy] at hcm
              have HMY := Lib.hid hmy
              clear hmy
              go_wp2
              refine ⟨⟨k + 1, by go_num, by omega, Lib.hid ⟨m', HE1.out, HS1.out, HN1.out, HST.out _ (fun _ h => h) HYX.out (fun _ => .inr HMY.out)⟩⟩, by simp only [intOf]; omega⟩
      · go_wp2
        go_ret
        refine ⟨m', HE1.out, HS1.out, .inr ⟨rfl, HN1.out, fun y hy => ?_⟩⟩
        obtain ⟨j, hj, e⟩ := List.mem_iff_getElem.1 hy
        exact HD1.out j y (by rw [HN.out] at hj; omega) (by rw [List.getElem?_eq_getElem hj, e])
/-- .. asked with nothing marked. -/
theorem c_occurs0 {X : UC} {b : Int → Option Tm} {σ : Int → Tm} {r : Int → Nat} {x : Int} {gs : Nat} {t : Tm} {v : Value} {w0 w : World} (hT : Tri X.ar b σ r) (hx : x < 0) (hbx : b x = none) (hH : X.H b w0) (hg : w0.heap.size ≤ gs) (ht : TT X.ar w0 X.g v t) (hE : Ext w0 w) (hS : Seen gs (fun _ => false) w) :
    Calls Try.prog 106 #[.pointer (some ⟨X.g, 0, none⟩), .int .i64 x, v, .pointer (some ⟨gs, 0, none⟩)] w fun e w' => Ext w0 w' ∧ ((e = .returned (.bool true) ∧ x ∈ (t.sub σ).flat) ∨ (e = .returned (.bool false) ∧ ¬ x ∈ (t.sub σ).flat)) := by
  refine (c_occurs hT hx hbx hH hg ((t.flat.map r).sum + 1) t v _ w (fun y hy _ => by have := mem_le_sum (r := r) hy; omega) ht hE hS).mono ?_
  rintro e w' ⟨m', h1, h2, h3 | ⟨h3, h4, h5⟩⟩
  · exact ⟨h1, .inl h3⟩
  · refine ⟨h1, .inr ⟨h3, hT.clo hx (m := m') (fun y t' hy hb => ?_) ht.ok h5⟩⟩
    rcases h4.2 y hy with h | h
    · cases h
    · exact h t' hb

/-! The program's unifier: two terms made one, or a panic. -/
set_option maxHeartbeats 1000000 in
/-- A part of a term, and where it lies. -/
theorem c_subAtP {v0 v1 : Value} {ar t rest : List Int} {p g : Nat} {P : Int} {u : Tm} {w : World} (h0 : RdSig w v0 ar) {b o n c : Nat} (h1 : v1 = .slice (some ⟨b, o, none⟩) n c) (hc : n ≤ c ∧ c ≤ 9223372036854775807) (hbg : b ≠ g) (h2 : RI w (some ⟨b, o, none⟩) n t) (hs : SigP ar) (hu : u.Ok ar) (hd : t.drop p = u.flat ++ rest) (hP : P = (p : Int)) :
    Calls Try.prog 84 #[v0, v1, .int .i64 P] w fun e w' => ∃ v, e = .returned v ∧ TS w' g v u ∧ Ext w w' := by
  subst h1 hP
  obtain ⟨A, k, l, rfl, ha⟩ := h0
  have hm := h2.le
  have hml := h2.len
  have hpl := drop_lt hd (flat_pos u)
  have hul := flat_pos u
  have HSUB := Lib.hid (RI.sub h2 hd)
  have HA := Lib.hid ha
  have HB := Lib.hid h2
  have HS := Lib.hid hs
  have HU := Lib.hid hu
  have HD := Lib.hid hd
  have hpm : p + u.flat.length ≤ n := by omega
  obtain ⟨hmd, hd0⟩ := hc
  clear ha h2 hs hu hd
  go_enter Try.func84, Try.ntmps84
  go_wp2_with (go_at_call 88; (with_reducible refine (c_endAt_flat (u := u) (RdSig.mk (RI.ext HA.out (by exact extX))) (RdI.mk (RI.ext HB.out (by exact extX))) HS.out HU.out HD.out).mono ?_); rintro e w2 ⟨rfl, hE2⟩)
  go_ret
  exact ⟨_, rfl, ⟨_, _, _, _, rfl, ⟨by omega, by omega⟩, hbg, by rw [show p + u.flat.length - p = u.flat.length by omega]; exact RI.ext HSUB.out (by exact extX)⟩, by exact extX⟩
theorem c_argsAtU {v0 v1 : Value} {ar : List Int} {g : Nat} {x : Int} {us : List Tm} {w : World} (h0 : RdSig w v0 ar) (h1 : RdI w v1 (Tm.node x us).flat) (hs : SigP ar) (hu : (Tm.node x us).Ok ar) (hg : g < w.heap.size) :
    Calls Try.prog 107 #[v0, v1, .int .i64 0] w fun e w' => ∃ A c, e = .returned (.slice A us.length c) ∧ RI w' A us.length (starts 1 us) ∧ Ext w w' ∧ ∀ b o s, A = some ⟨b, o, s⟩ → b ≠ g :=
  (c_argsAtB (p := 0) (rest := []) h0 h1 hs hu (by rw [List.drop_zero, List.append_nil])).mono fun _ _ ⟨A, n, c, e, h1, h2, h3, h4⟩ => by subst h1; exact ⟨A, c, e, h2, h3, fun b o s e => by have := h4 b o s e; omega⟩
theorem mem_flatL {us : List Tm} {a : Tm} (h : a ∈ us) : ∀ y ∈ a.flat, y ∈ flatL us := by
  induction us with
  | nil => cases h
  | cons c us ih =>
    intro y hy
    rw [flatL_cons]
    rcases List.mem_cons.1 h with rfl | h
    · exact List.mem_append_left _ hy
    · exact List.mem_append_right _ (ih h y hy)
/-- There is one filling to the end. -/
theorem Tri.uniq {ar : List Int} {b : Int → Option Tm} {σ σ' : Int → Tm} {r r' : Int → Nat} (h : Tri ar b σ r) (h' : Tri ar b σ' r') {x : Int} (hx : x < 0) : σ x = σ' x := by
  rw [← h.twice h'.sol _ x (Nat.lt_succ_self _) hx]
  conv => lhs; rw [← sub_id (σ x) (h.sok x hx)]
  refine sub_congr _ (h.sok x hx) fun y hy h0 => ?_
  rw [h'.unb y h0 (h.fin x hx y hy h0)]
theorem keepO {w w' : World} {g b o : Nat} {v : Value} (h : Only w w' g) (hb : b ≠ g) (hc : w.cell? ⟨b, o, none⟩ = some v) : w'.cell? ⟨b, o, none⟩ = some v :=
  (World.cell?_of_block (h.block b (World.block_lt_of_cell? w _ hc) (fun e => hb (by injection e)))).trans hc
/-- The arguments up to one are made one. -/
def EqI (X : UC) (b : Int → Option Tm) (us ss : List Tm) (k : Nat) (w : World) : Prop :=
  ∃ b' σ' r', X.H b' w ∧ Tri X.ar b' σ' r' ∧ (∀ θ, Sol θ b' ↔ Sol θ b ∧ ∀ (j : Nat) (a c : Tm), j < k → us[j]? = some a → ss[j]? = some c → a.sub θ = c.sub θ) ∧ (b' = b ∨ cnt b' < cnt b)
/-- What making two terms one does. -/
def EqR (X : UC) (b : Int → Option Tm) (s t : Tm) (w : World) (e : Ending) (w' : World) : Prop :=
  Only w w' X.g ∧ ((e = .returned (.tuple #[]) ∧ ∃ b' σ' r', X.H b' w' ∧ Tri X.ar b' σ' r' ∧ (∀ θ, Sol θ b' ↔ Sol θ b ∧ s.sub θ = t.sub θ) ∧ (b' = b ∨ cnt b' < cnt b)) ∨
    (e = .panicked [{ v := .iface 120 (.agg #[]), recovered := false }] ∧ ∀ θ, Sol θ b → s.sub θ ≠ t.sub θ))
def EqAt (X : UC) (n s : Nat) : Prop := ∀ (b : Int → Option Tm) (σ : Int → Tm) (r : Int → Nat) (ta tb : Tm) (va vb : Value) (w : World), cnt b = n → (ta.sub σ).flat.length = s → Tri X.ar b σ r → X.H b w → TT X.ar w X.g va ta → TT X.ar w X.g vb tb →
  Calls Try.prog 90 #[.pointer (some ⟨X.g, 0, none⟩), va, vb] w (EqR X b ta tb w)
theorem EqAt.out {X : UC} {n s : Nat} (h : EqAt X n s) {b : Int → Option Tm} {σ : Int → Tm} {r : Int → Nat} {ta tb : Tm} {va vb : Value} {w : World} (hn : cnt b = n) (hsz : (ta.sub σ).flat.length = s) (hT : Tri X.ar b σ r) (hH : X.H b w) (ha : TT X.ar w X.g va ta) (hb : TT X.ar w X.g vb tb) :
    Calls Try.prog 90 #[.pointer (some ⟨X.g, 0, none⟩), va, vb] w (EqR X b ta tb w) := h b σ r ta tb va vb w hn hsz hT hH ha hb
theorem EqR.bind {X : UC} {b : Int → Option Tm} {σ : Int → Tm} {r : Int → Nat} {s t u : Tm} {x : Int} {w w' : World} (hT : Tri X.ar b σ r) (hx : x < 0) (h48 : -48 ≤ x) (hbx : b x = none) (hu : u.Ok X.ar) (hd : ∀ y ∈ u.flat, -48 ≤ y) (hn : ¬ x ∈ (u.sub σ).flat)
    (he : ∀ θ, Sol θ b → (s.sub θ = t.sub θ ↔ θ x = u.sub θ)) (hO : Only w w' X.g) (hH : X.H (setB b x u) w') : EqR X b s t w (.returned (.tuple #[])) w' := by
  obtain ⟨σ', r', h1, _⟩ := hT.bind hx hbx hu hd hn
  exact ⟨hO, .inl ⟨rfl, _, σ', r', hH, h1, fun θ => (sol_bind hbx).trans ⟨fun h => ⟨h.1, (he θ h.1).2 h.2⟩, fun h => ⟨h.1, (he θ h.1).1 h.2⟩⟩, .inr (cnt_set hx h48 hbx)⟩⟩
theorem seen_new (W : World) {g : Nat} {T : TypeId} (hg : g = W.heap.size) : Seen g (fun _ => false) (W.alloc (.cells #[.bool false, .bool false, .bool false, .bool false, .bool false, .bool false, .bool false, .bool false, .bool false, .bool false, .bool false, .bool false, .bool false, .bool false, .bool false, .bool false, .bool false, .bool false, .bool false, .bool false, .bool false, .bool false, .bool false, .bool false, .bool false, .bool false, .bool false, .bool false, .bool false, .bool false, .bool false, .bool false, .bool false, .bool false, .bool false, .bool false, .bool false, .bool false, .bool false, .bool false, .bool false, .bool false, .bool false, .bool false, .bool false, .bool false, .bool false, .bool false] T)) := by
  subst hg
  have e : (#[.bool false, .bool false, .bool false, .bool false, .bool false, .bool false, .bool false, .bool false, .bool false, .bool false, .bool false, .bool false, .bool false, .bool false, .bool false, .bool false, .bool false, .bool false, .bool false, .bool false, .bool false, .bool false, .bool false, .bool false, .bool false, .bool false, .bool false, .bool false, .bool false, .bool false, .bool false, .bool false, .bool false, .bool false, .bool false, .bool false, .bool false, .bool false, .bool false, .bool false, .bool false, .bool false, .bool false, .bool false, .bool false, .bool false, .bool false, .bool false] : Array Value) = Array.replicate 48 (.bool false) := by rfl
  rw [e]
  have hh : (W.alloc (.cells (Array.replicate 48 (.bool false)) T)).heap[W.heap.size]? = some (.cells (Array.replicate 48 (.bool false)) T (0, 0)) := heap_alloc_new W _
  refine ⟨fun k hk => ?_, fun o => frozen_of_row _ _ _ _ _ hh⟩
  rw [cell_of_row _ _ k _ _ (0, 0) hh, Array.getElem?_replicate, if_pos hk]
set_option maxRecDepth 100000 in
set_option maxHeartbeats 8000000 in
theorem c_equate {X : UC} (hs : SigP X.ar) (n s : Nat) (ih1 : ∀ n', n' < n → ∀ s', EqAt X n' s') (ih2 : ∀ s', s' < s → EqAt X n s') : EqAt X n s := by
  intro b σ r ta tb va vb w hn hsz hT hH ha hb
  have HT := Lib.hid hT
  have HH := Lib.hid hH
  have HA := Lib.hid ha
  have HB := Lib.hid hb
  have HS := Lib.hid hs
  have HI1 := Lib.hid ih1
  have HI2 := Lib.hid ih2
  have HN := Lib.hid hn
  have HSZ := Lib.hid hsz
  have hgl := hH.lt
  clear hT hH ha hb hs ih1 ih2 hn hsz
  go_enter Try.func90, Try.ntmps90
  go_wp2_with fail
  (with_reducible refine (c_root HT.out HH.out HA.out).mono ?_)
  rintro e w1 ⟨va', x, us, rfl, hA1, hR1, hf1, hE1⟩
  go_wp2_with fail
  (with_reducible refine (c_root HT.out (HH.out.ext hE1) (HB.out.ext hE1)).mono ?_)
  rintro e w2 ⟨vb', y, ss, rfl, hB2, hR2, hf2, hE2⟩
  have hE : Ext w w2 := Ext.trans hE1 hE2
  have HA2 := Lib.hid (hA1.ext hE2)
  have HB2 := Lib.hid hB2
  have HR1 := Lib.hid hR1
  have HR2 := Lib.hid hR2
  have HF1 := Lib.hid hf1
  have HF2 := Lib.hid hf2
  have HH2 := Lib.hid (HH.out.ext hE)
  have HE := Lib.hid hE
  obtain ⟨b1, o1, n1, c1, rfl, hn1, hx1, hg1, hl1⟩ := HA2.out.ts.first
  obtain ⟨b2, o2, n2, c2, rfl, hn2, hx2, hg2, hl2⟩ := HB2.out.ts.first
  have hn1' : 0 < n1 := by omega
  have hn2' : 0 < n2 := by omega
  clear hA1 hB2 hR1 hR2 hf1 hf2 hE1 hE2 hE
  by_cases hxy : x = y
  · by_cases hx0 : x < 0
    · subst hxy
      have hd1 : (x == x) = true := by simp
      have hd2 : decide (x < 0) = true := by simpa using hx0
      have HX := Lib.hid hx0
      have HQ := Lib.hid (show ∀ θ, Sol θ b → ta.sub θ = tb.sub θ from fun θ h => by rw [HR1.out θ h, HR2.out θ h, ok_var HA2.out.ok hx0, ok_var HB2.out.ok hx0])
      clear hx0
      go_wp2_with fail
      go_quiet (fail)
      go_wp2
      refine bodyPost_ret (results_none rfl _ _ _) rfl ?_
      exact ⟨Only.of_ext (Ext.trans HE.out (by exact extX)) _, .inl ⟨rfl, b, σ, r, HH2.out.ext (by exact extX), HT.out, fun θ => ⟨fun h => ⟨h, HQ.out θ h⟩, fun h => h.1⟩, .inl rfl⟩⟩
    · subst hxy
      have hd1 : (x == x) = true := by simp
      have hd2 : decide (x < 0) = false := by simpa using hx0
      have hd3 : (x != x) = false := by simp
      have hll : us.length = ss.length := by
        have e1 := (Ok_node.1 HA2.out.ok).1
        rw [(Ok_node.1 HB2.out.ok).1] at e1
        injection e1 with e1; exact e1.symm
      have hal : us.length ≤ 3 := arI_le HS.out (Ok_node.1 HA2.out.ok).1
      have HLL := Lib.hid hll
      have HX := Lib.hid hx0
      have HAR := Lib.hid (show ∀ θ : Int → Tm, (Tm.node x us).sub θ = (Tm.node x ss).sub θ ↔ ∀ (j : Nat) (a c : Tm), us[j]? = some a → ss[j]? = some c → a.sub θ = c.sub θ from fun θ => args_sub (by omega) hll)
      have hg2l : X.g < w2.heap.size := HH2.out.lt
      clear hx0 hll
      go_wp2_with fail
      go_quiet (fail)
      go_wp2_with fail
      go_quiet (fail)
      go_wp2_with fail
      go_quiet (fail)
      go_wp2_with fail
      generalize hw3 : World.drewN _ _ = w3
      have hE3 : Ext w2 w3 := by rw [← hw3]; exact extX
      have c03 : w3.cell? ⟨X.g, 0, none⟩ = some (.slice (some ⟨X.sb, X.so, none⟩) X.n X.c) := (HH2.out.ext hE3).c0
      have hg3 : X.g < w3.heap.size := (HH2.out.ext hE3).lt
      have HE3 := Lib.hid hE3
      clear hw3 hE3
      refine wp_region_held_drew (S := (fun w' => Ext w3 w' ∧ w'.cell? ⟨X.g, 0, none⟩ = some (.slice (some ⟨X.sb, X.so, none⟩) X.n X.c))) (by kernel_rfl) ?_ (fun hH => ?_)
      · exact ⟨(Ext.refl w3).drew, c03⟩
      refine wpAnyH_take_dst (i := 0) (v := .pointer (some ⟨X.g, 0, none⟩)) (d := some 87) rfl rfl (by kernel_rfl) (by kernel_rfl) (by kernel_rfl) (fun _ _ _ h => h) (Or.inl ⟨by rfl, ?_⟩) hH ?_
      · (intro w hSw; (try dsimp only at hSw); go_split_ands; go_simp; try with_reducible rfl)
      try simp only [Act.put, List.setIfInBounds_toArray, List.set_cons_zero, List.set_cons_succ]
      refine wpAnyH_take_dst (i := 1) (v := .pointer (some ⟨X.g, 0, none⟩)) (d := some 88) rfl rfl (by kernel_rfl) (by kernel_rfl) (by kernel_rfl) (fun _ _ _ h => h) (Or.inl ⟨by rfl, ?_⟩) hH ?_
      · (intro w hSw; (try dsimp only at hSw); go_split_ands; go_simp; try with_reducible rfl)
      try simp only [Act.put, List.setIfInBounds_toArray, List.set_cons_zero, List.set_cons_succ]
      refine wpAnyH_take_dst (i := 2) (v := .pointer (some ⟨X.g, 0, none⟩)) (d := some 89) rfl rfl (by kernel_rfl) (by kernel_rfl) (by kernel_rfl) (fun _ _ _ h => h) (Or.inl ⟨by rfl, ?_⟩) hH ?_
      · (intro w hSw; (try dsimp only at hSw); go_split_ands; go_simp; try with_reducible rfl)
      try simp only [Act.put, List.setIfInBounds_toArray, List.set_cons_zero, List.set_cons_succ]
      refine wpAnyH_take_dst (i := 3) (v := .agg #[.slice (some ⟨X.sb, X.so, none⟩) X.n X.c]) (d := some 90) rfl rfl (by kernel_rfl) (by kernel_rfl) (by kernel_rfl) (fun _ _ _ h => h) (Or.inl ⟨by rfl, ?_⟩) hH ?_
      · (intro w hSw; (try dsimp only at hSw); go_split_ands; go_simp; try with_reducible rfl)
      try simp only [Act.put, List.setIfInBounds_toArray, List.set_cons_zero, List.set_cons_succ]
      refine wpAnyH_take_dst (i := 4) (v := .slice (some ⟨b1, o1, none⟩) n1 c1) (d := some 91) rfl rfl (by kernel_rfl) (by kernel_rfl) (by kernel_rfl) (fun _ _ _ h => h) (Or.inl ⟨by rfl, ?_⟩) hH ?_
      · (intro w hSw; (try dsimp only at hSw); go_split_ands; go_simp; try with_reducible rfl)
      try simp only [Act.put, List.setIfInBounds_toArray, List.set_cons_zero, List.set_cons_succ]
      refine wpAnyH_take_dst (i := 6) (v := .pointer (some ⟨X.g, 0, none⟩)) (d := some 93) rfl rfl (by kernel_rfl) (by kernel_rfl) (by kernel_rfl) (fun _ _ _ h => h) (Or.inl ⟨by rfl, ?_⟩) hH ?_
      · (intro w hSw; (try dsimp only at hSw); go_split_ands; go_simp; try with_reducible rfl)
      try simp only [Act.put, List.setIfInBounds_toArray, List.set_cons_zero, List.set_cons_succ]
      refine wpAnyH_take_dst (i := 7) (v := .pointer (some ⟨X.g, 0, none⟩)) (d := some 94) rfl rfl (by kernel_rfl) (by kernel_rfl) (by kernel_rfl) (fun _ _ _ h => h) (Or.inl ⟨by rfl, ?_⟩) hH ?_
      · (intro w hSw; (try dsimp only at hSw); go_split_ands; go_simp; try with_reducible rfl)
      try simp only [Act.put, List.setIfInBounds_toArray, List.set_cons_zero, List.set_cons_succ]
      refine wpAnyH_take_dst (i := 8) (v := .pointer (some ⟨X.g, 0, none⟩)) (d := some 95) rfl rfl (by kernel_rfl) (by kernel_rfl) (by kernel_rfl) (fun _ _ _ h => h) (Or.inl ⟨by rfl, ?_⟩) hH ?_
      · (intro w hSw; (try dsimp only at hSw); go_split_ands; go_simp; try with_reducible rfl)
      try simp only [Act.put, List.setIfInBounds_toArray, List.set_cons_zero, List.set_cons_succ]
      refine wpAnyH_take_dst (i := 9) (v := .agg #[.slice (some ⟨X.sb, X.so, none⟩) X.n X.c]) (d := some 96) rfl rfl (by kernel_rfl) (by kernel_rfl) (by kernel_rfl) (fun _ _ _ h => h) (Or.inl ⟨by rfl, ?_⟩) hH ?_
      · (intro w hSw; (try dsimp only at hSw); go_split_ands; go_simp; try with_reducible rfl)
      try simp only [Act.put, List.setIfInBounds_toArray, List.set_cons_zero, List.set_cons_succ]
      refine wpAnyH_take_dst (i := 10) (v := .slice (some ⟨b2, o2, none⟩) n2 c2) (d := some 97) rfl rfl (by kernel_rfl) (by kernel_rfl) (by kernel_rfl) (fun _ _ _ h => h) (Or.inl ⟨by rfl, ?_⟩) hH ?_
      · (intro w hSw; (try dsimp only at hSw); go_split_ands; go_simp; try with_reducible rfl)
      try simp only [Act.put, List.setIfInBounds_toArray, List.set_cons_zero, List.set_cons_succ]
      refine wpAnyH_ready (rs := [5]) (by kernel_rfl) (by simp) ?_
      refine AllReadyH.cons rfl (fun K hK => ?_) AllReadyH.nil
      rw [if_pos (by rfl)]
      go_wp2_with (go_at_call 107; (with_reducible refine ((c_argsAtU (g := X.g) (HH2.out.ext (Ext.trans HE3.out hH.1)).sig (HA2.out.ts.rd.ext (Ext.trans HE3.out hH.1)) HS.out HA2.out.ok (by have := hH.1.size; omega))).mono ?_); rintro e w5 ⟨A5, c5, rfl, hr5, hE9, hb5⟩)
      refine hK.out _ _ ⟨Ext.trans hH.1 hE9, Ext.keep hE9 hH.2⟩ (fun hH9 => ?_)
      clear hK hH; have hH := hH9; clear hH9
      try simp only [Act.put, List.setIfInBounds_toArray, List.set_cons_zero, List.set_cons_succ]
      refine wpAnyH_ready (rs := [11]) (by kernel_rfl) (by simp) ?_
      refine AllReadyH.cons rfl (fun K hK => ?_) AllReadyH.nil
      rw [if_pos (by rfl)]
      go_wp2_with (go_at_call 107; (with_reducible refine ((c_argsAtU (g := X.g) (HH2.out.ext (Ext.trans HE3.out hH.1)).sig (HB2.out.ts.rd.ext (Ext.trans HE3.out hH.1)) HS.out HB2.out.ok (by have := hH.1.size; omega))).mono ?_); rintro e w6 ⟨A6, c6, rfl, hr6, hE9, hb6⟩)
      refine hK.out _ _ ⟨Ext.trans hH.1 hE9, Ext.keep hE9 hH.2⟩ (fun hH9 => ?_)
      clear hK hH; have hH := hH9; clear hH9
      try simp only [Act.put, List.setIfInBounds_toArray, List.set_cons_zero, List.set_cons_succ]
      refine wpAnyH_take_dst (i := 12) (v := .slice A5 us.length c5) (d := some 6) rfl rfl (by kernel_rfl) (by kernel_rfl) (by kernel_rfl) (fun _ _ _ h => h) (Or.inl ⟨by rfl, ?_⟩) hH ?_
      · (intro w hSw; (try dsimp only at hSw); go_split_ands; go_simp; try with_reducible rfl)
      try simp only [Act.put, List.setIfInBounds_toArray, List.set_cons_zero, List.set_cons_succ]
      refine wpAnyH_take_dst (i := 13) (v := .slice A6 ss.length c6) (d := some 7) rfl rfl (by kernel_rfl) (by kernel_rfl) (by kernel_rfl) (fun _ _ _ h => h) (Or.inl ⟨by rfl, ?_⟩) hH ?_
      · (intro w hSw; (try dsimp only at hSw); go_split_ands; go_simp; try with_reducible rfl)
      try simp only [Act.put, List.setIfInBounds_toArray, List.set_cons_zero, List.set_cons_succ]
      refine wpAnyH_done (by kernel_rfl) ?_ _
      have hEab : Ext w2 w6 := Ext.trans HE3.out hH.1
      have hr5' : RI w6 A5 us.length (starts 1 us) := RI.ext hr5 hE9
      have HR5 := Lib.hid hr5'
      have HR6 := Lib.hid hr6
      have HB5 := Lib.hid hb5
      have HB6 := Lib.hid hb6
      have HA6 := Lib.hid (HA2.out.ext hEab)
      have HBB6 := Lib.hid (HB2.out.ext hEab)
      have HH6 := Lib.hid (HH2.out.ext hEab)
      have HW6 := Lib.hid (Ext.trans HE.out hEab)
      clear hEab hr5' hr5 hr6 hb5 hb6 hH hx1 hx2 c03 hg3 HE3 hE9
      go_wp2_with fail
      go_loopw [101] (fun i wr => ∃ k : Nat, i = .int .i64 k ∧ k ≤ us.length ∧ Hid (Only w6 wr X.g) ∧ Hid (EqI X b us ss k wr)) (fun i _ => us.length - (intOf i).toNat)
      case atStart => exact ⟨0, rfl, Nat.zero_le _, Lib.hid (Only.refl _ _), Lib.hid ⟨b, σ, r, HH6.out.ext (by exact extX), HT.out, fun θ => ⟨fun h => ⟨h, fun j a c hj => by omega⟩, fun h => h.1⟩, .inl rfl⟩⟩
      case round =>
        obtain ⟨k, rfl, hk, hO, hI⟩ := hrel
        obtain ⟨b', σ', r', hH', hT', hs', hb'⟩ := hI.out
        have HH' := Lib.hid hH'
        have HT' := Lib.hid hT'
        have HS' := Lib.hid hs'
        have HB' := Lib.hid hb'
        clear hI hH' hT' hs' hb'
        by_cases hlt : k < us.length
        · obtain ⟨a, hak⟩ : ∃ a, us[k]? = some a := ⟨_, List.getElem?_eq_getElem hlt⟩
          have hlt2 : k < ss.length := by rw [← HLL.out]; exact hlt
          obtain ⟨c, hck⟩ : ∃ c, ss[k]? = some c := ⟨_, List.getElem?_eq_getElem hlt2⟩
          obtain ⟨pb, po, z1, rfl, hz1, hcp⟩ := RI.at_ (RI.only HR5.out hO.out fun b o s e _ => HB5.out b o s e) hlt
          obtain ⟨qb, qo, z2, rfl, hz2, hcq⟩ := RI.at_ (RI.only HR6.out hO.out fun b o s e _ => HB6.out b o s e) hlt2
          rw [starts_get hlt] at hz1
          rw [starts_get hlt2] at hz2
          injection hz1 with hz1; subst hz1
          injection hz2 with hz2; subst hz2
          have hpb : pb ≠ X.g := HB5.out _ _ _ rfl
          have hqb : qb ≠ X.g := HB6.out _ _ _ rfl
          have hda := drop_arg (x := x) (t := (Tm.node x us).flat) (p := 0) (rest := []) (by simp) hak
          have hdb := drop_arg (x := x) (t := (Tm.node x ss).flat) (p := 0) (rest := []) (by simp) hck
          rw [Nat.zero_add] at hda hdb
          have HDA := Lib.hid hda
          have HDB := Lib.hid hdb
          have ham := List.mem_of_getElem? hak
          have hcm := List.mem_of_getElem? hck
          have HAO := Lib.hid (OkL_iff.1 (Ok_node.1 HA6.out.ok).2 a ham)
          have HCO := Lib.hid (OkL_iff.1 (Ok_node.1 HBB6.out.ok).2 c hcm)
          have HAD := Lib.hid (show ∀ y ∈ a.flat, -48 ≤ y from fun y hy => HA6.out.dm y (by rw [flat_node]; exact List.mem_cons_of_mem _ (mem_flatL ham y hy)))
          have HCD := Lib.hid (show ∀ y ∈ c.flat, -48 ≤ y from fun y hy => HBB6.out.dm y (by rw [flat_node]; exact List.mem_cons_of_mem _ (mem_flatL hcm y hy)))
          have HC := Lib.hid (show EqAt X (cnt b') (a.sub σ').flat.length from by
            rcases HB'.out with rfl | h
            · rw [HN.out]
              refine HI2.out _ ?_
              rw [← HSZ.out, HR1.out σ HT.out.sol, sub_congr a HAO.out (fun y _ h0 => HT'.out.uniq HT.out h0)]
              exact arg_len (ar := X.ar) (by have := HX.out; omega) ham
            · exact HI1.out _ (by rw [← HN.out]; exact h) _)
          have HAK := Lib.hid hak
          have HCK := Lib.hid hck
          have HTA := Lib.hid (HA6.out.ts.only hO.out)
          have HTB := Lib.hid (HBB6.out.ts.only hO.out)
          obtain ⟨_, _, _, _, e1, hc1, _, hri1⟩ := HTA.out
          cases e1
          obtain ⟨_, _, _, _, e2, hc2, _, hri2⟩ := HTB.out
          cases e2
          have HC1 := Lib.hid hc1
          have HC2 := Lib.hid hc2
          have HRA := Lib.hid hri1
          have HRB := Lib.hid hri2
          clear hda hdb hak hck ham hcm hc1 hc2 hri1 hri2 HTA HTB
          have hj1 : (k : Int) < (us.length : Int) := by omega
          have hj2 : (k : Int) < (ss.length : Int) := by omega
          have hc0 := HH'.out.c0
          go_wp2_with fail
          refine wp_region_held_drew (S := (fun w' => Only wr w' X.g ∧ w'.cell? ⟨X.g, 0, none⟩ = some (.slice (some ⟨X.sb, X.so, none⟩) X.n X.c) ∧ w'.cell? ⟨pb, po + k, none⟩ = some (.int .i64 ((1 + (flatL (us.take k)).length : Nat) : Int)) ∧ w'.cell? ⟨qb, qo + k, none⟩ = some (.int .i64 ((1 + (flatL (ss.take k)).length : Nat) : Int)))) (by kernel_rfl) ?_ (fun hH => ?_)
          · exact ⟨Only.of_ext (Ext.refl wr).drew _, hc0, hcp, hcq⟩
          refine wpAnyH_take_dst (i := 0) (v := .pointer (some ⟨X.g, 0, none⟩)) (d := some 104) rfl rfl (by kernel_rfl) (by kernel_rfl) (by kernel_rfl) (fun _ _ _ h => h) (Or.inl ⟨by rfl, ?_⟩) hH ?_
          · (intro w hSw; (try dsimp only at hSw); go_split_ands; go_simp; try with_reducible rfl)
          try simp only [Act.put, List.setIfInBounds_toArray, List.set_cons_zero, List.set_cons_succ]
          refine wpAnyH_take_dst (i := 1) (v := .pointer (some ⟨X.g, 0, none⟩)) (d := some 105) rfl rfl (by kernel_rfl) (by kernel_rfl) (by kernel_rfl) (fun _ _ _ h => h) (Or.inl ⟨by rfl, ?_⟩) hH ?_
          · (intro w hSw; (try dsimp only at hSw); go_split_ands; go_simp; try with_reducible rfl)
          try simp only [Act.put, List.setIfInBounds_toArray, List.set_cons_zero, List.set_cons_succ]
          refine wpAnyH_take_dst (i := 2) (v := .pointer (some ⟨X.g, 0, none⟩)) (d := some 106) rfl rfl (by kernel_rfl) (by kernel_rfl) (by kernel_rfl) (fun _ _ _ h => h) (Or.inl ⟨by rfl, ?_⟩) hH ?_
          · (intro w hSw; (try dsimp only at hSw); go_split_ands; go_simp; try with_reducible rfl)
          try simp only [Act.put, List.setIfInBounds_toArray, List.set_cons_zero, List.set_cons_succ]
          refine wpAnyH_take_dst (i := 3) (v := .pointer (some ⟨X.g, 0, none⟩)) (d := some 107) rfl rfl (by kernel_rfl) (by kernel_rfl) (by kernel_rfl) (fun _ _ _ h => h) (Or.inl ⟨by rfl, ?_⟩) hH ?_
          · (intro w hSw; (try dsimp only at hSw); go_split_ands; go_simp; try with_reducible rfl)
          try simp only [Act.put, List.setIfInBounds_toArray, List.set_cons_zero, List.set_cons_succ]
          refine wpAnyH_take_dst (i := 4) (v := .agg #[.slice (some ⟨X.sb, X.so, none⟩) X.n X.c]) (d := some 108) rfl rfl (by kernel_rfl) (by kernel_rfl) (by kernel_rfl) (fun _ _ _ h => h) (Or.inl ⟨by rfl, ?_⟩) hH ?_
          · (intro w hSw; (try dsimp only at hSw); go_split_ands; go_simp; try with_reducible rfl)
          try simp only [Act.put, List.setIfInBounds_toArray, List.set_cons_zero, List.set_cons_succ]
          refine wpAnyH_take_dst (i := 5) (v := .slice (some ⟨b1, o1, none⟩) n1 c1) (d := some 109) rfl rfl (by kernel_rfl) (by kernel_rfl) (by kernel_rfl) (fun _ _ _ h => h) (Or.inl ⟨by rfl, ?_⟩) hH ?_
          · (intro w hSw; (try dsimp only at hSw); go_split_ands; go_simp; try with_reducible rfl)
          try simp only [Act.put, List.setIfInBounds_toArray, List.set_cons_zero, List.set_cons_succ]
          refine wpAnyH_take_dst (i := 6) (v := .slice (some ⟨pb, po, none⟩) us.length c5) (d := some 110) rfl rfl (by kernel_rfl) (by kernel_rfl) (by kernel_rfl) (fun _ _ _ h => h) (Or.inl ⟨by rfl, ?_⟩) hH ?_
          · (intro w hSw; (try dsimp only at hSw); go_split_ands; go_simp; try with_reducible rfl)
          try simp only [Act.put, List.setIfInBounds_toArray, List.set_cons_zero, List.set_cons_succ]
          refine wpAnyH_take_dst (i := 7) (v := .int .i64 (k : Int)) (d := some 111) rfl rfl (by kernel_rfl) (by kernel_rfl) (by kernel_rfl) (fun _ _ _ h => h) (Or.inl ⟨by rfl, ?_⟩) hH ?_
          · (intro w hSw; (try dsimp only at hSw); go_split_ands; go_simp; try with_reducible rfl)
          try simp only [Act.put, List.setIfInBounds_toArray, List.set_cons_zero, List.set_cons_succ]
          refine wpAnyH_take_dst (i := 8) (v := .pointer (some ⟨pb, po + k, none⟩)) (d := some 112) rfl rfl (by kernel_rfl) (by kernel_rfl) (by kernel_rfl) (fun _ _ _ h => h) (Or.inl ⟨by rfl, ?_⟩) hH ?_
          · (intro w hSw; (try dsimp only at hSw); go_split_ands; go_simp; try with_reducible rfl)
          try simp only [Act.put, List.setIfInBounds_toArray, List.set_cons_zero, List.set_cons_succ]
          refine wpAnyH_take_dst (i := 9) (v := .int .i64 ((1 + (flatL (us.take k)).length : Nat) : Int)) (d := some 113) rfl rfl (by kernel_rfl) (by kernel_rfl) (by kernel_rfl) (fun _ _ _ h => h) (Or.inl ⟨by rfl, ?_⟩) hH ?_
          · (intro w hSw; (try dsimp only at hSw); go_split_ands; go_simp; try with_reducible rfl)
          try simp only [Act.put, List.setIfInBounds_toArray, List.set_cons_zero, List.set_cons_succ]
          refine wpAnyH_take_dst (i := 11) (v := .pointer (some ⟨X.g, 0, none⟩)) (d := some 115) rfl rfl (by kernel_rfl) (by kernel_rfl) (by kernel_rfl) (fun _ _ _ h => h) (Or.inl ⟨by rfl, ?_⟩) hH ?_
          · (intro w hSw; (try dsimp only at hSw); go_split_ands; go_simp; try with_reducible rfl)
          try simp only [Act.put, List.setIfInBounds_toArray, List.set_cons_zero, List.set_cons_succ]
          refine wpAnyH_take_dst (i := 12) (v := .pointer (some ⟨X.g, 0, none⟩)) (d := some 116) rfl rfl (by kernel_rfl) (by kernel_rfl) (by kernel_rfl) (fun _ _ _ h => h) (Or.inl ⟨by rfl, ?_⟩) hH ?_
          · (intro w hSw; (try dsimp only at hSw); go_split_ands; go_simp; try with_reducible rfl)
          try simp only [Act.put, List.setIfInBounds_toArray, List.set_cons_zero, List.set_cons_succ]
          refine wpAnyH_take_dst (i := 13) (v := .pointer (some ⟨X.g, 0, none⟩)) (d := some 117) rfl rfl (by kernel_rfl) (by kernel_rfl) (by kernel_rfl) (fun _ _ _ h => h) (Or.inl ⟨by rfl, ?_⟩) hH ?_
          · (intro w hSw; (try dsimp only at hSw); go_split_ands; go_simp; try with_reducible rfl)
          try simp only [Act.put, List.setIfInBounds_toArray, List.set_cons_zero, List.set_cons_succ]
          refine wpAnyH_take_dst (i := 14) (v := .agg #[.slice (some ⟨X.sb, X.so, none⟩) X.n X.c]) (d := some 118) rfl rfl (by kernel_rfl) (by kernel_rfl) (by kernel_rfl) (fun _ _ _ h => h) (Or.inl ⟨by rfl, ?_⟩) hH ?_
          · (intro w hSw; (try dsimp only at hSw); go_split_ands; go_simp; try with_reducible rfl)
          try simp only [Act.put, List.setIfInBounds_toArray, List.set_cons_zero, List.set_cons_succ]
          refine wpAnyH_take_dst (i := 15) (v := .slice (some ⟨b2, o2, none⟩) n2 c2) (d := some 119) rfl rfl (by kernel_rfl) (by kernel_rfl) (by kernel_rfl) (fun _ _ _ h => h) (Or.inl ⟨by rfl, ?_⟩) hH ?_
          · (intro w hSw; (try dsimp only at hSw); go_split_ands; go_simp; try with_reducible rfl)
          try simp only [Act.put, List.setIfInBounds_toArray, List.set_cons_zero, List.set_cons_succ]
          refine wpAnyH_take_dst (i := 16) (v := .slice (some ⟨qb, qo, none⟩) ss.length c6) (d := some 120) rfl rfl (by kernel_rfl) (by kernel_rfl) (by kernel_rfl) (fun _ _ _ h => h) (Or.inl ⟨by rfl, ?_⟩) hH ?_
          · (intro w hSw; (try dsimp only at hSw); go_split_ands; go_simp; try with_reducible rfl)
          try simp only [Act.put, List.setIfInBounds_toArray, List.set_cons_zero, List.set_cons_succ]
          refine wpAnyH_take_dst (i := 17) (v := .int .i64 (k : Int)) (d := some 121) rfl rfl (by kernel_rfl) (by kernel_rfl) (by kernel_rfl) (fun _ _ _ h => h) (Or.inl ⟨by rfl, ?_⟩) hH ?_
          · (intro w hSw; (try dsimp only at hSw); go_split_ands; go_simp; try with_reducible rfl)
          try simp only [Act.put, List.setIfInBounds_toArray, List.set_cons_zero, List.set_cons_succ]
          refine wpAnyH_take_dst (i := 18) (v := .pointer (some ⟨qb, qo + k, none⟩)) (d := some 122) rfl rfl (by kernel_rfl) (by kernel_rfl) (by kernel_rfl) (fun _ _ _ h => h) (Or.inl ⟨by rfl, ?_⟩) hH ?_
          · (intro w hSw; (try dsimp only at hSw); go_split_ands; go_simp; try with_reducible rfl)
          try simp only [Act.put, List.setIfInBounds_toArray, List.set_cons_zero, List.set_cons_succ]
          refine wpAnyH_take_dst (i := 19) (v := .int .i64 ((1 + (flatL (ss.take k)).length : Nat) : Int)) (d := some 123) rfl rfl (by kernel_rfl) (by kernel_rfl) (by kernel_rfl) (fun _ _ _ h => h) (Or.inl ⟨by rfl, ?_⟩) hH ?_
          · (intro w hSw; (try dsimp only at hSw); go_split_ands; go_simp; try with_reducible rfl)
          try simp only [Act.put, List.setIfInBounds_toArray, List.set_cons_zero, List.set_cons_succ]
          refine wpAnyH_ready (rs := [10]) (by kernel_rfl) (by simp) ?_
          refine AllReadyH.cons rfl (fun K hK => ?_) AllReadyH.nil
          rw [if_pos (by rfl)]
          go_wp2_with (go_at_call 84; (with_reducible refine ((c_subAtP (g := X.g) (u := a) (RdSig.mk (RI.only HH'.out.a hH.1 fun b' o' s' e _ => by cases e; exact HH'.out.na)) rfl HC1.out hg1 (RI.only HRA.out hH.1 fun b' o' s' e _ => by cases e; exact hg1) HS.out HAO.out HDA.out (by omega))).mono ?_); rintro e w7 ⟨v7, rfl, ht7, hE9⟩)
          refine hK.out _ _ ⟨Only.trans hH.1 (Only.of_ext hE9 _), Ext.keep hE9 hH.2.1, Ext.keep hE9 hH.2.2.1, Ext.keep hE9 hH.2.2.2⟩ (fun hH9 => ?_)
          clear hK hH; have hH := hH9; clear hH9
          try simp only [Act.put, List.setIfInBounds_toArray, List.set_cons_zero, List.set_cons_succ]
          refine wpAnyH_ready (rs := [20]) (by kernel_rfl) (by simp) ?_
          refine AllReadyH.cons rfl (fun K hK => ?_) AllReadyH.nil
          rw [if_pos (by rfl)]
          go_wp2_with (go_at_call 84; (with_reducible refine ((c_subAtP (g := X.g) (u := c) (RdSig.mk (RI.only HH'.out.a hH.1 fun b' o' s' e _ => by cases e; exact HH'.out.na)) rfl HC2.out hg2 (RI.only HRB.out hH.1 fun b' o' s' e _ => by cases e; exact hg2) HS.out HCO.out HDB.out (by omega))).mono ?_); rintro e w8 ⟨v8, rfl, ht8, hE9⟩)
          refine hK.out _ _ ⟨Only.trans hH.1 (Only.of_ext hE9 _), Ext.keep hE9 hH.2.1, Ext.keep hE9 hH.2.2.1, Ext.keep hE9 hH.2.2.2⟩ (fun hH9 => ?_)
          clear hK hH; have hH := hH9; clear hH9
          try simp only [Act.put, List.setIfInBounds_toArray, List.set_cons_zero, List.set_cons_succ]
          refine wpAnyH_ready (rs := [21]) (by kernel_rfl) (by simp) ?_
          refine AllReadyH.cons rfl (fun K hK => ?_) AllReadyH.nil
          rw [if_pos (by rfl)]
          go_wp2_with (go_at_call 90; (with_reducible refine ((HC.out.out rfl rfl HT'.out (HH'.out.ext (Ext.trans (Ext.drew (Ext.refl _)) (Ext.trans ‹Ext wr.drew w7› hE9))) ⟨ht7.ext hE9, HAO.out, HAD.out⟩ ⟨ht8, HCO.out, HCD.out⟩)).mono ?_); rintro e w9 ⟨hO9, ⟨rfl, b9, σ9, r9, hH9, hT9, hs9, hb9⟩ | ⟨rfl, hn9⟩⟩)
          · refine hK.out _ _ ⟨Only.trans hH.1 hO9, hH9.c0, keepO hO9 hpb hH.2.2.1, keepO hO9 hqb hH.2.2.2⟩ (fun hH0 => ?_)
            have HO9 := Lib.hid (Only.trans hH.1 hO9)
            have HH9 := Lib.hid hH9
            have HT9 := Lib.hid hT9
            have HB9 := Lib.hid hb9
            have HS9 := Lib.hid (show ∀ θ, Sol θ b9 ↔ Sol θ b ∧ ∀ (j : Nat) (a' c' : Tm), j < k + 1 → us[j]? = some a' → ss[j]? = some c' → a'.sub θ = c'.sub θ from fun θ => by
              rw [hs9 θ, HS'.out θ]
              constructor
              · rintro ⟨⟨h1, h2⟩, h3⟩
                refine ⟨h1, fun j a' c' hj ha' hc' => ?_⟩
                by_cases e : j = k
                · subst e; rw [HAK.out] at ha'; rw [HCK.out] at hc'; cases ha'; cases hc'; exact h3
                · exact h2 j a' c' (by omega) ha' hc'
              · rintro ⟨h1, h2⟩
                exact ⟨⟨h1, fun j a' c' hj => h2 j a' c' (by omega)⟩, h2 k a c (by omega) HAK.out HCK.out⟩)
            clear hK hH hH0 hO9 hH9 hT9 hs9 hb9 ht7 ht8 hcp hcq hc0
            refine wpAnyH_done (by kernel_rfl) ?_ _
            go_wp2
            refine ⟨⟨k + 1, by go_num, by omega, Lib.hid (Only.trans hO.out HO9.out), Lib.hid ⟨b9, σ9, r9, HH9.out.ext (by exact extX), HT9.out, HS9.out, ?_⟩⟩, by simp only [intOf]; omega⟩
            rcases HB9.out with rfl | h9
            · exact HB'.out
            · rcases HB'.out with rfl | h
              · exact .inr h9
              · exact .inr (by omega)
          · exact ⟨rfl, Only.trans (Only.of_ext HW6.out _) (Only.trans hO.out (Only.trans hH.1 hO9)), .inr ⟨rfl, fun θ h e => by
              have h1 := (HAR.out θ).1 (by rw [← HR1.out θ h, ← HR2.out θ h]; exact e)
              exact hn9 θ ((HS'.out θ).2 ⟨h, fun j a' c' _ => h1 j a' c'⟩) (h1 k a c HAK.out HCK.out)⟩⟩
        · have hkl : k = us.length := by omega
          go_wp2_with fail
          refine bodyPost_end (results_none rfl _ _ _) rfl ?_
          refine ⟨Only.trans (Only.of_ext HW6.out _) hO.out, .inl ⟨rfl, b', σ', r', HH'.out, HT'.out, fun θ => ?_, HB'.out⟩⟩
          rw [HS'.out θ]
          constructor
          · rintro ⟨h1, h2⟩
            refine ⟨h1, ?_⟩
            rw [HR1.out θ h1, HR2.out θ h1]
            exact (HAR.out θ).2 fun j a c ha' hc' => h2 j a c (by have := (List.getElem?_eq_some_iff.1 ha').1; omega) ha' hc'
          · rintro ⟨h1, h2⟩
            rw [HR1.out θ h1, HR2.out θ h1] at h2
            exact ⟨h1, fun j a c _ => (HAR.out θ).1 h2 j a c⟩
  · have hd1 : (x == y) = false := by simpa using hxy
    by_cases hx0 : x < 0
    · by_cases hy0 : y < 0
      · have hd2 : decide (y < 0) = true := by simpa using hy0
        have hd3 : decide (0 ≤ x) = false := by simp; omega
        by_cases hlt : y < x
        · have hd4 : decide (y < x) = true := by simpa using hlt
          go_wp2_with fail
          go_quiet (fail)
          go_wp2_with fail
          go_quiet (fail)
          go_wp2_with fail
          · have HM := Lib.hid (show ¬ y ∈ ((Tm.node x us).sub σ).flat by rw [ok_var HA2.out.ok hx0, vr_sub hx0, HT.out.unb x hx0 (HF1.out hx0), vr_flat]; simp; omega)
            go_wp2_with fail
            generalize hw4 : World.drewN _ _ = w4
            have HE4 := Lib.hid (show Ext w2 w4 by rw [← hw4]; exact extX)
            have hx4 := Ext.keep HE4.out hx2
            clear hw4
            have h48 : -48 ≤ y := HB2.out.dm y (by rw [flat_node]; exact List.mem_cons_self)
            obtain ⟨k, sv, hk, hk', hk48, hcs, _⟩ := (HH2.out.ext HE4.out).slot hy0 h48
            have hfr := (HH2.out.ext HE4.out).fr
            have hki : (k : Int) < 48 := by omega
            have hwk : IntKind.i64.wrap (k : Int) = (k : Int) := IntWalk.i64_in _ (by omega)
            have HK' := Lib.hid hk'
            clear hk'
            go_still_tail 9, (by kernel_rfl)
            change wpList _ _ _ _ _ w4.drew
            obtain ⟨w5, hw5⟩ : ∃ w5, w5 = w4.drew := ⟨_, rfl⟩
            have hE5 : Ext w2 w5 := by rw [hw5]; exact Ext.drew HE4.out
            have hcs5 : w5.cell? ⟨X.g, 1 + k, none⟩ = some sv := by rw [hw5]; exact hcs
            have hfr5 : w5.frozen? ⟨X.g, 1 + k, none⟩ = false := by rw [hw5]; exact hfr _
            rw [← hw5]
            clear hw5 hcs hfr
            have HE5 := Lib.hid hE5
            clear hE5
            go_wp2
            refine bodyPost_ret (results_none rfl _ _ _) rfl ?_
            exact EqR.bind HT.out hy0 h48 (HF2.out hy0) HA2.out.ok HA2.out.dm HM.out (fun θ h => by rw [HR1.out θ h, HR2.out θ h, ok_var HB2.out.ok hy0, vr_sub hy0]; exact eq_comm) (Only.trans (Only.of_ext (Ext.trans HE.out HE5.out) _) (Only.setCell _ _ _ _)) ((HH2.out.ext HE5.out).set hk48 HK'.out (HA2.out.ts.ext HE5.out))
        · have hd4 : decide (y < x) = false := by simpa using hlt
          go_wp2_with fail
          go_quiet (fail)
          go_wp2_with fail
          go_quiet (fail)
          go_wp2_with fail
          · have HM := Lib.hid (show ¬ x ∈ ((Tm.node y ss).sub σ).flat by rw [ok_var HB2.out.ok hy0, vr_sub hy0, HT.out.unb y hy0 (HF2.out hy0), vr_flat]; simp; omega)
            go_wp2_with fail
            generalize hw4 : World.drewN _ _ = w4
            have HE4 := Lib.hid (show Ext w2 w4 by rw [← hw4]; exact extX)
            have hx4 := Ext.keep HE4.out hx1
            clear hw4
            have h48 : -48 ≤ x := HA2.out.dm x (by rw [flat_node]; exact List.mem_cons_self)
            obtain ⟨k, sv, hk, hk', hk48, hcs, _⟩ := (HH2.out.ext HE4.out).slot hx0 h48
            have hfr := (HH2.out.ext HE4.out).fr
            have hki : (k : Int) < 48 := by omega
            have hwk : IntKind.i64.wrap (k : Int) = (k : Int) := IntWalk.i64_in _ (by omega)
            have HK' := Lib.hid hk'
            clear hk'
            go_still_tail 9, (by kernel_rfl)
            change wpList _ _ _ _ _ w4.drew
            obtain ⟨w5, hw5⟩ : ∃ w5, w5 = w4.drew := ⟨_, rfl⟩
            have hE5 : Ext w2 w5 := by rw [hw5]; exact Ext.drew HE4.out
            have hcs5 : w5.cell? ⟨X.g, 1 + k, none⟩ = some sv := by rw [hw5]; exact hcs
            have hfr5 : w5.frozen? ⟨X.g, 1 + k, none⟩ = false := by rw [hw5]; exact hfr _
            rw [← hw5]
            clear hw5 hcs hfr
            have HE5 := Lib.hid hE5
            clear hE5
            go_wp2
            refine bodyPost_ret (results_none rfl _ _ _) rfl ?_
            exact EqR.bind HT.out hx0 h48 (HF1.out hx0) HB2.out.ok HB2.out.dm HM.out (fun θ h => by rw [HR1.out θ h, HR2.out θ h, ok_var HA2.out.ok hx0, vr_sub hx0]) (Only.trans (Only.of_ext (Ext.trans HE.out HE5.out) _) (Only.setCell _ _ _ _)) ((HH2.out.ext HE5.out).set hk48 HK'.out (HB2.out.ts.ext HE5.out))
      · have hd2 : decide (y < 0) = false := by simpa using hy0
        have hd3 : decide (0 ≤ y) = true := by simpa using hy0
        go_wp2_with fail
        go_quiet (fail)
        go_wp2_with fail
        go_quiet (fail)
        go_wp2_with fail
        (with_reducible refine (c_occurs0 (w0 := w2) HT.out hx0 (HF1.out hx0) HH2.out (Nat.le_refl _) HB2.out ?_ (seen_new _ ?_)).mono ?_)
        · exact extX
        · simp [go_sem]
        rintro e w4 ⟨hE4, ⟨rfl, hm⟩ | ⟨rfl, hm⟩⟩
        · have HM := Lib.hid (fun θ (h : Sol θ b) => HT.out.occ hx0 (by omega) HB2.out.ok hm h)
          have HE4 := Lib.hid hE4
          clear hm hE4
          go_wp2
          exact ⟨rfl, Only.of_ext (Ext.trans HE.out HE4.out) _, .inr ⟨rfl, fun θ h e => HM.out θ h (by rw [← HR2.out θ h, ← e, HR1.out θ h, ok_var HA2.out.ok hx0, vr_sub hx0])⟩⟩
        · have HM := Lib.hid hm
          have HE4 := Lib.hid hE4
          have hx4 := Ext.keep hE4 hx1
          have h48 : -48 ≤ x := HA2.out.dm x (by rw [flat_node]; exact List.mem_cons_self)
          obtain ⟨k, sv, hk, hk', hk48, hcs, _⟩ := (HH2.out.ext hE4).slot hx0 h48
          have hfr := (HH2.out.ext hE4).fr
          clear hm hE4
          have hki : (k : Int) < 48 := by omega
          have hwk : IntKind.i64.wrap (k : Int) = (k : Int) := IntWalk.i64_in _ (by omega)
          have HK' := Lib.hid hk'
          clear hk'
          go_wp2_with fail
          go_still_tail 9, (by kernel_rfl)
          change wpList _ _ _ _ _ w4.drew
          obtain ⟨w5, hw5⟩ : ∃ w5, w5 = w4.drew := ⟨_, rfl⟩
          have hE5 : Ext w2 w5 := by rw [hw5]; exact Ext.drew HE4.out
          have hcs5 : w5.cell? ⟨X.g, 1 + k, none⟩ = some sv := by rw [hw5]; exact hcs
          have hfr5 : w5.frozen? ⟨X.g, 1 + k, none⟩ = false := by rw [hw5]; exact hfr _
          rw [← hw5]
          clear hw5 hcs hfr
          have HE5 := Lib.hid hE5
          clear hE5
          go_wp2
          refine bodyPost_ret (results_none rfl _ _ _) rfl ?_
          exact EqR.bind HT.out hx0 h48 (HF1.out hx0) HB2.out.ok HB2.out.dm HM.out (fun θ h => by rw [HR1.out θ h, HR2.out θ h, ok_var HA2.out.ok hx0, vr_sub hx0]) (Only.trans (Only.of_ext (Ext.trans HE.out HE5.out) _) (Only.setCell _ _ _ _)) ((HH2.out.ext HE5.out).set hk48 HK'.out (HB2.out.ts.ext HE5.out))
    · by_cases hy0 : y < 0
      · have hd2 : decide (y < 0) = true := by simpa using hy0
        have hd3 : decide (0 ≤ x) = true := by simpa using hx0
        go_wp2_with fail
        go_quiet (fail)
        go_wp2_with fail
        go_quiet (fail)
        go_wp2_with fail
        (with_reducible refine (c_occurs0 (w0 := w2) HT.out hy0 (HF2.out hy0) HH2.out (Nat.le_refl _) HA2.out ?_ (seen_new _ ?_)).mono ?_)
        · exact extX
        · simp [go_sem]
        rintro e w4 ⟨hE4, ⟨rfl, hm⟩ | ⟨rfl, hm⟩⟩
        · have HM := Lib.hid (fun θ (h : Sol θ b) => HT.out.occ hy0 (by omega) HA2.out.ok hm h)
          have HE4 := Lib.hid hE4
          clear hm hE4
          go_wp2
          exact ⟨rfl, Only.of_ext (Ext.trans HE.out HE4.out) _, .inr ⟨rfl, fun θ h e => HM.out θ h (by rw [← HR1.out θ h, e, HR2.out θ h, ok_var HB2.out.ok hy0, vr_sub hy0])⟩⟩
        · have HM := Lib.hid hm
          have HE4 := Lib.hid hE4
          have hx4 := Ext.keep hE4 hx2
          have h48 : -48 ≤ y := HB2.out.dm y (by rw [flat_node]; exact List.mem_cons_self)
          obtain ⟨k, sv, hk, hk', hk48, hcs, _⟩ := (HH2.out.ext hE4).slot hy0 h48
          have hfr := (HH2.out.ext hE4).fr
          clear hm hE4
          have hki : (k : Int) < 48 := by omega
          have hwk : IntKind.i64.wrap (k : Int) = (k : Int) := IntWalk.i64_in _ (by omega)
          have HK' := Lib.hid hk'
          clear hk'
          go_wp2_with fail
          go_still_tail 9, (by kernel_rfl)
          change wpList _ _ _ _ _ w4.drew
          obtain ⟨w5, hw5⟩ : ∃ w5, w5 = w4.drew := ⟨_, rfl⟩
          have hE5 : Ext w2 w5 := by rw [hw5]; exact Ext.drew HE4.out
          have hcs5 : w5.cell? ⟨X.g, 1 + k, none⟩ = some sv := by rw [hw5]; exact hcs
          have hfr5 : w5.frozen? ⟨X.g, 1 + k, none⟩ = false := by rw [hw5]; exact hfr _
          rw [← hw5]
          clear hw5 hcs hfr
          have HE5 := Lib.hid hE5
          clear hE5
          go_wp2
          refine bodyPost_ret (results_none rfl _ _ _) rfl ?_
          exact EqR.bind HT.out hy0 h48 (HF2.out hy0) HA2.out.ok HA2.out.dm HM.out (fun θ h => by rw [HR1.out θ h, HR2.out θ h, ok_var HB2.out.ok hy0, vr_sub hy0]; exact eq_comm) (Only.trans (Only.of_ext (Ext.trans HE.out HE5.out) _) (Only.setCell _ _ _ _)) ((HH2.out.ext HE5.out).set hk48 HK'.out (HA2.out.ts.ext HE5.out))
      · have hd2 : decide (y < 0) = false := by simpa using hy0
        have hd3 : decide (x < 0) = false := by simpa using hx0
        have hd4 : (x != y) = true := by simpa using hxy
        have HX := Lib.hid hx0
        have HY := Lib.hid hy0
        have HXY := Lib.hid hxy
        clear hx0 hy0 hxy
        go_wp2_with fail
        go_quiet (fail)
        go_wp2_with fail
        go_quiet (fail)
        go_wp2_with fail
        go_quiet (fail)
        go_wp2
        exact ⟨rfl, Only.of_ext (Ext.trans HE.out (by exact extX)) _, .inr ⟨rfl, fun θ h e => clash_sub (by have := HX.out; omega) (by have := HY.out; omega) HXY.out (by rw [← HR1.out θ h, ← HR2.out θ h]; exact e)⟩⟩
theorem eq_all {X : UC} (hs : SigP X.ar) : ∀ n s, EqAt X n s := by
  intro n
  induction n using Nat.strongRecOn with
  | _ n ih1 =>
    intro s
    induction s using Nat.strongRecOn with
    | _ s ih2 => exact c_equate hs n s (fun n' h s' => ih1 n' h s') ih2

/-! The program's unifier: a panic is caught. -/
theorem frozenO {w w' : World} {g b o : Nat} {v : Value} (h : Only w w' g) (hb : b ≠ g) (hc : w.cell? ⟨b, o, none⟩ = some v) (hf : w.frozen? ⟨b, o, none⟩ = false) : w'.frozen? ⟨b, o, none⟩ = false := by
  have h1 := h.block b (World.block_lt_of_cell? w _ hc) (fun e => hb (by injection e))
  unfold World.frozen? at hf ⊢
  rw [h1]; exact hf
theorem onlyNew {w w1 w2 : World} {g b : Nat} (h : Only w w1 g) (k : Only w1 w2 b) (hb : w.heap.size ≤ b) : Only w w2 g :=
  ⟨k.os.trans h.os, k.tape.trans h.tape, k.output.trans h.output, Nat.le_trans h.size k.size, fun i hi hne => (k.block i (Nat.lt_of_lt_of_le hi h.size) (fun e => by injection e; omega)).trans (h.block i hi hne)⟩
set_option maxRecDepth 100000 in
set_option maxHeartbeats 1000000 in
theorem d_catch {g : Nat} {c : Value} {w : World} (hc : w.cell? ⟨g, 0, none⟩ = some c) (hz : w.frozen? ⟨g, 0, none⟩ = false) :
    CallsD Try.prog 89 #[.pointer (some ⟨g, 0, none⟩)] (.panicking ({ v := .iface 120 (.agg #[]), recovered := false } :: [])) w fun e u' w' =>
      e = .returned (.tuple #[]) ∧ u' = .panicking ({ v := .iface 120 (.agg #[]), recovered := true } :: []) ∧ w'.cell? ⟨g, 0, none⟩ = some (.bool false) ∧ Only w w' g := by
  have hl : g < w.heap.size := World.block_lt_of_cell? w _ hc
  refine callsD_of_wpS Try.func89 rfl fun c₀ cs hu => ?_
  apply wpS_seq
  apply wpS_region
  simp [wpOpsS, go_sem, recoverD, hu, Try.ntmps89, Exit.thenS]
  simp only [Array.replicate_succ, Array.replicate_zero, List.push_toArray, List.append_toArray, List.nil_append, List.cons_append, List.setIfInBounds_toArray, List.set_cons_zero, List.set_cons_succ]
  refine wpS_of_wp ?_
  have hta : ∀ w : World, (Instr.typeAssert (.iface 120 (.agg #[])) 20 120 true).run Try.prog w = .ok (.tuple #[.agg #[], .bool true]) w := fun _ => by kernel_rfl
  go_wp2
  refine ⟨rfl, _, rfl, _, results_none rfl _ _ _, rfl, rfl, ?_, ?_⟩
  · exact Ext.keep (Ext.alloc (Ext.refl _) _) (World.cell?_setCell_same _ _ _ hc)
  · exact Only.trans (Only.setCell _ _ _ _) (Only.of_ext (Ext.alloc (Ext.refl _) _) _)
theorem d_idle {g : Nat} {w : World} :
    CallsD Try.prog 89 #[.pointer (some ⟨g, 0, none⟩)] .returning w fun e u' w' => e = .returned (.tuple #[]) ∧ u' = .returning ∧ w' = w := by
  refine callsD_of_wpS Try.func89 rfl fun c₀ cs hu => ?_
  apply wpS_seq
  apply wpS_region
  simp [wpOpsS, go_sem, recoverD, hu, Try.ntmps89, Exit.thenS]
  simp only [Array.replicate_succ, Array.replicate_zero, List.push_toArray, List.append_toArray, List.nil_append, List.cons_append, List.setIfInBounds_toArray, List.set_cons_zero, List.set_cons_succ]
  refine wpS_of_wp ?_
  go_wp2
  cases c₀
  simp_all [bodyPostS, results, Try.results89]
set_option maxRecDepth 100000 in
set_option maxHeartbeats 2000000 in
theorem c_solve {X : UC} {ta tb : Tm} {va vb : Value} {w : World} (hs : SigP X.ar) (hH : X.H (fun _ => none) w) (ha : TT X.ar w X.g va ta) (hb : TT X.ar w X.g vb tb) :
    Calls Try.prog 68 #[.pointer (some ⟨X.g, 0, none⟩), va, vb] w fun e w' => e = .returned (.bool (uniB ta tb)) ∧ Only w w' X.g := by
  have hmf : ∀ (fn : Fn) (first cap : Array Value) (w : World), (Instr.makeFunc fn first cap).run Try.prog w = .ok (.func fn first cap) w := fun _ _ _ _ => rfl
  have HS := Lib.hid hs
  have HH := Lib.hid hH
  have HA := Lib.hid ha
  have HB := Lib.hid hb
  have hgl := hH.lt
  clear hs hH ha hb
  go_enter_defers Try.func68, Try.ntmps68
  go_wp2_with fail
  have hE : Ext w (w.alloc (.cells #[.bool false] 4)) := Ext.alloc (Ext.refl _) _
  have hne : w.heap.size ≠ X.g := by omega
  have hne' : X.g ≠ w.heap.size := by omega
  obtain ⟨wa, hwa⟩ : ∃ wa, wa = w.alloc (.cells #[.bool false] 4) := ⟨_, rfl⟩
  rw [← hwa]
  have hE : Ext w wa := by rw [hwa]; exact hE
  have hc0 : wa.cell? ⟨w.heap.size, 0, none⟩ = some (.bool false) := by rw [hwa]; simp [go_sem]
  have hf0 : wa.frozen? ⟨w.heap.size, 0, none⟩ = false := by rw [hwa]; simp [go_sem]
  clear hwa
  (with_reducible refine ((eq_all HS.out _ _).out rfl rfl (Tri.start X.ar) (HH.out.ext hE) (HA.out.ext hE) (HB.out.ext hE)).mono ?_)
  rintro e w1 ⟨hO, ⟨rfl, b', σ', r', hH1, hT1, hs1, _⟩ | ⟨rfl, hn1⟩⟩
  · have hc1 := keepO hO hne hc0
    have hf1 : w1.frozen? ⟨w.heap.size, 0, none⟩ = false := frozenO hO hne hc0 hf0
    have hU := Lib.hid (uniB_t ((hs1 σ').1 hT1.sol).2)
    have HO := Lib.hid (Only.trans (Only.of_ext hE X.g) hO)
    clear hO hH1 hT1 hs1 hc0 hf0 hE
    go_wp2
    refine leaves_cons (f := 89) (args := #[.pointer (some ⟨w.heap.size, 0, none⟩)]) (by simp) (by simp [go_sem]) ?_
    refine d_idle.mono ?_
    rintro e u' w'' ⟨rfl, rfl, rfl⟩
    have hc2 : (w1.setCell ⟨w.heap.size, 0, none⟩ (.bool true)).cell? ⟨w.heap.size, 0, none⟩ = some (.bool true) := World.cell?_setCell_same _ _ _ hc1
    have hO2 : Only w (w1.setCell ⟨w.heap.size, 0, none⟩ (.bool true)) X.g := onlyNew HO.out (Only.setCell _ _ _ _) (Nat.le_refl _)
    generalize w1.setCell ⟨w.heap.size, 0, none⟩ (.bool true) = w2 at hc2 hO2 ⊢
    rw [hU.out]
    have HO2 := Lib.hid hO2
    clear hO2
    simp [Leaves, settle, results, Try.results68, go_sem, hc2]
    exact HO2.out
  · have hc1 := keepO hO hne hc0
    have hf1 : w1.frozen? ⟨w.heap.size, 0, none⟩ = false := frozenO hO hne hc0 hf0
    have hU := Lib.hid (uniB_f fun θ => hn1 θ (fun _ _ h => nomatch h))
    have HO := Lib.hid (Only.trans (Only.of_ext hE X.g) hO)
    clear hO hn1 hc0 hf0 hE
    refine leaves_cons (f := 89) (args := #[.pointer (some ⟨w.heap.size, 0, none⟩)]) (by simp) (by simp [go_sem]) ?_
    refine (d_catch hc1 hf1).mono ?_
    rintro e u' w'' ⟨rfl, rfl, h3, h4⟩
    have HO2 := Lib.hid (onlyNew HO.out h4 (Nat.le_refl _))
    rw [hU.out]
    clear h4
    simp [Leaves, settle, results, Try.results68, go_sem, h3]
    exact HO2.out

/-! The program's: variables of one's own; whether pairs are connected. -/
/-- A variable's other name. -/
def awI (x : Int) : Int := if x < 0 then x - 24 else x
def aw (t : List Int) : List Int := t.map awI
def awT (u : Tm) : Tm := u.sub fun x => vr (x - 24)
theorem awT_flat {ar : List Int} {u : Tm} (h : u.Ok ar) : (awT u).flat = aw u.flat := by
  unfold awT aw
  rw [flat_sub' _ u h]
  unfold fill
  rw [List.map_eq_flatMap]
  congr 1
  funext x
  unfold awI
  by_cases h0 : x < 0
  · rw [if_pos h0, if_pos h0]; exact vr_flat _
  · rw [if_neg h0, if_neg h0]
theorem awT_ok {ar : List Int} {u : Tm} (h : u.Ok ar) : (awT u).Ok ar := sub_ok (fun x hx => vr_ok ar (by omega)) u h
theorem aw_len (t : List Int) : (aw t).length = t.length := by unfold aw; simp
theorem aw_step {t : List Int} {k : Nat} {x : Int} (hx : t[k]? = some x) : ((aw t).take k ++ t.drop k).set k (awI x) = (aw t).take (k + 1) ++ t.drop (k + 1) := by
  obtain ⟨hk, rfl⟩ := List.getElem?_eq_some_iff.1 hx
  have e1 : ((aw t).take k).length = k := by rw [List.length_take, aw_len]; omega
  rw [List.set_append_right k _ (by omega), e1, Nat.sub_self, List.drop_eq_getElem_cons hk, List.set_cons_zero, List.take_succ_eq_append_getElem (by rw [aw_len]; exact hk), List.append_assoc, List.singleton_append]
  congr 2
  unfold aw; simp
theorem set_same {t : List Int} {k : Nat} {x : Int} (h : t[k]? = some x) : t.set k x = t := by
  obtain ⟨hk, rfl⟩ := List.getElem?_eq_some_iff.1 h
  exact List.set_getElem_self hk
set_option maxRecDepth 100000 in
set_option maxHeartbeats 2000000 in
theorem c_away {A : Option Addr} {n c : Nat} {t : List Int} {w : World} (h0 : RI w A n t) (hv : ∀ x ∈ t, -24 ≤ x) : Calls Try.prog 69 #[.slice A n c] w (NewI w (aw t)) := by
  have HA := Lib.hid h0
  have HV := Lib.hid hv
  have hn := h0.le
  clear h0 hv
  go_enter Try.func69, Try.ntmps69
  go_wp2_with (go_at_call 86; (with_reducible refine (c_clone (RI.ext HA.out (by exact extX))).mono ?_); rintro e w1 ⟨A1, n1, c1, rfl, hO1, hE1⟩)
  have HN := Lib.hid (show t.length = n1 from hO1.len)
  have hn1 := hO1.le
  have HO1 := Lib.hid hO1
  have HE1 := Lib.hid hE1
  clear hO1 hE1
  go_wp2_with fail
  go_loopw [10] (fun i wr => ∃ k : Nat, i = .int .i64 k ∧ k ≤ n1 ∧ Hid (OwI wr w.heap.size A1 n1 c1 ((aw t).take k ++ t.drop k)) ∧ Hid (Ext w wr)) (fun i _ => n1 - (intOf i).toNat)
  case atStart => exact ⟨0, rfl, Nat.zero_le _, Lib.hid (by simpa using HO1.out), HE1⟩
  case round =>
    obtain ⟨k, rfl, hk, hO, hG⟩ := hrel
    by_cases hlt : k < n1
    · obtain ⟨g, rfl, hgB, _⟩ : ∃ g, A1 = some ⟨g, 0, none⟩ ∧ w.heap.size ≤ g ∧ g < wr.heap.size := by
        rcases hO.out.form with ⟨_, h0, _⟩ | h
        · omega
        · exact h
      obtain ⟨x, hx⟩ : ∃ x, t[k]? = some x := ⟨_, List.getElem?_eq_getElem (by rw [HN.out]; exact hlt)⟩
      obtain ⟨x', hx', hcx, hfx⟩ := OwI.at_ hO.out hlt
      have e1 : ((aw t).take k).length = k := by rw [List.length_take, aw_len, HN.out]; omega
      rw [List.getElem?_append_right (by omega), e1, Nat.sub_self, List.getElem?_drop, Nat.add_zero, hx] at hx'
      cases hx'
      have hx24 := HV.out x (List.mem_of_getElem? hx)
      have HX := Lib.hid hx
      have hki : (k : Int) < (n1 : Int) := by omega
      clear hx e1
      by_cases h0 : x < 0
      · have hd : decide (x < 0) = true := by simpa using h0
        have HS := Lib.hid (show OwI (wr.setCell ⟨g, k, none⟩ (.int .i64 (x - 24))) w.heap.size (some ⟨g, 0, none⟩) n1 c1 ((aw t).take (k + 1) ++ t.drop (k + 1)) by
          rw [← aw_step HX.out, awI, if_pos h0]; exact OwI.set hO.out k (x - 24))
        have HG := Lib.hid (Ext.set hG.out (show w.heap.size ≤ (⟨g, k, none⟩ : Addr).block from hgB) (.int .i64 (x - 24)))
        have hw1 : IntKind.i64.wrap (x - 24) = x - 24 := IntWalk.i64_in _ (by omega)
        go_wp2
        refine ⟨⟨k + 1, by go_num, by omega, HS, HG⟩, by simp only [intOf]; omega⟩
      · have hd : decide (x < 0) = false := by simpa using h0
        have HS := Lib.hid (show OwI wr w.heap.size (some ⟨g, 0, none⟩) n1 c1 ((aw t).take (k + 1) ++ t.drop (k + 1)) by
          have := hO.out
          have e := aw_step HX.out
          rw [awI, if_neg h0] at e
          rw [← e, set_same]
          · exact this
          · rw [List.getElem?_append_right (by rw [List.length_take]; omega), List.length_take, aw_len, HN.out, show min k n1 = k by omega, Nat.sub_self, List.getElem?_drop, Nat.add_zero]; exact HX.out)
        go_wp2
        refine ⟨⟨k + 1, by go_num, by omega, HS, hG⟩, by simp only [intOf]; omega⟩
    · have hkn : k = n1 := by omega
      have HF := Lib.hid (show OwI wr w.heap.size A1 n1 c1 (aw t) by
        have := hO.out
        rw [List.take_of_length_le (by rw [aw_len, HN.out]; omega), List.drop_of_length_le (by rw [HN.out]; omega), List.append_nil] at this
        exact this)
      go_wp2
      go_ret
      exact ⟨A1, n1, c1, rfl, HF.out, hG.out⟩

/-- Whether one pair is connected with another one. -/
noncomputable def connV (s : Sy) (p q : DepP) : Bool :=
  if p.r[0]? ≠ q.l[0]? then false else if 24 < capF s p.r then true else uniB (capT s (tmOf s.ar p.r)) (awT (tmOf s.ar q.l))
theorem connV_head {s : Sy} {p q : DepP} (h : p.r[0]? ≠ q.l[0]?) : connV s p q = false := if_pos h
theorem connV_many {s : Sy} {p q : DepP} (h : p.r[0]? = q.l[0]?) (h2 : 24 < capF s p.r) : connV s p q = true := by unfold connV; rw [if_neg (fun e => e h), if_pos h2]
theorem connV_uni {s : Sy} {p q : DepP} (h : p.r[0]? = q.l[0]?) (h2 : ¬ 24 < capF s p.r) : connV s p q = uniB (capT s (tmOf s.ar p.r)) (awT (tmOf s.ar q.l)) := by unfold connV; rw [if_neg (fun e => e h), if_neg h2]
theorem uni_cells (v : Value) : (#[v, .slice none 0 0, .slice none 0 0, .slice none 0 0, .slice none 0 0, .slice none 0 0, .slice none 0 0, .slice none 0 0, .slice none 0 0, .slice none 0 0, .slice none 0 0, .slice none 0 0, .slice none 0 0, .slice none 0 0, .slice none 0 0, .slice none 0 0, .slice none 0 0, .slice none 0 0, .slice none 0 0, .slice none 0 0, .slice none 0 0, .slice none 0 0, .slice none 0 0, .slice none 0 0, .slice none 0 0, .slice none 0 0, .slice none 0 0, .slice none 0 0, .slice none 0 0, .slice none 0 0, .slice none 0 0, .slice none 0 0, .slice none 0 0, .slice none 0 0, .slice none 0 0, .slice none 0 0, .slice none 0 0, .slice none 0 0, .slice none 0 0, .slice none 0 0, .slice none 0 0, .slice none 0 0, .slice none 0 0, .slice none 0 0, .slice none 0 0, .slice none 0 0, .slice none 0 0, .slice none 0 0, .slice none 0 0] : Array Value) = (v :: List.replicate 48 (.slice none 0 0)).toArray := by kernel_rfl
theorem uni_new {W w4 : World} {T : TypeId} {v : Value} {xs : Array Value} (hw : w4 = W.alloc (.cells xs T)) (hx : xs = (v :: List.replicate 48 (.slice none 0 0)).toArray) : Ext W w4 ∧ w4.cell? ⟨W.heap.size, 0, none⟩ = some v ∧ (∀ k : Nat, k < 48 → w4.cell? ⟨W.heap.size, 1 + k, none⟩ = some (.slice none 0 0)) ∧ ∀ o, w4.frozen? ⟨W.heap.size, o, none⟩ = false := by
  subst hw
  refine ⟨Ext.alloc (Ext.refl _) _, ?_⟩
  have hh : (W.alloc (.cells xs T)).heap[W.heap.size]? = some (.cells xs T (0, 0)) := heap_alloc_new W _
  refine ⟨?_, fun k hk => ?_, fun o => frozen_of_row _ _ _ _ _ hh⟩
  · rw [cell_of_row _ _ 0 _ _ (0, 0) hh, hx]; rfl
  · rw [cell_of_row _ _ (1 + k) _ _ (0, 0) hh, hx, Nat.add_comm, List.getElem?_toArray, List.getElem?_cons_succ, List.getElem?_replicate, if_pos hk]
set_option maxRecDepth 100000 in
set_option maxHeartbeats 4000000 in
theorem c_connected {v0 v1 v2 : Value} {s : Sy} {p q : DepP} {w : World} (h0 : RdSyC w v0 s) (h1 : RdDp w v1 p) (h2 : RdDp w v2 q) (hs : SysP s) (hp : TermP s.ar p.r) (hq : TermP s.ar q.l) :
    Calls Try.prog 42 #[v0, v1, v2] w fun e w' => e = .returned (.bool (connV s p q)) ∧ Ext w w' := by
  obtain ⟨A, n, c, B, m, d, rfl, ha, hb⟩ := h0
  obtain ⟨C1, k1, l1, C2, k2, l2, rfl, _, hcp, _, hpr⟩ := h1
  obtain ⟨D1, m1, d1, D2, m2, d2, rfl, hcq, _, hql, _⟩ := h2
  have hpl := hpr.len
  have hp1 : 0 < k2 := by have := hp.2.1.1; omega
  have hqlen := hql.len
  have hq1 : 0 < m1 := by have := hq.2.1.1; omega
  obtain ⟨b1, o1, x, rfl, hx, hcx⟩ := RI.at_ hpr hp1
  obtain ⟨b2, o2, y, rfl, hy, hcy⟩ := RI.at_ hql hq1
  rw [Nat.add_zero] at hcx hcy
  obtain ⟨ab, ao, z0, rfl, _, hcz⟩ := RI.at_ ha (show 0 < n by have := ha.len; have := hs.1.1; omega)
  have hbl3 : ab < w.heap.size := World.block_lt_of_cell? w _ hcz
  clear hcz
  have HA := Lib.hid ha
  have HB := Lib.hid hb
  have HP := Lib.hid hpr
  have HQ := Lib.hid hql
  have HCP := Lib.hid hcp
  have HCQ := Lib.hid hcq
  have HS := Lib.hid hs
  have HTP := Lib.hid hp
  have HTQ := Lib.hid hq
  have HVQ := Lib.hid (show ∀ x ∈ q.l, -24 ≤ x from hq.2.2.1)
  have HSG := Lib.hid (show SigP s.ar from hs.1)
  have HX := Lib.hid hx
  have HY := Lib.hid hy
  have hp1i : (0 : Int) < (k2 : Int) := by omega
  have hq1i : (0 : Int) < (m1 : Int) := by omega
  have hbl1 : b1 < w.heap.size := World.block_lt_of_cell? w _ hcx
  have hbl2 : b2 < w.heap.size := World.block_lt_of_cell? w _ hcy
  clear ha hb hpr hql hcp hcq hs hp hq hx hy hpl hqlen
  go_enter Try.func42, Try.ntmps42
  go_wp2_with fail
  obtain ⟨wo, hwo⟩ : ∃ wo, wo = ((w.alloc (.cells #[.slice (some ⟨ab, ao, none⟩) n c, .slice B m d] 34)).alloc (.cells #[.slice C1 k1 l1, .slice (some ⟨b1, o1, none⟩) k2 l2, .int .i64 p.rule, .int .i64 p.at_] 51)).alloc (.cells #[.slice (some ⟨b2, o2, none⟩) m1 d1, .slice D2 m2 d2, .int .i64 q.rule, .int .i64 q.at_] 51) := ⟨_, rfl⟩
  have a0 : wo.cell? ⟨w.heap.size, 0, none⟩ = some (.slice (some ⟨ab, ao, none⟩) n c) := by rw [hwo]; simp [go_sem]
  have a1 : wo.cell? ⟨w.heap.size, 1, none⟩ = some (.slice B m d) := by rw [hwo]; simp [go_sem]
  have a2 : wo.cell? ⟨w.heap.size + 1, 1, none⟩ = some (.slice (some ⟨b1, o1, none⟩) k2 l2) := by rw [hwo]; simp [go_sem]
  have a3 : wo.cell? ⟨w.heap.size + 1 + 1, 0, none⟩ = some (.slice (some ⟨b2, o2, none⟩) m1 d1) := by rw [hwo]; simp [go_sem]
  have hEo : Ext w wo := by rw [hwo]; exact extX
  rw [← hwo]
  have hcx := Ext.keep hEo hcx
  have hcy := Ext.keep hEo hcy
  clear hwo
  by_cases hxy : x = y
  · subst hxy
    have hd1 : (x != x) = false := by simp
    have HH := Lib.hid (show p.r[0]? = q.l[0]? by rw [HX.out, HY.out])
    go_quiet (fail)
    go_wp2_with fail
    (with_reducible refine (c_capped (s := s) (t := p.r) (RdSyK.mk (RI.ext HA.out (by exact extX)) (RR.ext HB.out (by exact extX))) (RdIc.mk HCP.out (RI.ext HP.out (by exact extX))) HS.out HTP.out).mono ?_)
    by_cases hf : 24 < capF s p.r
    · have HV := Lib.hid (connV_many HH.out hf)
      rw [show decide (capF s p.r ≤ 24) = false by simp; omega]
      rintro e w3 ⟨A3, n3, c3, rfl, hO3, hE3⟩
      clear hO3 hf
      go_wp2
      go_ret
      exact ⟨ret_bool HV.out.symm, by exact extX⟩
    · have HV := Lib.hid (connV_uni HH.out hf)
      have HF := Lib.hid (show capF s p.r ≤ 24 by omega)
      rw [show decide (capF s p.r ≤ 24) = true by simp; omega]
      rintro e w3 ⟨A3, n3, c3, rfl, hO3, hE3⟩
      have hEw3 : Ext w w3 := Ext.trans hEo (Ext.trans (Ext.drewN (Ext.refl _) nq) hE3)
      have a0 := Ext.keep hE3 (show (wo.drewN nq).cell? _ = _ from a0)
      have a3 := Ext.keep hE3 (show (wo.drewN nq).cell? _ = _ from a3)
      have HO3 := Lib.hid hO3
      have HE3 := Lib.hid hEw3
      have hb3 : w.heap.size + 1 + 1 < w3.heap.size := World.block_lt_of_cell? w3 _ a3
      have hbl3' : ab < w3.heap.size := by omega
      clear hO3 hf hE3 hEw3 hcx hcy a1 a2
      go_wp2_with fail
      obtain ⟨w4, hw4⟩ : ∃ w4, w4 = w3.alloc (.cells #[.slice (some ⟨ab, ao, none⟩) n c, .slice none 0 0, .slice none 0 0, .slice none 0 0, .slice none 0 0, .slice none 0 0, .slice none 0 0, .slice none 0 0, .slice none 0 0, .slice none 0 0, .slice none 0 0, .slice none 0 0, .slice none 0 0, .slice none 0 0, .slice none 0 0, .slice none 0 0, .slice none 0 0, .slice none 0 0, .slice none 0 0, .slice none 0 0, .slice none 0 0, .slice none 0 0, .slice none 0 0, .slice none 0 0, .slice none 0 0, .slice none 0 0, .slice none 0 0, .slice none 0 0, .slice none 0 0, .slice none 0 0, .slice none 0 0, .slice none 0 0, .slice none 0 0, .slice none 0 0, .slice none 0 0, .slice none 0 0, .slice none 0 0, .slice none 0 0, .slice none 0 0, .slice none 0 0, .slice none 0 0, .slice none 0 0, .slice none 0 0, .slice none 0 0, .slice none 0 0, .slice none 0 0, .slice none 0 0, .slice none 0 0, .slice none 0 0] 105) := ⟨_, rfl⟩
      rw [← hw4]
      obtain ⟨hE4, c40, c4k, f4⟩ := uni_new hw4 (uni_cells _)
      clear hw4
      have hEw4 : Ext w w4 := Ext.trans HE3.out hE4
      have HX4 := Lib.hid (show UC.H ⟨w3.heap.size, ab, ao, n, c, s.ar⟩ (fun _ => none) w4 from
        ⟨RI.ext HA.out hEw4, by show ab ≠ w3.heap.size; omega, c40, fun k hk => ⟨_, c4k k hk, rfl⟩, f4⟩)
      have HE4 := Lib.hid hE4
      have HEW4 := Lib.hid hEw4
      clear c40 c4k f4 hE4 hEw4
      obtain ⟨hTo, hTf⟩ := tmOf_ok HTP.out
      obtain ⟨hQo, hQf⟩ := tmOf_ok HTQ.out
      have hce : capO s p.r = (capT s (tmOf s.ar p.r)).flat := by
        have := capO_tree hTo (by rw [hTf]; exact HTP.out)
        rw [hTf] at this; exact this
      have hct := capO_term HTP.out HF.out
      obtain ⟨b3, o3, z3, rfl, _, hc3⟩ := RI.at_ (OwI.ri HO3.out) (show 0 < n3 by have := HO3.out.len; have := hct.2.1.1; omega)
      have hb33 : b3 < w3.heap.size := World.block_lt_of_cell? w3 _ hc3
      have HTA := Lib.hid (show TT s.ar w4 w3.heap.size (.slice (some ⟨b3, o3, none⟩) n3 c3) (capT s (tmOf s.ar p.r)) from
        ⟨⟨b3, o3, n3, c3, rfl, OwI.cap HO3.out, by omega, by rw [← hce]; exact RI.ext (OwI.ri HO3.out) HE4.out⟩, capT_ok hTo, fun y hy => by rw [← hce] at hy; have := hct.2.2.1 y hy; omega⟩)
      clear hc3 hct
      (with_reducible refine (c_away (t := q.l) (RI.ext HQ.out HEW4.out) HVQ.out).mono ?_)
      rintro e w5 ⟨A5, n5, c5, rfl, hO5, hE5⟩
      obtain ⟨b5, o5, z5, rfl, _, hc5⟩ := RI.at_ (OwI.ri hO5) (show 0 < n5 by have := hO5.len; rw [aw_len] at this; have := HTQ.out.2.1.1; omega)
      have hb5 := (OwI.bd hO5 _ _ _ rfl).1
      have hs4 : w3.heap.size < w4.heap.size := HX4.out.lt
      have HTB := Lib.hid (show TT s.ar w5 w3.heap.size (.slice (some ⟨b5, o5, none⟩) n5 c5) (awT (tmOf s.ar q.l)) from
        ⟨⟨b5, o5, n5, c5, rfl, OwI.cap hO5, by omega, by rw [awT_flat hQo, hQf]; exact OwI.ri hO5⟩, awT_ok hQo, fun y hy => by
          rw [awT_flat hQo, hQf] at hy
          obtain ⟨z, hz, rfl⟩ := List.mem_map.1 hy
          have := HTQ.out.2.2.1 z hz
          unfold awI; split <;> omega⟩)
      have HE5 := Lib.hid hE5
      clear hc5 hO5 hE5
      go_wp2_with fail
      (with_reducible refine (c_solve (X := ⟨w3.heap.size, ab, ao, n, c, s.ar⟩) HSG.out (HX4.out.ext HE5.out) (HTA.out.ext HE5.out) HTB.out).mono ?_)
      rintro e w6 ⟨rfl, hO6⟩
      have HO6 := Lib.hid hO6
      clear hO6
      go_wp2
      go_ret
      exact ⟨ret_bool HV.out.symm, Ext.trans HE3.out (Only.ext HO6.out (Ext.trans HE4.out HE5.out) (Nat.le_refl _))⟩
  · have hd1 : (x != y) = true := by simpa using hxy
    have HV := Lib.hid (connV_head (s := s) (show p.r[0]? ≠ q.l[0]? by rw [HX.out, HY.out]; intro e; exact hxy (Option.some.inj e)))
    clear hxy
    go_quiet (fail)
    go_wp2
    go_ret
    exact ⟨ret_bool HV.out.symm, by exact extX⟩

end Go.Proofs.Ytempekmenkeigaa
