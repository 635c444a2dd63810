import Derived.Test.YtempekmenkeigaaSig
import Derived.Test.YtempekmenkeigaaMgA
import Derived.StillTailTactics
namespace Go.Proofs.Ytempekmenkeigaa
open Go.RowKit
set_option linter.unusedSimpArgs false
set_option linter.unusedVariables false

theorem arI_neg {ar : List Int} {x : Int} (h : x < 0) : arI ar x = some 0 := by unfold arI; rw [if_pos h]
theorem arI_none {ar : List Int} {x : Int} (h : (ar.length : Int) ≤ x) : arI ar x = none := by unfold arI; rw [if_neg (by omega), if_neg (by omega)]
theorem arI_at {ar : List Int} {x n : Int} (hx : 0 ≤ x) (h : ar[x.toNat]? = some n) : arI ar x = some n.toNat := by
  have := (List.getElem?_eq_some_iff.1 h).1
  unfold arI; rw [if_neg (by omega), if_pos (by omega), List.getD_eq_getElem?_getD, h]; rfl

set_option maxHeartbeats 400000 in
theorem c_arityAt {v : Value} {ar : List Int} {x : Int} {a : Nat} {w : World} (h0 : RdSig w v ar) (hs : SigP ar) (h : arI ar x = some a) :
    Calls Try.prog 112 #[v, .int .i64 x] w fun e w' => e = .returned (.int .i64 a) ∧ Ext w w' := by
  obtain ⟨A, n, c, rfl, ha⟩ := h0
  have hn := ha.le
  by_cases hx : x < 0
  · rw [arI_neg hx] at h; cases h
    go_enter Try.func112, Try.ntmps112
    go_wp2
    go_ret
    exact ⟨rfl, by exact extX⟩
  · by_cases hl : (ar.length : Int) ≤ x
    · rw [arI_none hl] at h; cases h
    · obtain ⟨q, rfl⟩ := Int.eq_ofNat_of_zero_le (show 0 ≤ x by omega)
      have hqn : q < n := by rw [← ha.len]; omega
      obtain ⟨b, o, y, rfl, hy, hcy⟩ := RI.at_ ha hqn
      rw [arI_at (by omega) (by rw [Int.toNat_natCast]; exact hy)] at h
      have hy2 := hs.2.2 y (List.mem_of_getElem? hy)
      have hyt : (y.toNat : Int) = y := by omega
      cases h
      have HY := Lib.hid hyt
      have hqi : (q : Int) < (n : Int) := by omega
      have hbl : b < w.heap.size := World.block_lt_of_cell? w _ hcy
      clear hyt hy hs hx hl
      go_enter Try.func112, Try.ntmps112
      go_wp2
      go_ret
      exact ⟨ret_int HY.out.symm, by exact extX⟩

/-- The cells of a cursor. -/
structure Cur (w : World) (g : Nat) (A : Option Addr) (n c : Nat) (B : Option Addr) (m d : Nat) (p : Nat) : Prop where
  c0 : w.cell? ⟨g, 0, none⟩ = some (.slice A n c)
  c1 : w.cell? ⟨g, 1, none⟩ = some (.slice B m d)
  c2 : w.cell? ⟨g, 2, none⟩ = some (.int .i64 p)
  fr : ∀ i, w.frozen? ⟨g, i, none⟩ = false
theorem Cur.ext {w w' : World} {g : Nat} {A : Option Addr} {n c : Nat} {B : Option Addr} {m d p : Nat} (h : Cur w g A n c B m d p) (k : Ext w w') : Cur w' g A n c B m d p :=
  ⟨Ext.keep k h.c0, Ext.keep k h.c1, Ext.keep k h.c2, fun i => (Below.frozen (p := ⟨g, i, none⟩) k (show g < w.heap.size from World.block_lt_of_cell? w _ h.c0)).trans (h.fr i)⟩
theorem Cur.lt {w : World} {g : Nat} {A : Option Addr} {n c : Nat} {B : Option Addr} {m d p : Nat} (h : Cur w g A n c B m d p) : g < w.heap.size := World.block_lt_of_cell? w _ h.c0

/-- Only block g and new memory have turned. -/
abbrev Only (w w' : World) (g : Nat) : Prop := w.grownBy w' (some g)
theorem Only.refl (w : World) (g : Nat) : Only w w g := World.grownBy.refl w _
theorem Only.trans {a b c : World} {g : Nat} (h : Only a b g) (k : Only b c g) : Only a c g :=
  ⟨k.os.trans h.os, k.tape.trans h.tape, k.output.trans h.output, Nat.le_trans h.size k.size, fun i hi hne => (k.block i (Nat.lt_of_lt_of_le hi h.size) hne).trans (h.block i hi hne)⟩
theorem Only.of_ext {a b : World} (h : Ext a b) (g : Nat) : Only a b g := ⟨h.os, h.tape, h.output, h.size, fun i hi _ => h.block i hi⟩
theorem Only.setCell (w : World) (g i : Nat) (v : Value) : Only w (w.setCell ⟨g, i, none⟩ v) g :=
  ⟨rfl, rfl, rfl, by simp [World.setCell], fun k hk hne => Below.heap_setCell w ⟨g, i, none⟩ v k (fun e => hne (by rw [e]))⟩
theorem Only.ext {a w w' : World} {g : Nat} (h : Only w w' g) (ha : Ext a w) (hg : a.heap.size ≤ g) : Ext a w' := Ext.grown ha h (fun k hk => by cases hk; exact hg)
theorem RI.only {w w' : World} {g : Nat} {A : Option Addr} {n : Nat} {xs : List Int} (h : RI w A n xs) (k : Only w w' g) (hg : ∀ b o s, A = some ⟨b, o, s⟩ → 0 < n → b ≠ g) : RI w' A n xs :=
  ⟨h.1, fun hn => by
    obtain ⟨b, o, hA, hc⟩ := h.2 hn
    refine ⟨b, o, hA, fun j x hx => ?_⟩
    have h1 := hc j x hx
    exact (World.cell?_of_block (k.block b (World.block_lt_of_cell? w _ h1) (fun e => by injection e with e; exact hg b o none hA hn e))).trans h1⟩

set_option maxHeartbeats 1000000 in
theorem c_next_end {g p : Nat} {A B : Option Addr} {n c m d : Nat} {w : World} (hc : Cur w g A n c B m d p) (hm : m ≤ 4194304) (hpm : p = m) :
    Calls Try.prog 111 #[.pointer (some ⟨g, 0, none⟩)] w fun e w' => e = .returned (.int .i64 (-1)) ∧ Ext w w' := by
  obtain ⟨c0, c1, c2, fr⟩ := hc
  subst hpm
  have hd : decide ((p : Int) ≤ (p : Int)) = true := by simp
  go_enter Try.func111, Try.ntmps111
  go_wp2
  go_quiet (fail)
  go_wp2
  go_ret
  exact ⟨rfl, by exact extX⟩
set_option maxHeartbeats 1000000 in
theorem c_next_bad {g p : Nat} {A B : Option Addr} {n c m d : Nat} {ar t : List Int} {x : Int} {w : World} (hc : Cur w g A n c B m d p) (ha : RI w A n ar) (hb : RI w B m t) (hx : t[p]? = some x) (hbad : (ar.length : Int) ≤ x) :
    Calls Try.prog 111 #[.pointer (some ⟨g, 0, none⟩)] w fun e w' => e = .returned (.int .i64 (-1)) ∧ Ext w w' := by
  obtain ⟨c0, c1, c2, fr⟩ := hc
  have hm := hb.le
  have hpm : p < m := by have := (List.getElem?_eq_some_iff.1 hx).1; rw [hb.len] at this; exact this
  obtain ⟨b, o, y, rfl, hy, hcy⟩ := RI.at_ hb hpm
  rw [hx] at hy; cases hy
  have hd : decide ((m : Int) ≤ (p : Int)) = false := by simp; omega
  have hd2 : decide ((n : Int) ≤ x) = true := by rw [← ha.len]; simpa using hbad
  have hp0 : (0 : Int) ≤ (p : Int) := by omega
  have hpi : (p : Int) < (m : Int) := by omega
  clear hx hbad ha hb
  go_enter Try.func111, Try.ntmps111
  go_wp2
  go_quiet (fail)
  go_wp2
  go_ret
  exact ⟨rfl, by exact extX⟩
set_option maxRecDepth 100000 in
set_option maxHeartbeats 2000000 in
theorem c_next_ok {g p a : Nat} {A B : Option Addr} {n c m d : Nat} {ar t : List Int} {x : Int} {w : World} (hc : Cur w g A n c B m d p) (ha : RI w A n ar) (hb : RI w B m t) (hs : SigP ar) (hx : t[p]? = some x) (hok : arI ar x = some a)
    (hga : ∀ b o s, A = some ⟨b, o, s⟩ → 0 < n → b ≠ g) (hgb : ∀ b o s, B = some ⟨b, o, s⟩ → 0 < m → b ≠ g) :
    Calls Try.prog 111 #[.pointer (some ⟨g, 0, none⟩)] w fun e w' => e = .returned (.int .i64 a) ∧ Cur w' g A n c B m d (p + 1) ∧ Only w w' g := by
  have hlt := hc.lt
  have HC := Lib.hid hc
  obtain ⟨c0, c1, c2, fr⟩ := hc
  have hm := hb.le
  have hpm : p < m := by have := (List.getElem?_eq_some_iff.1 hx).1; rw [hb.len] at this; exact this
  obtain ⟨b, o, y, rfl, hy, hcy⟩ := RI.at_ hb hpm
  rw [hx] at hy; cases hy
  have hxn : x < (n : Int) := by
    rw [← ha.len]
    apply Classical.byContradiction
    intro h
    rw [arI_none (by omega)] at hok; cases hok
  have hd : decide ((m : Int) ≤ (p : Int)) = false := by simp; omega
  have hd2 : decide ((n : Int) ≤ x) = false := by simp; omega
  have hp0 : (0 : Int) ≤ (p : Int) := by omega
  have hpi : (p : Int) < (m : Int) := by omega
  have hbg : b ≠ g := hgb b o none rfl (by omega)
  have HA := Lib.hid ha
  have HB := Lib.hid hb
  have HS := Lib.hid hs
  have HOK := Lib.hid hok
  have HGA := Lib.hid hga
  clear hx ha hb hs hok hga hgb
  go_enter Try.func111, Try.ntmps111
  go_wp2
  go_quiet (fail)
  go_wp2_with fail
  have hO1 : Only w ((w.drewN nq).setCell ⟨g, 2, none⟩ (.int .i64 ((p : Int) + 1))) g := Only.trans (Only.of_ext (Ext.drewN (Ext.refl _) _) g) (Only.setCell (w.drewN nq) g 2 _)
  have hC1 : Cur ((w.drewN nq).setCell ⟨g, 2, none⟩ (.int .i64 ((p : Int) + 1))) g A n c (some ⟨b, o, none⟩) m d (p + 1) :=
    ⟨by rw [World.cell?_setCell_other _ _ _ _ (by simp)]; exact c0, by rw [World.cell?_setCell_other _ _ _ _ (by simp)]; exact c1, World.cell?_setCell_same _ _ _ c2, fun i => by rw [World.frozen?_setCell]; exact fr i⟩
  have hcy1 : ((w.drewN nq).setCell ⟨g, 2, none⟩ (.int .i64 ((p : Int) + 1))).cell? ⟨b, o + p, none⟩ = some (.int .i64 x) := by rw [World.cell?_setCell_other _ _ _ _ (by simp; try (intro e; exact absurd e.symm hbg))]; exact hcy
  generalize (w.drewN nq).setCell ⟨g, 2, none⟩ (.int .i64 ((p : Int) + 1)) = W at hO1 hC1 hcy1 ⊢
  clear c0 c1 c2 fr hcy
  have HC1 := Lib.hid hC1
  obtain ⟨c0, c1, c2, fr⟩ := hC1
  have c3 : W.cell? ⟨g, 2, none⟩ = some (.int .i64 ((p : Int) + 1)) := c2
  clear c2
  have hw1 : IntKind.i64.wrap (p : Int) = (p : Int) := IntWalk.i64_in _ (by omega)
  go_still_tail 15, (by kernel_rfl)
  change wpList _ _ _ _ _ W.drew
  have hE1 : Ext W W.drew := by exact extX
  go_wp2_with (go_at_call 112; (with_reducible refine (c_arityAt (ar := ar) (RdSig.mk (RI.ext (HA.out.only hO1 HGA.out) hE1)) HS.out HOK.out).mono ?_); rintro e w2 ⟨rfl, hE2⟩)
  go_ret
  have hE3 : Ext W w2 := Ext.trans hE1 hE2
  exact ⟨rfl, HC1.out.ext hE3, hO1.trans (Only.of_ext hE3 g)⟩

/-- Where a cursor stands. -/
def posAt (w : World) (g : Nat) : Nat := match w.cell? ⟨g, 2, none⟩ with | some v => (intOf v).toNat | none => 0
theorem Cur.pos {w : World} {g : Nat} {A : Option Addr} {n c : Nat} {B : Option Addr} {m d p : Nat} (h : Cur w g A n c B m d p) : posAt w g = p := by
  unfold posAt; rw [h.c2]; simp [intOf]

set_option maxHeartbeats 1000000 in
theorem c_skip {g p0 : Nat} {A B : Option Addr} {n c m d : Nat} {ar t : List Int} {w : World} (hc : Cur w g A n c B m d p0) (ha : RI w A n ar) (hb : RI w B m t) (hs : SigP ar) (hp : p0 ≤ t.length)
    (hga : ∀ b o s, A = some ⟨b, o, s⟩ → 0 < n → b ≠ g) (hgb : ∀ b o s, B = some ⟨b, o, s⟩ → 0 < m → b ≠ g) :
    Calls Try.prog 104 #[.pointer (some ⟨g, 0, none⟩)] w fun e w' => Only w w' g ∧ ((endI ar t p0 = -1 ∧ e = .returned (.bool false)) ∨ ∃ q : Nat, endI ar t p0 = q ∧ e = .returned (.bool true) ∧ Cur w' g A n c B m d q) := by
  have hm := hb.le
  have hl := hb.len
  have HC := Lib.hid hc
  have HA := Lib.hid ha
  have HB := Lib.hid hb
  have HS := Lib.hid hs
  have HGA := Lib.hid hga
  have HGB := Lib.hid hgb
  have HP := Lib.hid hp
  have HL := Lib.hid hl
  clear hc ha hb hs hga hgb hp hl
  go_enter Try.func104, Try.ntmps104
  go_wp2
  go_loopw [3] (fun i wr => ∃ p nd : Nat, i = .int .i64 nd ∧ nd ≤ 1 + 3 * p ∧ Hid (ScanAt (arI ar) t p0 p nd) ∧ Only w wr g ∧ Hid (Cur wr g A n c B m d p)) (fun _ wr => m + 1 - posAt wr g)
  case atStart => exact ⟨p0, 1, rfl, by omega, ScanAt.start HP.out, Only.refl _ _, HC.out⟩
  case round =>
    obtain ⟨p, nd, rfl, hnd, hsc, hO, hcur⟩ := hrel
    have hpl : p ≤ m := by have := hsc.out.2.1; rw [HL.out] at this; exact this
    rcases nd with _ | nd
    · go_wp2
      go_ret
      exact ⟨hO, .inr ⟨p, hsc.out.done, rfl, hcur.out⟩⟩
    · have hA1 := HA.out.only hO HGA.out
      have hB1 := HB.out.only hO HGB.out
      have HA1 := Lib.hid hA1
      have HB1 := Lib.hid hB1
      clear hA1 hB1
      by_cases hpm : p = m
      · have HPM := Lib.hid hpm
        clear hpm
        go_wp2_with (go_at_call 111; (with_reducible refine (c_next_end hcur.out hm HPM.out).mono ?_); rintro e w2 ⟨rfl, hE2⟩)
        go_ret
        exact ⟨hO.trans (Only.of_ext hE2 g), .inl ⟨hsc.out.out (by rw [HPM.out, HL.out]), rfl⟩⟩
      · have hx : t[p]? = some (t[p]'(by rw [HL.out]; omega)) := List.getElem?_eq_getElem _
        generalize t[p]'(by rw [HL.out]; omega) = x at hx
        have HX := Lib.hid hx
        clear hx
        rcases hf : arI ar x with _ | a
        · have HF := Lib.hid hf
          clear hf
          have hbad : (ar.length : Int) ≤ x := by
            apply Classical.byContradiction
            intro h
            have hf := HF.out
            unfold arI at hf
            by_cases h0 : x < 0
            · rw [if_pos h0] at hf; cases hf
            · rw [if_neg h0, if_pos (by omega)] at hf; cases hf
          have HBD := Lib.hid hbad
          clear hbad
          go_wp2_with (go_at_call 111; (with_reducible refine (c_next_bad hcur.out HA1.out HB1.out HX.out HBD.out).mono ?_); rintro e w2 ⟨rfl, hE2⟩)
          go_ret
          exact ⟨hO.trans (Only.of_ext hE2 g), .inl ⟨hsc.out.bad HX.out HF.out, rfl⟩⟩
        · have ha3 := arI_le HS.out hf
          have HF := Lib.hid hf
          clear hf
          go_wp2_with (go_at_call 111; (with_reducible refine (c_next_ok hcur.out HA1.out HB1.out HS.out HX.out HF.out HGA.out HGB.out).mono ?_); rintro e w2 ⟨rfl, hC2, hO2⟩)
          go_roundw
          case rel => exact ⟨p + 1, nd + a, by go_num, by omega, hsc.out.step HX.out HF.out, hO.trans hO2, hC2⟩
          case measure =>
            rw [hC2.pos, hcur.out.pos]; omega
set_option maxHeartbeats 1000000 in
theorem c_endAt {v0 v1 : Value} {ar t : List Int} {p : Int} {w : World} (h0 : RdSig w v0 ar) (h1 : RdI w v1 t) (hs : SigP ar) (hp0 : 0 ≤ p) (hp : p ≤ t.length) :
    Calls Try.prog 88 #[v0, v1, .int .i64 p] w fun e w' => e = .returned (.int .i64 (endI ar t p.toNat)) ∧ Ext w w' := by
  obtain ⟨p0, rfl⟩ := Int.eq_ofNat_of_zero_le hp0
  rw [Int.toNat_natCast]
  have hp : p0 ≤ t.length := by omega
  clear hp0
  obtain ⟨A, n, c, rfl, ha⟩ := h0
  obtain ⟨B, m, d, rfl, hb⟩ := h1
  have hbA : ∀ b o s, A = some ⟨b, o, s⟩ → 0 < n → b ≠ w.heap.size + 1 := by
    intro b o s e hn
    obtain ⟨b', o', x, e', _, hc⟩ := RI.at_ ha hn
    rw [e] at e'; cases e'
    have := World.block_lt_of_cell? w _ hc
    have h2 : b < w.heap.size := this
    omega
  have hbB : ∀ b o s, B = some ⟨b, o, s⟩ → 0 < m → b ≠ w.heap.size + 1 := by
    intro b o s e hn
    obtain ⟨b', o', x, e', _, hc⟩ := RI.at_ hb hn
    rw [e] at e'; cases e'
    have h2 : b < w.heap.size := World.block_lt_of_cell? w _ hc
    omega
  have hm := hb.le
  have HA := Lib.hid ha
  have HB := Lib.hid hb
  have HS := Lib.hid hs
  have HP := Lib.hid hp
  have HBA := Lib.hid hbA
  have HBB := Lib.hid hbB
  clear ha hb hs hp hbA hbB
  go_enter Try.func88, Try.ntmps88
  go_wp2_with fail
  (with_reducible refine (c_skip (g := w.heap.size + 1) (A := A) (n := n) (c := c) (B := B) (m := m) (d := d) (p0 := p0) (ar := ar) (t := t) ?_ (RI.ext HA.out ?_) (RI.ext HB.out ?_) HS.out HP.out HBA.out HBB.out).mono ?_)
  · exact ⟨by simp [go_sem], by simp [go_sem], by simp [go_sem], fun i => by simp [go_sem]⟩
  · exact extX
  · exact extX
  rintro e w2 ⟨hO, h | h⟩
  · obtain ⟨he, rfl⟩ := h
    have HE := Lib.hid he
    clear he
    have hE2 : Ext w w2 := Only.ext hO (by exact extX) (by omega)
    go_wp2
    go_ret
    exact ⟨ret_int HE.out.symm, hE2⟩
  · obtain ⟨q, he, rfl, hcur⟩ := h
    have HE := Lib.hid he
    clear he
    have hE2 : Ext w w2 := Only.ext hO (by exact extX) (by omega)
    obtain ⟨c0, c1, c2, fr⟩ := hcur
    go_wp2
    go_ret
    exact ⟨ret_int HE.out.symm, hE2⟩
end Go.Proofs.Ytempekmenkeigaa
