/- The program's path orders: what it keeps of two terms, and what it tells of two places. -/
import Derived.Test.YtleahogikppepaaMLpoA
import Derived.Test.YtleahogikppepaaWraps
import Derived.Test.YtleahogikppepaaHeld
namespace Go.Proofs.Ytleahogikppepaa
open Go.RowKit
set_option linter.unusedSimpArgs false
set_option linter.unusedVariables false

/-- Two terms, a precedence, and where these and the box lie. -/
structure LC where
  ab : Nat
  ao : Nat
  n : Nat
  c : Nat
  rb : Nat
  ro : Nat
  rc : Nat
  tb : Nat
  tq : Nat
  m : Nat
  d : Nat
  sb : Nat
  so : Nat
  k : Nat
  l : Nat
  g : Nat
  ar : List Int
  rk : List Int
  t : List Int
  s : List Int
  lex : Bool
noncomputable def LC.W (X : LC) (i j : Nat) : Nat := lpoW (rkF X.rk) X.lex (subT X.ar X.t i) (subT X.ar X.s j)
def LC.by_ (X : LC) : Value := .iface (if X.lex = true then 108 else 109) (.agg #[])
structure LC.P (X : LC) : Prop where
  sig : SigP X.ar
  tt : TermP X.ar X.t
  ts : TermP X.ar X.s
  rl : X.rk.length = X.ar.length
  tc : X.m ≤ X.d ∧ X.d ≤ 9223372036854775807
  sc : X.k ≤ X.l ∧ X.l ≤ 9223372036854775807
structure LC.H (X : LC) (w : World) : Prop where
  a : RI w (some ⟨X.ab, X.ao, none⟩) X.n X.ar
  r : RI w (some ⟨X.rb, X.ro, none⟩) X.n X.rk
  t : RI w (some ⟨X.tb, X.tq, none⟩) X.m X.t
  s : RI w (some ⟨X.sb, X.so, none⟩) X.k X.s
  na : X.ab ≠ X.g
  nr : X.rb ≠ X.g
  nt : X.tb ≠ X.g
  ns : X.sb ≠ X.g
  c0 : w.cell? ⟨X.g, 0, none⟩ = some (.slice (some ⟨X.ab, X.ao, none⟩) X.n X.c)
  c1 : w.cell? ⟨X.g, 1, none⟩ = some (.slice (some ⟨X.rb, X.ro, none⟩) X.n X.rc)
  c2 : w.cell? ⟨X.g, 2, none⟩ = some X.by_
  c3 : w.cell? ⟨X.g, 3, none⟩ = some (.slice (some ⟨X.tb, X.tq, none⟩) X.m X.d)
  c4 : w.cell? ⟨X.g, 4, none⟩ = some (.slice (some ⟨X.sb, X.so, none⟩) X.k X.l)
  cw : ∀ i j, i < 60 → j < 60 → ∃ z : Nat, w.cell? ⟨X.g, 5 + i * 60 + j, none⟩ = some (.int .i8 z) ∧ (z = 0 ∨ z = 1 + X.W i j)
  fr : ∀ o, w.frozen? ⟨X.g, o, none⟩ = false
theorem LC.W_le (X : LC) (i j : Nat) : X.W i j ≤ 3 := lpoW_le _ _ _ _
theorem RI.onlyS {w w' : World} {g b o n : Nat} {xs : List Int} (h : RI w (some ⟨b, o, none⟩) n xs) (k : Only w w' g) (hg : b ≠ g) : RI w' (some ⟨b, o, none⟩) n xs :=
  h.only k fun b' o' s' e _ => by cases e; exact hg
theorem LC.H.lt {X : LC} {w : World} (h : X.H w) : X.g < w.heap.size := World.block_lt_of_cell? w _ h.c0
theorem LC.H.ext {X : LC} {w w' : World} (h : X.H w) (k : Ext w w') : X.H w' where
  a := h.a.ext k
  r := h.r.ext k
  t := h.t.ext k
  s := h.s.ext k
  na := h.na
  nr := h.nr
  nt := h.nt
  ns := h.ns
  c0 := Ext.keep k h.c0
  c1 := Ext.keep k h.c1
  c2 := Ext.keep k h.c2
  c3 := Ext.keep k h.c3
  c4 := Ext.keep k h.c4
  cw := fun i j hi hj => by obtain ⟨z, h1, h2⟩ := h.cw i j hi hj; exact ⟨z, Ext.keep k h1, h2⟩
  fr := fun o => (Below.frozen (p := ⟨X.g, o, none⟩) k h.lt).trans (h.fr o)
/-- What is told of two places is stored. -/
theorem LC.H.set {X : LC} {w : World} (h : X.H w) {i j : Nat} (hi : i < 60) (hj : j < 60) {v : Value} (hv : v = .int .i8 ((1 + X.W i j : Nat) : Int)) : X.H (w.setCell ⟨X.g, 5 + i * 60 + j, none⟩ v) := by
  subst hv
  have hO : Only w (w.setCell ⟨X.g, 5 + i * 60 + j, none⟩ (.int .i8 ((1 + X.W i j : Nat) : Int))) X.g := Only.setCell w X.g _ _
  refine ⟨h.a.onlyS hO h.na, h.r.onlyS hO h.nr, h.t.onlyS hO h.nt, h.s.onlyS hO h.ns, h.na, h.nr, h.nt, h.ns, ?_, ?_, ?_, ?_, ?_, fun i' j' hi' hj' => ?_, fun o => by rw [World.frozen?_setCell]; exact h.fr o⟩
  · rw [World.cell?_setCell_other _ _ _ _ (by first | (simp; done) | (simp; omega))]; exact h.c0
  · rw [World.cell?_setCell_other _ _ _ _ (by first | (simp; done) | (simp; omega))]; exact h.c1
  · rw [World.cell?_setCell_other _ _ _ _ (by first | (simp; done) | (simp; omega))]; exact h.c2
  · rw [World.cell?_setCell_other _ _ _ _ (by first | (simp; done) | (simp; omega))]; exact h.c3
  · rw [World.cell?_setCell_other _ _ _ _ (by first | (simp; done) | (simp; omega))]; exact h.c4
  · obtain ⟨z, h1, h2⟩ := h.cw i' j' hi' hj'
    by_cases e : i = i' ∧ j = j'
    · obtain ⟨rfl, rfl⟩ := e
      exact ⟨_, World.cell?_setCell_same _ _ _ h1, .inr rfl⟩
    · exact ⟨z, by rw [World.cell?_setCell_other _ _ _ _ (by first | (simp; done) | (simp; omega))]; exact h1, h2⟩
/-- What the program's functions tell of two places. -/
def LC.Tell (X : LC) (i j : Nat) (w : World) (v : Value) (e : Ending) (w' : World) : Prop := e = .returned v ∧ X.H w' ∧ Only w w' X.g
theorem LC.Tell.of {X : LC} {i j : Nat} {w w' : World} {v : Value} {e : Ending} (h1 : e = .returned v) (h2 : X.H w') (h3 : Only w w' X.g) : X.Tell i j w v e w' := ⟨h1, h2, h3⟩
def LC.Gr (X : LC) (i j : Nat) : Prop := ∀ w, X.H w → Calls Try.prog 158 #[.pointer (some ⟨X.g, 0, none⟩), .int .i64 (i : Int), .int .i64 (j : Int)] w (X.Tell i j w (.bool (decide (0 < X.W i j))))
/-- Below a size all is told. -/
def LC.Below (X : LC) (N : Nat) : Prop := ∀ i j, i < X.t.length → j < X.s.length → (subT X.ar X.t i).sz + (subT X.ar X.s j).sz < N → X.Gr i j

noncomputable def LC.same (X : LC) (i j : Nat) : Bool := (subT X.ar X.t i).flat == (subT X.ar X.s j).flat
set_option maxRecDepth 100000 in
set_option maxHeartbeats 4000000 in
theorem c_same {X : LC} {i j : Nat} {w : World} (hP : X.P) (h : X.H w) (hi : i < X.t.length) (hj : j < X.s.length) :
    Calls Try.prog 157 #[.pointer (some ⟨X.g, 0, none⟩), .int .i64 (i : Int), .int .i64 (j : Int)] w fun e w' => e = .returned (.bool (X.same i j)) ∧ Ext w w' := by
  have HX := Lib.hid (show (X.same i j) = ((subT X.ar X.t i).flat == (subT X.ar X.s j).flat) from rfl)
  obtain ⟨ab, ao, n, c, rb, ro, rc, tb, tq, m, d, sb, so, k, l, g, ar, rk, t, s, lex⟩ := X
  obtain ⟨h1, rest1, h2⟩ := subT_ok hP.tt hi
  obtain ⟨h3, rest2, h4⟩ := subT_ok hP.ts hj
  have HU := Lib.hid h1
  have HUD := Lib.hid h2
  have HV := Lib.hid h3
  have HVD := Lib.hid h4
  have HS := Lib.hid hP.sig
  have HTC := Lib.hid hP.tc
  have HSC := Lib.hid hP.sc
  have HA := Lib.hid h.a
  have HT := Lib.hid h.t
  have HZ := Lib.hid h.s
  have c0 : w.cell? ⟨g, 0, none⟩ = some (.slice (some ⟨ab, ao, none⟩) n c) := h.c0
  have c3 : w.cell? ⟨g, 3, none⟩ = some (.slice (some ⟨tb, tq, none⟩) m d) := h.c3
  have c4 : w.cell? ⟨g, 4, none⟩ = some (.slice (some ⟨sb, so, none⟩) k l) := h.c4
  clear h1 h2 h3 h4 h hP hi hj
  dsimp only at *
  go_enter Try.func157, Try.ntmps157
  go_wp2_with fail
  refine wp_region_held_drew (S := (fun w' => Ext w w' ∧ w'.cell? ⟨g, 0, none⟩ = some (.slice (some ⟨ab, ao, none⟩) n c) ∧ w'.cell? ⟨g, 3, none⟩ = some (.slice (some ⟨tb, tq, none⟩) m d) ∧ w'.cell? ⟨g, 4, none⟩ = some (.slice (some ⟨sb, so, none⟩) k l))) (by kernel_rfl) ?_ (fun hH => ?_)
  · exact ⟨(Ext.refl w).drew, c0, c3, c4⟩
  refine wpAnyH_take_dst (i := 0) (v := .pointer (some ⟨g, 0, none⟩)) (d := some 7) rfl rfl (by kernel_rfl) (by kernel_rfl) (by kernel_rfl) (fun _ _ _ h => h) (Or.inl ⟨by rfl, ?_⟩) hH ?_
  · (intro w hSw; (try dsimp only at hSw); go_split_ands; go_simp; try with_reducible rfl)
  try simp only [Act.put, List.setIfInBounds_toArray, List.set_cons_zero, List.set_cons_succ]
  refine wpAnyH_take_dst (i := 1) (v := .pointer (some ⟨g, 0, none⟩)) (d := some 8) rfl rfl (by kernel_rfl) (by kernel_rfl) (by kernel_rfl) (fun _ _ _ h => h) (Or.inl ⟨by rfl, ?_⟩) hH ?_
  · (intro w hSw; (try dsimp only at hSw); go_split_ands; go_simp; try with_reducible rfl)
  try simp only [Act.put, List.setIfInBounds_toArray, List.set_cons_zero, List.set_cons_succ]
  refine wpAnyH_take_dst (i := 2) (v := .pointer (some ⟨g, 0, none⟩)) (d := some 9) rfl rfl (by kernel_rfl) (by kernel_rfl) (by kernel_rfl) (fun _ _ _ h => h) (Or.inl ⟨by rfl, ?_⟩) hH ?_
  · (intro w hSw; (try dsimp only at hSw); go_split_ands; go_simp; try with_reducible rfl)
  try simp only [Act.put, List.setIfInBounds_toArray, List.set_cons_zero, List.set_cons_succ]
  refine wpAnyH_take_dst (i := 3) (v := .agg #[.slice (some ⟨ab, ao, none⟩) n c]) (d := some 10) rfl rfl (by kernel_rfl) (by kernel_rfl) (by kernel_rfl) (fun _ _ _ h => h) (Or.inl ⟨by rfl, ?_⟩) hH ?_
  · (intro w hSw; (try dsimp only at hSw); go_split_ands; go_simp; try with_reducible rfl)
  try simp only [Act.put, List.setIfInBounds_toArray, List.set_cons_zero, List.set_cons_succ]
  refine wpAnyH_take_dst (i := 4) (v := .pointer (some ⟨g, 0, none⟩)) (d := some 11) rfl rfl (by kernel_rfl) (by kernel_rfl) (by kernel_rfl) (fun _ _ _ h => h) (Or.inl ⟨by rfl, ?_⟩) hH ?_
  · (intro w hSw; (try dsimp only at hSw); go_split_ands; go_simp; try with_reducible rfl)
  try simp only [Act.put, List.setIfInBounds_toArray, List.set_cons_zero, List.set_cons_succ]
  refine wpAnyH_take_dst (i := 5) (v := .pointer (some ⟨g, 0, none⟩)) (d := some 12) rfl rfl (by kernel_rfl) (by kernel_rfl) (by kernel_rfl) (fun _ _ _ h => h) (Or.inl ⟨by rfl, ?_⟩) hH ?_
  · (intro w hSw; (try dsimp only at hSw); go_split_ands; go_simp; try with_reducible rfl)
  try simp only [Act.put, List.setIfInBounds_toArray, List.set_cons_zero, List.set_cons_succ]
  refine wpAnyH_take_dst (i := 6) (v := .pointer (some ⟨g, 3, none⟩)) (d := some 13) rfl rfl (by kernel_rfl) (by kernel_rfl) (by kernel_rfl) (fun _ _ _ h => h) (Or.inl ⟨by rfl, ?_⟩) hH ?_
  · (intro w hSw; (try dsimp only at hSw); go_split_ands; go_simp; try with_reducible rfl)
  try simp only [Act.put, List.setIfInBounds_toArray, List.set_cons_zero, List.set_cons_succ]
  refine wpAnyH_take_dst (i := 7) (v := .slice (some ⟨tb, tq, none⟩) m d) (d := some 14) rfl rfl (by kernel_rfl) (by kernel_rfl) (by kernel_rfl) (fun _ _ _ h => h) (Or.inl ⟨by rfl, ?_⟩) hH ?_
  · (intro w hSw; (try dsimp only at hSw); go_split_ands; go_simp; try with_reducible rfl)
  try simp only [Act.put, List.setIfInBounds_toArray, List.set_cons_zero, List.set_cons_succ]
  refine wpAnyH_take_dst (i := 8) (v := .int .i64 (i : Int)) (d := some 15) rfl rfl (by kernel_rfl) (by kernel_rfl) (by kernel_rfl) (fun _ _ _ h => h) (Or.inl ⟨by rfl, ?_⟩) hH ?_
  · (intro w hSw; (try dsimp only at hSw); go_split_ands; go_simp; try with_reducible rfl)
  try simp only [Act.put, List.setIfInBounds_toArray, List.set_cons_zero, List.set_cons_succ]
  refine wpAnyH_take_dst (i := 10) (v := .pointer (some ⟨g, 0, none⟩)) (d := some 17) rfl rfl (by kernel_rfl) (by kernel_rfl) (by kernel_rfl) (fun _ _ _ h => h) (Or.inl ⟨by rfl, ?_⟩) hH ?_
  · (intro w hSw; (try dsimp only at hSw); go_split_ands; go_simp; try with_reducible rfl)
  try simp only [Act.put, List.setIfInBounds_toArray, List.set_cons_zero, List.set_cons_succ]
  refine wpAnyH_take_dst (i := 11) (v := .pointer (some ⟨g, 0, none⟩)) (d := some 18) rfl rfl (by kernel_rfl) (by kernel_rfl) (by kernel_rfl) (fun _ _ _ h => h) (Or.inl ⟨by rfl, ?_⟩) hH ?_
  · (intro w hSw; (try dsimp only at hSw); go_split_ands; go_simp; try with_reducible rfl)
  try simp only [Act.put, List.setIfInBounds_toArray, List.set_cons_zero, List.set_cons_succ]
  refine wpAnyH_take_dst (i := 12) (v := .pointer (some ⟨g, 0, none⟩)) (d := some 19) rfl rfl (by kernel_rfl) (by kernel_rfl) (by kernel_rfl) (fun _ _ _ h => h) (Or.inl ⟨by rfl, ?_⟩) hH ?_
  · (intro w hSw; (try dsimp only at hSw); go_split_ands; go_simp; try with_reducible rfl)
  try simp only [Act.put, List.setIfInBounds_toArray, List.set_cons_zero, List.set_cons_succ]
  refine wpAnyH_take_dst (i := 13) (v := .agg #[.slice (some ⟨ab, ao, none⟩) n c]) (d := some 20) rfl rfl (by kernel_rfl) (by kernel_rfl) (by kernel_rfl) (fun _ _ _ h => h) (Or.inl ⟨by rfl, ?_⟩) hH ?_
  · (intro w hSw; (try dsimp only at hSw); go_split_ands; go_simp; try with_reducible rfl)
  try simp only [Act.put, List.setIfInBounds_toArray, List.set_cons_zero, List.set_cons_succ]
  refine wpAnyH_take_dst (i := 14) (v := .pointer (some ⟨g, 0, none⟩)) (d := some 21) rfl rfl (by kernel_rfl) (by kernel_rfl) (by kernel_rfl) (fun _ _ _ h => h) (Or.inl ⟨by rfl, ?_⟩) hH ?_
  · (intro w hSw; (try dsimp only at hSw); go_split_ands; go_simp; try with_reducible rfl)
  try simp only [Act.put, List.setIfInBounds_toArray, List.set_cons_zero, List.set_cons_succ]
  refine wpAnyH_take_dst (i := 15) (v := .pointer (some ⟨g, 0, none⟩)) (d := some 22) rfl rfl (by kernel_rfl) (by kernel_rfl) (by kernel_rfl) (fun _ _ _ h => h) (Or.inl ⟨by rfl, ?_⟩) hH ?_
  · (intro w hSw; (try dsimp only at hSw); go_split_ands; go_simp; try with_reducible rfl)
  try simp only [Act.put, List.setIfInBounds_toArray, List.set_cons_zero, List.set_cons_succ]
  refine wpAnyH_take_dst (i := 16) (v := .pointer (some ⟨g, 4, none⟩)) (d := some 23) rfl rfl (by kernel_rfl) (by kernel_rfl) (by kernel_rfl) (fun _ _ _ h => h) (Or.inl ⟨by rfl, ?_⟩) hH ?_
  · (intro w hSw; (try dsimp only at hSw); go_split_ands; go_simp; try with_reducible rfl)
  try simp only [Act.put, List.setIfInBounds_toArray, List.set_cons_zero, List.set_cons_succ]
  refine wpAnyH_take_dst (i := 17) (v := .slice (some ⟨sb, so, none⟩) k l) (d := some 24) rfl rfl (by kernel_rfl) (by kernel_rfl) (by kernel_rfl) (fun _ _ _ h => h) (Or.inl ⟨by rfl, ?_⟩) hH ?_
  · (intro w hSw; (try dsimp only at hSw); go_split_ands; go_simp; try with_reducible rfl)
  try simp only [Act.put, List.setIfInBounds_toArray, List.set_cons_zero, List.set_cons_succ]
  refine wpAnyH_take_dst (i := 18) (v := .int .i64 (j : Int)) (d := some 25) rfl rfl (by kernel_rfl) (by kernel_rfl) (by kernel_rfl) (fun _ _ _ h => h) (Or.inl ⟨by rfl, ?_⟩) hH ?_
  · (intro w hSw; (try dsimp only at hSw); go_split_ands; go_simp; try with_reducible rfl)
  try simp only [Act.put, List.setIfInBounds_toArray, List.set_cons_zero, List.set_cons_succ]
  refine wpAnyH_ready (rs := [9]) (by kernel_rfl) (by simp) ?_
  refine AllReadyH.cons rfl (fun K hK => ?_) AllReadyH.nil
  rw [if_pos (by rfl)]
  go_wp2_with (go_at_call 136; (with_reducible refine ((c_subAt (u := subT ar t i) (RdSig.mk (RI.ext HA.out hH.1)) (RdIc.mk HTC.out (RI.ext HT.out hH.1)) HS.out HU.out HUD.out)).mono ?_); rintro e w4 ⟨A3, n3, c3', rfl, hcap3, hr4, hE9⟩)
  refine hK.out _ _ ⟨Ext.trans hH.1 hE9, Ext.keep hE9 hH.2.1, Ext.keep hE9 hH.2.2.1, Ext.keep hE9 hH.2.2.2⟩ (fun hH9 => ?_)
  clear hK hH; have hH := hH9; clear hH9
  try simp only [Act.put, List.setIfInBounds_toArray, List.set_cons_zero, List.set_cons_succ]
  refine wpAnyH_ready (rs := [19]) (by kernel_rfl) (by simp) ?_
  refine AllReadyH.cons rfl (fun K hK => ?_) AllReadyH.nil
  rw [if_pos (by rfl)]
  go_wp2_with (go_at_call 136; (with_reducible refine ((c_subAt (u := subT ar s j) (RdSig.mk (RI.ext HA.out hH.1)) (RdIc.mk HSC.out (RI.ext HZ.out hH.1)) HS.out HV.out HVD.out)).mono ?_); rintro e w5 ⟨A4, n4, c4', rfl, hcap4, hr5, hE9⟩)
  refine hK.out _ _ ⟨Ext.trans hH.1 hE9, Ext.keep hE9 hH.2.1, Ext.keep hE9 hH.2.2.1, Ext.keep hE9 hH.2.2.2⟩ (fun hH9 => ?_)
  clear hK hH; have hH := hH9; clear hH9
  try simp only [Act.put, List.setIfInBounds_toArray, List.set_cons_zero, List.set_cons_succ]
  refine wpAnyH_ready (rs := [20]) (by kernel_rfl) (by simp) ?_
  refine AllReadyH.cons rfl (fun K hK => ?_) AllReadyH.nil
  rw [if_pos (by rfl)]
  go_wp2_with (go_at_call 137; (with_reducible refine ((c_slicesEqual (xs := (subT ar t i).flat) (ys := (subT ar s j).flat) (RdI.mk (RI.ext hr4 hE9)) (RdI.mk hr5))).mono ?_); rintro e w6 ⟨rfl, hE9⟩)
  refine hK.out _ _ ⟨Ext.trans hH.1 hE9, Ext.keep hE9 hH.2.1, Ext.keep hE9 hH.2.2.1, Ext.keep hE9 hH.2.2.2⟩ (fun hH9 => ?_)
  clear hK hH; have hH := hH9; clear hH9
  try simp only [Act.put, List.setIfInBounds_toArray, List.set_cons_zero, List.set_cons_succ]
  refine wpAnyH_take_dst (i := 21) (v := .bool ((subT ar t i).flat == (subT ar s j).flat)) (d := some 6) rfl rfl (by kernel_rfl) (by kernel_rfl) (by kernel_rfl) (fun _ _ _ h => h) (Or.inl ⟨by rfl, ?_⟩) hH ?_
  · (intro w hSw; (try dsimp only at hSw); go_split_ands; go_simp; try with_reducible rfl)
  try simp only [Act.put, List.setIfInBounds_toArray, List.set_cons_zero, List.set_cons_succ]
  refine wpAnyH_done (by kernel_rfl) ?_ _
  obtain ⟨hE, _, _, _⟩ := hH
  go_wp2
  go_ret
  exact ⟨ret_bool HX.out.symm, hE⟩
theorem c_same' {X : LC} {i j : Nat} {w : World} {b : Bool} (hb : X.same i j = b) (hP : X.P) (h : X.H w) (hi : i < X.t.length) (hj : j < X.s.length) :
    Calls Try.prog 157 #[.pointer (some ⟨X.g, 0, none⟩), .int .i64 (i : Int), .int .i64 (j : Int)] w fun e w' => e = .returned (.bool b) ∧ Ext w w' := by
  subst hb; exact c_same hP h hi hj

end Go.Proofs.Ytleahogikppepaa
