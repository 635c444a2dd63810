/- Weights by dice. -/
import Derived.Test.YtleahogikppepaaDicT
import Derived.Test.YtleahogikppepaaMWt
import Derived.Test.YtleahogikppepaaHeld
namespace Go.Proofs.Ytleahogikppepaa
open Go.RowKit
set_option linter.unusedSimpArgs false
set_option linter.unusedVariables false

theorem RI.blt {w : World} {A : Option Addr} {n : Nat} {xs : List Int} (h : RI w A n xs) (hn : 0 < n) : ∀ b o s, A = some ⟨b, o, s⟩ → b < w.heap.size := fun b o s e => by
  obtain ⟨_, _, x0, e3, _, hc0⟩ := RI.at_ h hn
  rw [e] at e3
  cases e3
  exact World.block_lt_of_cell? w _ hc0
/-- The box of the weights that are being made. -/
structure WtBox (wp w' : World) (g r p : Nat) (var : Int) (A : Option Addr) (rk : List Int) : Prop where
  c0 : w'.cell? ⟨p, 0, none⟩ = some (.int .i64 var)
  c1 : ∃ v, w'.cell? ⟨p, 1, none⟩ = some v
  c2 : w'.cell? ⟨p, 2, none⟩ = some (.slice A 3 3)
  fr : ∀ j, w'.frozen? ⟨p, j, none⟩ = false
  di : Dice w' g
  on : Only wp w' g
  ne : p ≠ g
  rb : w'.heap[r]? = some (.cells #[.int .i64 0, .slice none 0 0, .slice none 0 0] 48 (0, 0))
  re : r ≠ g
  rp : r ≠ p
  ge : wp.heap.size ≤ p
  gp : g < p
  ra : RIg w' g A 3 rk
  ap : ∀ b o s, A = some ⟨b, o, s⟩ → b ≠ p
section
variable {wp w w' : World} {g r p : Nat} {var : Int} {A : Option Addr} {rk : List Int}
theorem WtBox.lt (h : WtBox wp w g r p var A rk) : p < w.heap.size := World.block_lt_of_cell? w ⟨p, 0, none⟩ h.c0
theorem WtBox.step (h : WtBox wp w g r p var A rk) (hD : Dice w' g) (hO : Only w w' g) : WtBox wp w' g r p var A rk := by
  have hb := hO.block p h.lt (fun e => h.ne (by cases e; rfl))
  obtain ⟨v, hv⟩ := h.c1
  exact ⟨(World.cell?_of_block (w := w) (w' := w') (a := ⟨p, 0, none⟩) hb).trans h.c0, ⟨v, (World.cell?_of_block (w := w) (w' := w') (a := ⟨p, 1, none⟩) hb).trans hv⟩, (World.cell?_of_block (w := w) (w' := w') (a := ⟨p, 2, none⟩) hb).trans h.c2,
    fun j => (World.frozen?_of_block (w := w) (w' := w') (a := ⟨p, j, none⟩) hb).trans (h.fr j), hD, h.on.trans hO, h.ne,
    (hO.block r (Array.getElem?_eq_some_iff.1 h.rb).1 (fun e => h.re (by cases e; rfl))).trans h.rb, h.re, h.rp, h.ge, h.gp, h.ra.only hO, h.ap⟩
theorem WtBox.set (h : WtBox wp w g r p var A rk) (v : Value) : WtBox wp (w.setCell ⟨p, 1, none⟩ v) g r p var A rk := by
  obtain ⟨u, hu⟩ := h.c1
  refine ⟨(World.cell?_setCell_other _ _ _ _ (by simp)).trans h.c0, ⟨v, World.cell?_setCell_same _ _ _ hu⟩, (World.cell?_setCell_other _ _ _ _ (by simp)).trans h.c2, fun j => by simp [h.fr], h.di.below (Below.setCell (Below.refl _ _) h.gp _), h.on.grown (Only.setCell _ _ _ _) (fun b e => by cases e; exact h.ge), h.ne, ?_, h.re, h.rp, h.ge, h.gp, ⟨RI.only h.ra.1 (Only.setCell _ p _ _) (fun b o s e _ => h.ap b o s e), h.ra.2⟩, h.ap⟩
  rw [Below.heap_setCell _ _ _ _ (show r ≠ p from h.rp)]; exact h.rb
theorem WtBox.alloc (h : WtBox wp w g r p var A rk) (o : Obj) : WtBox wp (w.alloc o) g r p var A rk := h.step (h.di.ext ((Ext.refl w).alloc o)) (Only.of_ext ((Ext.refl w).alloc o) g)
end
theorem permR_ok {rk : List Int} (h : PermR rk) : RankP [2, 1, 0] rk := by
  have hs : SigP [2, 1, (0 : Int)] := sigOk_iff.1 (by first | rfl | decide | simp [sigOk, SigP])
  unfold PermR at h
  simp only [List.mem_cons, List.not_mem_nil, or_false] at h
  rcases h with rfl | rfl | rfl | rfl | rfl | rfl <;> exact ⟨hs, rfl, fun i hi => by
    match i, hi with
    | 0, _ | 1, _ | 2, _ => simp⟩
theorem wt_sym {var s0 s1 s2 : Int} {rk : List Int} (hv : 1 ≤ var ∧ var ≤ 2) (h0 : 0 ≤ s0 ∧ s0 < 3) (h1 : 0 ≤ s1 ∧ s1 < 3) (h2 : 0 ≤ s2 ∧ s2 < 2) (hp : PermR rk) (h : s1 = 0 → rk[1]? = some 2) : WtP [2, 1, 0] ⟨var, [s0, s1, var + s2], rk⟩ := by
  have hr := permR_ok hp
  have hrl : rk.length = 3 := hr.2.1
  refine ⟨hr, rfl, ⟨hv.1, by show var ≤ 20; omega⟩, fun j s a r e1 e2 e3 => ?_⟩
  show WtAt var rk.length s a r
  rw [hrl]
  match j, e1, e2 with
  | 0, e1, e2 => cases e1; cases e2; exact ⟨by omega, by omega, by omega⟩
  | 1, e1, e2 =>
    cases e1; cases e2
    refine ⟨by omega, by omega, fun _ hs => ?_⟩
    have := h hs
    have e3' : rk[1]? = some r := e3
    rw [this] at e3'; cases e3'; rfl
  | 2, e1, e2 => cases e1; cases e2; exact ⟨by omega, by omega, by omega⟩
theorem wt_done {w w6 : World} {g r q : Nat} {A : Option Addr} {sy rk : List Int} {v0 v1 v2 : Value} (hD : Dice w6 g) (hO : Only w w6 g) (hr : w.heap.size ≤ r) (hg : g < r) (hq : RI w6 (some ⟨q, 0, none⟩) 3 sy) (hqg : q ≠ g) (hqr : q ≠ r) (hA : RIg w6 g A 3 rk) (hAr : ∀ b o s, A = some ⟨b, o, s⟩ → b ≠ r) :
    RIg (((w6.setCell ⟨r, 0, none⟩ v0).setCell ⟨r, 1, none⟩ v1).setCell ⟨r, 2, none⟩ v2) g (some ⟨q, 0, none⟩) 3 sy ∧ RIg (((w6.setCell ⟨r, 0, none⟩ v0).setCell ⟨r, 1, none⟩ v1).setCell ⟨r, 2, none⟩ v2) g A 3 rk ∧
      Dice (((w6.setCell ⟨r, 0, none⟩ v0).setCell ⟨r, 1, none⟩ v1).setCell ⟨r, 2, none⟩ v2) g ∧ Only w (((w6.setCell ⟨r, 0, none⟩ v0).setCell ⟨r, 1, none⟩ v1).setCell ⟨r, 2, none⟩ v2) g := by
  have hS : Only w6 (((w6.setCell ⟨r, 0, none⟩ v0).setCell ⟨r, 1, none⟩ v1).setCell ⟨r, 2, none⟩ v2) r := ((Only.setCell _ _ _ _).trans (Only.setCell _ _ _ _)).trans (Only.setCell _ _ _ _)
  refine ⟨⟨RI.only hq hS (fun b o s e _ => by cases e; exact hqr), fun b o s e => by cases e; exact hqg⟩, ⟨RI.only hA.1 hS (fun b o s e _ => hAr b o s e), hA.2⟩, hD.grown hS (fun b e => by cases e; exact hg), hO.grown hS (fun b e => by cases e; exact hr)⟩
def NewWg (w : World) (g : Nat) (e : Ending) (w' : World) : Prop := ∃ (A B : Option Addr) (W : Wt), e = .returned (.agg #[.int .i64 W.var, .slice A 3 3, .slice B 3 3]) ∧ RIg w' g A 3 W.sym ∧ RIg w' g B 3 W.rank ∧ WtP [2, 1, 0] W ∧ Dice w' g ∧ Only w w' g
set_option maxRecDepth 100000 in
set_option maxHeartbeats 8000000 in
theorem c_w9Weights {g : Nat} {w : World} (h0 : Dice w g) : Calls Try.prog 19 #[.pointer (some ⟨g, 0, none⟩)] w (NewWg w g) := by
  have HD := Lib.hid h0
  have hgl := h0.lt
  clear h0
  go_enter Try.func19, Try.ntmps19
  go_wp2_with fail
  (with_reducible refine (c_below (HD.out.ext (by (repeat' (first | (with_reducible exact Ext.refl _) | (with_reducible assumption) | (with_reducible refine Ext.alloc ?_ _) | (with_reducible refine Ext.set ?_ ?_ _) | (with_reducible refine Ext.drewN ?_ _) | (with_reducible refine Ext.drew ?_) | (with_reducible refine Ext.trans ?_ (by with_reducible assumption)) | go_size)))) (by omega) (by omega)).mono ?_)
  rintro e w1 ⟨x1, rfl, hx1, hD1, hO1⟩
  have hw1 : IntKind.i64.wrap (1 + x1) = 1 + x1 := IntWalk.i64_in _ (by omega)
  go_wp2_with fail
  (with_reducible refine (c_w9Rank hD1).mono ?_)
  rintro e w2 ⟨A, rk, rfl, hR2, hP2, hD2, hO2⟩
  go_wp2_with fail
  have hs1 := hO1.size
  have hs2 := hO2.size
  have hs0 : w.heap.size < w1.heap.size := by simp [go_sem] at hs1; omega
  have HB := Lib.hid (show WtBox w (w2.alloc (.cells #[.int .i64 (1 + x1), .slice none 0 0, .slice A 3 3] 48)) g w.heap.size w2.heap.size (1 + x1) A rk from
    ⟨by simp [go_sem], ⟨.slice none 0 0, by simp [go_sem]⟩, by simp [go_sem], fun j => by simp [go_sem], hD2.ext ((Ext.refl w2).alloc _),
      (((Only.of_ext ((Ext.refl w).alloc _) g).trans hO1).trans hO2).trans (Only.of_ext ((Ext.refl w2).alloc _) g), by omega,
      by
        have h1 : (w.alloc (.cells #[.int .i64 0, .slice none 0 0, .slice none 0 0] 48)).heap[w.heap.size]? = some (.cells #[.int .i64 0, .slice none 0 0, .slice none 0 0] 48 (0, 0)) := heap_alloc_new w _
        have h2 := (hO1.block w.heap.size (by simp) (fun e => by cases e; omega)).trans h1
        have h3 := (hO2.block w.heap.size hs0 (fun e => by cases e; omega)).trans h2
        exact (((Ext.refl w2).alloc _).block w.heap.size (by omega)).trans h3, by omega, by omega, by omega, by omega, hR2.ext ((Ext.refl w2).alloc _), fun b o s e => by
        obtain ⟨b', o', e', hc⟩ := hR2.1.2 (by omega)
        rw [e] at e'
        cases e'
        obtain ⟨_, _, x0, e3, _, hc0⟩ := RI.at_ hR2.1 (show 0 < 3 by omega)
        rw [e] at e3
        cases e3
        have := World.block_lt_of_cell? w2 _ hc0
        simp at this; omega⟩)
  have HR2 := Lib.hid (RIg.ext hR2 ((Ext.refl w2).alloc (.cells #[.int .i64 (1 + x1), .slice none 0 0, .slice A 3 3] 48)))
  obtain ⟨wb, hwb⟩ : ∃ wb, wb = w2.alloc (.cells #[.int .i64 (1 + x1), .slice none 0 0, .slice A 3 3] 48) := ⟨_, rfl⟩
  obtain ⟨p, hp⟩ : ∃ p, p = w2.heap.size := ⟨_, rfl⟩
  have hpb : p < wb.heap.size := by rw [hwb, hp]; simp
  rw [← hwb] at HB HR2 ⊢
  rw [← hp] at HB ⊢
  clear hwb hp hR2
  obtain ⟨var, hvar⟩ : ∃ var, var = 1 + x1 := ⟨_, rfl⟩
  have hvb : 1 ≤ var ∧ var ≤ 2 := by omega
  rw [← hvar] at HB ⊢
  clear hvar
  refine wp_only (R := fun (a0 : Act) (a8 : Act) (w9 : World) => ∃ (s0 : Int) (s1 : Int) (s2 : Int) (q : Nat), a8 = (((((((((((a0.put (some 10) (.pointer (some ⟨g, 0, none⟩))).put (some 12) (.pointer (some ⟨g, 0, none⟩))).put (some 14) (.pointer (some ⟨p, 0, none⟩))).put (some 15) (.int .i64 var)).put (some 16) (.pointer (some ⟨g, 0, none⟩))).put (some 11) (.int .i64 s0)).put (some 13) (.int .i64 s1)).put (some 17) (.int .i64 s2)).put (some 18) (.int .i64 (var + s2))).put (some 19) (.slice (some ⟨q, 0, none⟩) 3 3)).put (some 20) (.pointer (some ⟨p, 1, none⟩))) ∧ ((0 ≤ s0 ∧ s0 < 3) ∧ (0 ≤ s1 ∧ s1 < 3) ∧ (0 ≤ s2 ∧ s2 < 2)) ∧ (p < q ∧ w.heap.size < q ∧ g < q ∧ q < w9.heap.size ∧ ∀ b o s, A = some ⟨b, o, s⟩ → b ≠ q) ∧ w9.heap[q]? = some (.cells #[.int .i64 s0, .int .i64 s1, .int .i64 (var + s2)] 2 (0, 0)) ∧ WtBox w w9 g w.heap.size p var A rk ∧ w9.cell? ⟨p, 1, none⟩ = some (.slice (some ⟨q, 0, none⟩) 3 3)) ?_ (fun a8 w5 hR => ?_)
  · refine wp_region_held_drew (S := (fun w' => WtBox w w' g w.heap.size p var A rk)) (by kernel_rfl) ((HB.out.step (HB.out.di.ext (Ext.refl wb).drew) (Only.of_ext (Ext.refl wb).drew g))) (fun hH => ?_)
    refine wpAnyH_take_dst (i := 0) (v := .pointer (some ⟨g, 0, none⟩)) (d := some 10) rfl rfl (by kernel_rfl) (by kernel_rfl) (by kernel_rfl) (fun _ _ _ h => h) (Or.inl ⟨by rfl, ?_⟩) hH ?_
    · (intro w' hE'; (try dsimp only at hE'); obtain ⟨y0, ⟨y1v, y1⟩, y2, yf, yd, yo, _⟩ := hE'; go_simp; try with_reducible rfl)
    try simp only [Act.put, List.setIfInBounds_toArray, List.set_cons_zero, List.set_cons_succ]
    refine wpAnyH_take_dst (i := 2) (v := .pointer (some ⟨g, 0, none⟩)) (d := some 12) rfl rfl (by kernel_rfl) (by kernel_rfl) (by kernel_rfl) (fun _ _ _ h => h) (Or.inl ⟨by rfl, ?_⟩) hH ?_
    · (intro w' hE'; (try dsimp only at hE'); obtain ⟨y0, ⟨y1v, y1⟩, y2, yf, yd, yo, _⟩ := hE'; go_simp; try with_reducible rfl)
    try simp only [Act.put, List.setIfInBounds_toArray, List.set_cons_zero, List.set_cons_succ]
    refine wpAnyH_take_dst (i := 4) (v := .pointer (some ⟨p, 0, none⟩)) (d := some 14) rfl rfl (by kernel_rfl) (by kernel_rfl) (by kernel_rfl) (fun _ _ _ h => h) (Or.inl ⟨by rfl, ?_⟩) hH ?_
    · (intro w' hE'; (try dsimp only at hE'); obtain ⟨y0, ⟨y1v, y1⟩, y2, yf, yd, yo, _⟩ := hE'; go_simp; try with_reducible rfl)
    try simp only [Act.put, List.setIfInBounds_toArray, List.set_cons_zero, List.set_cons_succ]
    refine wpAnyH_take_dst (i := 5) (v := .int .i64 var) (d := some 15) rfl rfl (by kernel_rfl) (by kernel_rfl) (by kernel_rfl) (fun _ _ _ h => h) (Or.inl ⟨by rfl, ?_⟩) hH ?_
    · (intro w' hE'; (try dsimp only at hE'); obtain ⟨y0, ⟨y1v, y1⟩, y2, yf, yd, yo, _⟩ := hE'; go_simp; try with_reducible rfl)
    try simp only [Act.put, List.setIfInBounds_toArray, List.set_cons_zero, List.set_cons_succ]
    refine wpAnyH_take_dst (i := 6) (v := .pointer (some ⟨g, 0, none⟩)) (d := some 16) rfl rfl (by kernel_rfl) (by kernel_rfl) (by kernel_rfl) (fun _ _ _ h => h) (Or.inl ⟨by rfl, ?_⟩) hH ?_
    · (intro w' hE'; (try dsimp only at hE'); obtain ⟨y0, ⟨y1v, y1⟩, y2, yf, yd, yo, _⟩ := hE'; go_simp; try with_reducible rfl)
    try simp only [Act.put, List.setIfInBounds_toArray, List.set_cons_zero, List.set_cons_succ]
    refine wpAnyH_ready (rs := [1]) (by kernel_rfl) (by simp) ?_
    refine AllReadyH.cons rfl (fun K hK => ?_) AllReadyH.nil
    rw [if_pos (by rfl)]
    go_wp2_with fail
    (with_reducible refine (c_below hH.di (by omega) (by omega)).mono ?_)
    rintro e w9 ⟨s0, rfl, hs0', hD9, hO9⟩
    refine hK.out _ _ (hH.step hD9 hO9) (fun hH9 => ?_)
    clear hK; have hH0 := hH; clear hH; have hH := hH9; clear hH9
    try simp only [Act.put, List.setIfInBounds_toArray, List.set_cons_zero, List.set_cons_succ]
    refine wpAnyH_ready (rs := [3]) (by kernel_rfl) (by simp) ?_
    refine AllReadyH.cons rfl (fun K hK => ?_) AllReadyH.nil
    rw [if_pos (by rfl)]
    go_wp2_with fail
    (with_reducible refine (c_below hH.di (by omega) (by omega)).mono ?_)
    rintro e w9 ⟨s1, rfl, hs1', hD9, hO9⟩
    refine hK.out _ _ (hH.step hD9 hO9) (fun hH9 => ?_)
    clear hK; have hH0 := hH; clear hH; have hH := hH9; clear hH9
    try simp only [Act.put, List.setIfInBounds_toArray, List.set_cons_zero, List.set_cons_succ]
    refine wpAnyH_ready (rs := [7]) (by kernel_rfl) (by simp) ?_
    refine AllReadyH.cons rfl (fun K hK => ?_) AllReadyH.nil
    rw [if_pos (by rfl)]
    go_wp2_with fail
    (with_reducible refine (c_below hH.di (by omega) (by omega)).mono ?_)
    rintro e w9 ⟨s2, rfl, hs2', hD9, hO9⟩
    refine hK.out _ _ (hH.step hD9 hO9) (fun hH9 => ?_)
    clear hK; have hH0 := hH; clear hH; have hH := hH9; clear hH9
    try simp only [Act.put, List.setIfInBounds_toArray, List.set_cons_zero, List.set_cons_succ]
    refine wpAnyH_take_dst (i := 8) (v := .int .i64 (IntKind.i64.wrap (var + s2))) (d := some 18) rfl rfl (by kernel_rfl) (by kernel_rfl) (by kernel_rfl) (fun _ _ _ h => h) (Or.inl ⟨by rfl, ?_⟩) hH ?_
    · (intro w' hE'; (try dsimp only at hE'); obtain ⟨y0, ⟨y1v, y1⟩, y2, yf, yd, yo, _⟩ := hE'; go_simp; try with_reducible rfl)
    try simp only [Act.put, List.setIfInBounds_toArray, List.set_cons_zero, List.set_cons_succ]
    refine wpAnyH_ready (rs := [9]) (by kernel_rfl) (by simp) ?_
    refine AllReadyH.cons rfl (fun K hK => ?_) AllReadyH.nil
    rw [if_pos (by rfl)]
    have hlt9 := hH.lt; have hrl9 := (Array.getElem?_eq_some_iff.1 hH.rb).1; obtain ⟨y1w, hy1w⟩ := hH.c1; have hA9 := RI.blt hH.ra.1 (by omega); go_wp2_with fail
    refine hK.out _ _ (hH.alloc _) (fun hH9 => ?_)
    clear hK; have hH0 := hH; clear hH; have hH := hH9; clear hH9
    try simp only [Act.put, List.setIfInBounds_toArray, List.set_cons_zero, List.set_cons_succ]
    refine wpAnyH_take_dst (i := 10) (v := .pointer (some ⟨p, 1, none⟩)) (d := some 20) rfl rfl (by kernel_rfl) (by kernel_rfl) (by kernel_rfl) (fun _ _ _ h => h) (Or.inl ⟨by rfl, ?_⟩) hH ?_
    · (intro w' hE'; (try dsimp only at hE'); obtain ⟨y0, ⟨y1v, y1⟩, y2, yf, yd, yo, _⟩ := hE'; go_simp; try with_reducible rfl)
    try simp only [Act.put, List.setIfInBounds_toArray, List.set_cons_zero, List.set_cons_succ]
    refine wpAnyH_ready (rs := [11]) (by kernel_rfl) (by simp) ?_
    refine AllReadyH.cons rfl (fun K hK => ?_) AllReadyH.nil
    rw [if_pos (by rfl)]
    have z0 := hH.c0; obtain ⟨z1v, z1⟩ := hH.c1; have zf := hH.fr; go_wp2_with fail
    refine hK.out _ _ ((hH0.set _).alloc _) (fun hH9 => ?_)
    clear hK; have hH0 := hH; clear hH; have hH := hH9; clear hH9
    try simp only [Act.put, List.setIfInBounds_toArray, List.set_cons_zero, List.set_cons_succ]
    refine wpAnyH_done (by kernel_rfl) ?_ _
    exact ⟨s0, s1, s2, w9.heap.size, by rfl, ⟨hs0', hs1', hs2'⟩, ⟨hlt9, hrl9, hD9.lt, by simp, fun b o s e e2 => by have := hA9 b o s e; omega⟩, by simpa using heap_alloc_new (w9.setCell ⟨p, 1, none⟩ (.slice (some ⟨w9.heap.size, 0, none⟩) 3 3)) (.cells #[.int .i64 s0, .int .i64 s1, .int .i64 (var + s2)] 2), hH, Ext.keep ((Ext.refl _).alloc _) (World.cell?_setCell_same _ _ _ hy1w)⟩
  obtain ⟨s0, s1, s2, q, ha, ⟨⟨hb0, hb1, hb2⟩, ⟨hqp, hqr, hqg, hqw, hAq⟩, hq, hB5, hc5⟩⟩ := hR
  simp only [Act.put, List.setIfInBounds_toArray, List.set_cons_zero, List.set_cons_succ] at ha
  subst ha
  have HB5 := Lib.hid hB5
  obtain ⟨b1, o1, r1, e1, hr1, hcr1⟩ := RI.at_ hB5.ra.1 (show 1 < 3 by omega)
  have hA1 : A = some ⟨b1, o1, none⟩ := e1
  have hm0 := hB5.c0
  have hm2 := hB5.c2
  rw [hA1] at hm2
  have hmf := hB5.fr
  have hqc : ∀ j : Nat, w5.cell? ⟨q, j, none⟩ = #[Value.int .i64 s0, .int .i64 s1, .int .i64 (var + s2)][j]? := fun j => cell_of_row w5 q _ _ _ (0, 0) hq
  have hq1 : w5.cell? ⟨q, 1, none⟩ = some (.int .i64 s1) := hqc 1
  have hqf : ∀ j, w5.frozen? ⟨q, j, none⟩ = false := fun j => frozen_of_row w5 _ _ _ _ hq
  have hrc : ∀ j : Nat, w5.cell? ⟨w.heap.size, j, none⟩ = #[Value.int .i64 0, .slice none 0 0, .slice none 0 0][j]? := fun j => cell_of_row w5 _ _ _ _ (0, 0) hB5.rb
  have hr0 : w5.cell? ⟨w.heap.size, 0, none⟩ = some (.int .i64 0) := hrc 0
  have hr1' : w5.cell? ⟨w.heap.size, 1, none⟩ = some (.slice none 0 0) := hrc 1
  have hr2 : w5.cell? ⟨w.heap.size, 2, none⟩ = some (.slice none 0 0) := hrc 2
  have hrf : ∀ j, w5.frozen? ⟨w.heap.size, j, none⟩ = false := fun j => frozen_of_row w5 _ _ _ _ hB5.rb
  have hrp := hB5.rp
  have hbr : ∀ b o s, A = some ⟨b, o, s⟩ → b ≠ w.heap.size := fun b o s e e2 => by
    rw [hA1] at e; cases e; subst e2
    have h9 := hrc (o1 + 1)
    rw [hcr1] at h9
    match o1, h9 with
    | 0, h9 => cases h9
    | 1, h9 => cases h9
    | o + 2, h9 => simp at h9
  have hqq : RI w5 (some ⟨q, 0, none⟩) 3 [s0, s1, var + s2] := RI.lit (xs := [s0, s1, var + s2]) hq (by simp)
  have HP := Lib.hid hP2
  have HBR := Lib.hid hbr
  have hgr := hgl
  have hvl : (0 : Int) ≤ 1 := by omega
  by_cases c1 : s1 = 0
  · subst c1
    by_cases c2 : r1 = 2
    · subst c2
      have hF := fun v0 v1 v2 => wt_done (v0 := v0) (v1 := v1) (v2 := v2) hB5.di hB5.on (Nat.le_refl _) hgl hqq (by omega) (by omega) hB5.ra hbr
      have HF := Lib.hid hF
      go_wp2_with fail
      refine bodyPost_ret (v := .agg #[.int .i64 var, .slice (some ⟨q, 0, none⟩) 3 3, .slice (some ⟨b1, o1, none⟩) 3 3]) (by simp [results, Try.results19, go_sem, hr0, hr1', hr2, hrf]) rfl ?_
      rw [hA1] at HF
      exact ⟨_, _, ⟨var, [s0, 0, var + s2], rk⟩, rfl, (HF.out _ _ _).1, (HF.out _ _ _).2.1, wt_sym hvb hb0 hb1 hb2 HP.out (fun _ => hr1), (HF.out _ _ _).2.2.1, (HF.out _ _ _).2.2.2⟩
    · have c2b : (r1 != 2) = true := by simpa using c2
      have hq6 : RI (w5.setCell ⟨q, 1, none⟩ (.int .i64 1)) (some ⟨q, 0, none⟩) 3 [s0, 1, var + s2] := by
        refine ⟨⟨rfl, by omega⟩, fun _ => ⟨q, 0, rfl, fun j x hx => ?_⟩⟩
        rw [Nat.zero_add]
        match j, hx with
        | 0, hx => cases hx; exact (World.cell?_setCell_other _ _ _ _ (by simp)).trans (hqc 0)
        | 1, hx => cases hx; exact World.cell?_setCell_same _ _ _ hq1
        | 2, hx => cases hx; exact (World.cell?_setCell_other _ _ _ _ (by simp)).trans (hqc 2)
        | j + 3, hx => simp at hx
      have hS := Only.setCell w5 q 1 (.int .i64 1)
      have hF := fun v0 v1 v2 => wt_done (v0 := v0) (v1 := v1) (v2 := v2) (hB5.di.grown hS (fun b e => by cases e; exact hqg)) (hB5.on.grown hS (fun b e => by cases e; exact Nat.le_of_lt hqr)) (Nat.le_refl _) hgl hq6 (by omega) (by omega) ⟨RI.only hB5.ra.1 hS (fun b o s e _ => hAq b o s e), hB5.ra.2⟩ hbr
      have HF := Lib.hid hF
      go_wp2_with fail
      refine bodyPost_ret (v := .agg #[.int .i64 var, .slice (some ⟨q, 0, none⟩) 3 3, .slice (some ⟨b1, o1, none⟩) 3 3]) (by simp [results, Try.results19, go_sem, hr0, hr1', hr2, hrf]) rfl ?_
      rw [hA1] at HF
      exact ⟨_, _, ⟨var, [s0, 1, var + s2], rk⟩, rfl, (HF.out _ _ _).1, (HF.out _ _ _).2.1, wt_sym hvb hb0 (by omega) hb2 HP.out (fun h => by omega), (HF.out _ _ _).2.2.1, (HF.out _ _ _).2.2.2⟩
  · have c1b : (s1 == 0) = false := by simpa using c1
    have hF := fun v0 v1 v2 => wt_done (v0 := v0) (v1 := v1) (v2 := v2) hB5.di hB5.on (Nat.le_refl _) hgl hqq (by omega) (by omega) hB5.ra hbr
    have HF := Lib.hid hF
    go_wp2_with fail
    refine bodyPost_ret (v := .agg #[.int .i64 var, .slice (some ⟨q, 0, none⟩) 3 3, .slice (some ⟨b1, o1, none⟩) 3 3]) (by simp [results, Try.results19, go_sem, hr0, hr1', hr2, hrf]) rfl ?_
    rw [hA1] at HF
    exact ⟨_, _, ⟨var, [s0, s1, var + s2], rk⟩, rfl, (HF.out _ _ _).1, (HF.out _ _ _).2.1, wt_sym hvb hb0 hb1 hb2 HP.out (fun h => absurd h c1), (HF.out _ _ _).2.2.1, (HF.out _ _ _).2.2.2⟩

end Go.Proofs.Ytleahogikppepaa
