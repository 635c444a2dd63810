/- Several texts in one: MarkSy, BaN. -/
import Derived.Test.YtibeelcnooelkaaQ32
import Derived.Test.YtibeelcnooelkaaQ13
import Derived.Test.YtibeelcnooelkaaQ24
namespace Go.Proofs.Ytibeelcnooelkaa
open Go.RowKit
set_option linter.unusedSimpArgs false
set_option linter.unusedVariables false
def Same (w w' : World) : Prop := ∀ b o v, w.cell? ⟨b, o, none⟩ = some v → (∃ v', w'.cell? ⟨b, o, none⟩ = some v') ∧ w'.frozen? ⟨b, o, none⟩ = w.frozen? ⟨b, o, none⟩
theorem Same.refl (w : World) : Same w w := fun b o v h => ⟨⟨v, h⟩, rfl⟩
theorem Same.trans {a b c : World} (h : Same a b) (k : Same b c) : Same a c := fun g o v hv => by
  obtain ⟨⟨v', h1⟩, h2⟩ := h g o v hv
  obtain ⟨h3, h4⟩ := k g o v' h1
  exact ⟨h3, h4.trans h2⟩
theorem Same.set (w : World) (g i : Nat) (u : Value) : Same w (w.setCell ⟨g, i, none⟩ u) := fun b o v h => by
  refine ⟨?_, World.frozen?_setCell _ _ _ _⟩
  by_cases e : (⟨b, o, none⟩ : Addr) = ⟨g, i, none⟩
  · rw [e] at h ⊢; exact ⟨u, World.cell?_setCell_same _ _ _ h⟩
  · exact ⟨v, by rw [World.cell?_setCell_other _ _ _ _ (by first | exact e | exact Ne.symm e)]; exact h⟩
theorem Same.ext {w w' : World} (h : Ext w w') : Same w w' := fun b o v hv => ⟨⟨v, Ext.keep h hv⟩, Below.frozen (p := ⟨b, o, none⟩) h (World.block_lt_of_cell? w _ hv)⟩
def FreeI (w : World) (lo hi : Nat) (A : Option Addr) (n : Nat) : Prop := n ≤ 4194304 ∧ (0 < n → ∃ g o, A = some ⟨g, o, none⟩ ∧ lo ≤ g ∧ g < hi ∧ ∀ j, j < n → (∃ v, w.cell? ⟨g, o + j, none⟩ = some v) ∧ w.frozen? ⟨g, o + j, none⟩ = false)
theorem FreeI.same {w w' : World} {lo hi n : Nat} {A : Option Addr} (h : FreeI w lo hi A n) (k : Same w w') : FreeI w' lo hi A n :=
  ⟨h.1, fun h0 => by
    obtain ⟨g, o, hA, h1, h2, h3⟩ := h.2 h0
    refine ⟨g, o, hA, h1, h2, fun j hj => ?_⟩
    obtain ⟨⟨v, hv⟩, hf⟩ := h3 j hj
    obtain ⟨h4, h5⟩ := k _ _ v hv
    exact ⟨h4, h5.trans hf⟩⟩
theorem OwI.free {w : World} {D n c : Nat} {A : Option Addr} {xs : List Int} (h : OwI w D A n c xs) : FreeI w D w.heap.size A n := by
  refine ⟨h.le, fun h0 => ?_⟩
  rcases h.form with ⟨_, h1, _⟩ | ⟨g, hA, h1, h2⟩
  · omega
  · subst hA
    refine ⟨g, 0, rfl, h1, h2, fun j hj => ?_⟩
    obtain ⟨x, _, hc, hf⟩ := h.at_ hj
    rw [Nat.zero_add]; exact ⟨⟨_, hc⟩, hf⟩
theorem FreeI.mono {w : World} {lo hi lo' hi' n : Nat} {A : Option Addr} (h : FreeI w lo hi A n) (h1 : lo' ≤ lo) (h2 : hi ≤ hi') : FreeI w lo' hi' A n :=
  ⟨h.1, fun h0 => by obtain ⟨g, o, hA, a, b, c⟩ := h.2 h0; exact ⟨g, o, hA, by omega, by omega, c⟩⟩
set_option maxHeartbeats 1000000 in
theorem c_markFree {A : Option Addr} {n c lo hi : Nat} {k : Int} {w : World} (h0 : FreeI w lo hi A n) (hk : 0 ≤ k) (hk2 : k ≤ 1000000000000000) :
    Calls Try.prog 21 #[.slice A n c, .int .i64 k] w fun e w' => e = .returned (.int .i64 (k + n)) ∧ Turn lo hi w w' ∧ Same w w' ∧ ∀ b o, (∀ g o' s, A = some ⟨g, o', s⟩ → b ≠ g) → w'.cell? ⟨b, o, none⟩ = w.cell? ⟨b, o, none⟩ := by
  have hn := h0.1
  have H0 := Lib.hid h0
  clear h0
  go_enter Try.func21, Try.ntmps21
  go_wp2
  go_loopw [1, 5] (fun x i wr => ∃ q : Nat, i = .int .i64 q ∧ q ≤ n ∧ x = .int .i64 (k + q) ∧ Hid (Turn lo hi w wr ∧ Same w wr ∧ ∀ b o, (∀ g o' s, A = some ⟨g, o', s⟩ → b ≠ g) → wr.cell? ⟨b, o, none⟩ = w.cell? ⟨b, o, none⟩)) (fun _ i _ => n - (intOf i).toNat)
  case atStart => exact ⟨0, rfl, Nat.zero_le _, by simp, Lib.hid ⟨Turn.refl _ _ _, Same.refl _, fun _ _ _ => rfl⟩⟩
  case round =>
    obtain ⟨q, rfl, hq, rfl, hT⟩ := hrel
    by_cases hlt : q < n
    · obtain ⟨g, o, hA, hg1, hg2, hc⟩ := (H0.out.same hT.out.2.1).2 (by omega)
      subst hA
      obtain ⟨⟨v, hv⟩, hf⟩ := hc q hlt
      have hqi : (q : Int) < (n : Int) := by omega
      have hq0 : (0 : Int) ≤ (q : Int) := by omega
      have hw : IntKind.i64.wrap (k + (q : Int) + 1) = k + (q : Int) + 1 := IntWalk.i64_in _ (by omega)
      have HN := Lib.hid (show Turn lo hi w (wr.setCell ⟨g, o + q, none⟩ (.int .i64 (k + (q : Int)))) ∧ Same w (wr.setCell ⟨g, o + q, none⟩ (.int .i64 (k + (q : Int)))) ∧ ∀ b o', (∀ g' o'' s, (some ⟨g, o, none⟩ : Option Addr) = some ⟨g', o'', s⟩ → b ≠ g') → (wr.setCell ⟨g, o + q, none⟩ (.int .i64 (k + (q : Int)))).cell? ⟨b, o', none⟩ = w.cell? ⟨b, o', none⟩ from
        ⟨hT.out.1.trans (Turn.set ⟨hg1, hg2⟩), hT.out.2.1.trans (Same.set _ _ _ _), fun b o' hb => by
          rw [World.cell?_setCell_other _ _ _ _ (by have := hb g o none rfl; first | (simp; done) | (simp; omega))]; exact hT.out.2.2 b o' hb⟩)
      clear hc
      go_wp2
      go_roundw
      case rel => exact ⟨q + 1, by go_num, by omega, by go_num, HN⟩
      case measure => simp only [intOf]; omega
    · go_wp2
      go_ret
      have hqn : q = n := by omega
      subst hqn
      exact ⟨rfl, hT.out⟩
def FreeR (w : World) (lo hi : Nat) (B : Option Addr) (m : Nat) : Prop := m ≤ 4194304 ∧ ∃ g, B = some ⟨g, 0, none⟩ ∧ ∀ j, j < m → ∃ (A1 : Option Addr) (n1 c1 : Nat) (A2 : Option Addr) (n2 c2 : Nat),
  w.cell? ⟨g, j * 2, none⟩ = some (.slice A1 n1 c1) ∧ w.cell? ⟨g, j * 2 + 1, none⟩ = some (.slice A2 n2 c2) ∧ FreeI w lo hi A1 n1 ∧ FreeI w lo hi A2 n2 ∧ (∀ b o s, A1 = some ⟨b, o, s⟩ → g ≠ b) ∧ ∀ b o s, A2 = some ⟨b, o, s⟩ → g ≠ b
theorem FreeR.ext {w w' : World} {lo hi m : Nat} {B : Option Addr} (h : FreeR w lo hi B m) (k : Ext w w') : FreeR w' lo hi B m := by
  obtain ⟨h1, g, hB, h2⟩ := h
  refine ⟨h1, g, hB, fun j hj => ?_⟩
  obtain ⟨A1, n1, c1, A2, n2, c2, a, b, c, d, e, f⟩ := h2 j hj
  exact ⟨A1, n1, c1, A2, n2, c2, Ext.keep k a, Ext.keep k b, c.same (Same.ext k), d.same (Same.ext k), e, f⟩
theorem OwR.free {w : World} {lo m : Nat} {B : Option Addr} {rs : List Ru} (h : OwR w lo B m rs) : FreeR w lo w.heap.size B m := by
  obtain ⟨⟨h1, h1'⟩, g, cs, rfl, _, hh, hG⟩ := h
  refine ⟨h1', g, rfl, fun j hj => ?_⟩
  have hr : rs[j]? = some (rs[j]'(by omega)) := List.getElem?_eq_getElem (by omega)
  obtain ⟨⟨A, n, c, e1, e2, e3⟩, ⟨A', n', c', f1, f2, f3⟩⟩ := hG j _ hj hr
  exact ⟨A, n, c, A', n', c', by rw [cell_of_row w g _ cs _ (0, 0) hh]; exact e1, by rw [cell_of_row w g _ cs _ (0, 0) hh]; exact f1, e2.free, f2.free, fun b o s e => (e3 b o s e).symm, fun b o s e => (f3 b o s e).symm⟩
theorem FreeR.step {w w' : World} {lo hi m g : Nat} (h : FreeR w lo hi (some ⟨g, 0, none⟩) m) (hs : Same w w') (hc : 0 < m → ∀ o, w'.cell? ⟨g, o, none⟩ = w.cell? ⟨g, o, none⟩) : FreeR w' lo hi (some ⟨g, 0, none⟩) m := by
  obtain ⟨h1, g', hB, h2⟩ := h
  cases hB
  refine ⟨h1, g, rfl, fun j hj => ?_⟩
  obtain ⟨A1, n1, c1, A2, n2, c2, a, b, c, d, e, f⟩ := h2 j hj
  exact ⟨A1, n1, c1, A2, n2, c2, (hc (by omega) _).trans a, (hc (by omega) _).trans b, c.same hs, d.same hs, e, f⟩
set_option maxRecDepth 100000 in
set_option maxHeartbeats 2000000 in
theorem c_markRuleS {B : Option Addr} {m c lo hi : Nat} {k0 : Int} {w : World} (h0 : FreeR w lo hi B m) (hk : 0 ≤ k0) (hk2 : k0 ≤ 1000000000000) :
    Calls Try.prog 47 #[.slice B m c, .int .i64 k0] w fun e w' => ∃ k1 : Int, e = .returned (.int .i64 k1) ∧ (k0 ≤ k1 ∧ k1 ≤ k0 + m * 8388608) ∧ Turn lo hi w w' := by
  have hm := h0.1
  obtain ⟨g, rfl⟩ : ∃ g, B = some ⟨g, 0, none⟩ := by obtain ⟨_, g, h, _⟩ := h0; exact ⟨g, h⟩
  have H0 := Lib.hid h0
  clear h0
  go_enter Try.func47, Try.ntmps47
  go_wp2
  go_loopw [1, 5] (fun x i wr => ∃ q : Nat, i = .int .i64 q ∧ q ≤ m ∧ (∃ y : Int, x = .int .i64 y ∧ k0 ≤ y ∧ y ≤ k0 + q * 8388608) ∧ Hid (Turn lo hi w wr ∧ FreeR wr lo hi (some ⟨g, 0, none⟩) m)) (fun _ i _ => m - (intOf i).toNat)
  case atStart => exact ⟨0, rfl, Nat.zero_le _, ⟨k0, rfl, by omega, by omega⟩, Lib.hid ⟨Turn.refl _ _ _, H0.out⟩⟩
  case round =>
    obtain ⟨q, rfl, hq, ⟨y, rfl, hy1, hy2⟩, hM⟩ := hrel
    by_cases hlt : q < m
    · obtain ⟨_, g', hB, hG⟩ := hM.out.2
      cases hB
      obtain ⟨A1, n1, c1, A2, n2, c2, hc1, hc2, hf1, hf2, hne1, hne2⟩ := hG q hlt
      have HF1 := Lib.hid hf1
      have HF2 := Lib.hid hf2
      have hn1 := hf1.1
      have hn2 := hf2.1
      have hqi : (q : Int) < (m : Int) := by omega
      have hq0 : (0 : Int) ≤ (q : Int) := by omega
      clear hG hf1 hf2
      go_wp2_with fail
      (with_reducible refine (c_markFree HF1.out (by omega) (by omega)).mono ?_)
      rintro e5 w5 ⟨rfl, hT5, hS5, hC5⟩
      have hd2 : w5.cell? ⟨g, q * 2 + 1, none⟩ = some (.slice A2 n2 c2) := (hC5 g _ hne1).trans hc2
      have HT5 := Lib.hid hT5
      have HS5 := Lib.hid hS5
      have HC5 := Lib.hid hC5
      clear hT5 hS5 hC5
      go_wp2_with fail
      (with_reducible refine (c_markFree (HF2.out.same HS5.out) (by omega) (by omega)).mono ?_)
      rintro e6 w6 ⟨rfl, hT6, hS6, hC6⟩
      have HN := Lib.hid (show Turn lo hi w w6 ∧ FreeR w6 lo hi (some ⟨g, 0, none⟩) m from ⟨(hM.out.1.trans HT5.out).trans hT6, (hM.out.2.step HS5.out (fun _ o => HC5.out g o hne1)).step hS6 (fun _ o => hC6 g o hne2)⟩)
      clear hT6 hS6 hC6
      go_wp2
      go_roundw
      case rel => exact ⟨q + 1, by go_num, by omega, ⟨_, rfl, by omega, by omega⟩, HN⟩
      case measure => simp only [intOf]; omega
    · go_wp2
      go_ret
      have hqm : q = m := by omega
      subst hqm
      exact ⟨y, rfl, ⟨hy1, hy2⟩, hM.out.1⟩
set_option maxHeartbeats 1000000 in
theorem c_markSigF {A : Option Addr} {n c lo hi : Nat} {k : Int} {w : World} (h0 : FreeI w lo hi A n) (hk : 0 ≤ k) (hk2 : k ≤ 1000000000000) :
    Calls Try.prog 46 #[.agg #[.slice A n c], .int .i64 k] w fun e w' => e = .returned (.int .i64 (k + n)) ∧ Turn lo hi w w' ∧ Same w w' ∧ ∀ b o, b < w.heap.size → (∀ g o' s, A = some ⟨g, o', s⟩ → b ≠ g) → w'.cell? ⟨b, o, none⟩ = w.cell? ⟨b, o, none⟩ := by
  have H0 := Lib.hid h0
  clear h0
  go_enter Try.func46, Try.ntmps46
  go_wp2_with (go_at_call 21; (with_reducible refine (c_markFree (lo := lo) (hi := hi) (H0.out.same (Same.ext (by exact extX))) hk (by omega)).mono ?_); rintro e w2 ⟨rfl, hT, hS, hC⟩; have HT := Lib.hid hT; have HS := Lib.hid hS; have HC := Lib.hid hC; clear hT hS hC)
  go_ret
  refine ⟨rfl, (Turn.of_ext (by exact extX)).trans HT.out, (Same.ext (by exact extX)).trans HS.out, fun b o hb h => (HC.out b o h).trans ?_⟩
  exact World.cell?_alloc_lt _ _ _ hb
set_option maxHeartbeats 2000000 in
theorem c_markSystem {A B : Option Addr} {n c m d lo hi : Nat} {k : Int} {w : World} (h0 : FreeI w lo hi A n) (h1 : FreeR w lo hi B m) (hne : ∀ b o s g o' s', A = some ⟨b, o, s⟩ → B = some ⟨g, o', s'⟩ → g ≠ b) (hA : ∀ b o s, A = some ⟨b, o, s⟩ → b < w.heap.size) (hk : 0 ≤ k) (hk2 : k ≤ 1000000000) :
    Calls Try.prog 20 #[.agg #[.slice A n c, .slice B m d], .int .i64 k] w fun e w' => ∃ k1 : Int, e = .returned (.int .i64 k1) ∧ (k ≤ k1 ∧ k1 ≤ k + 4194304 + m * 8388608) ∧ Turn lo hi w w' := by
  have hn := h0.1
  obtain ⟨g, rfl⟩ : ∃ g, B = some ⟨g, 0, none⟩ := by obtain ⟨_, g, h, _⟩ := h1; exact ⟨g, h⟩
  have H0 := Lib.hid h0
  have H1 := Lib.hid h1
  have HN := Lib.hid hne
  clear h0 h1 hne
  go_enter Try.func20, Try.ntmps20
  go_wp2_with fail
  obtain ⟨wo, hwo⟩ : ∃ wo, wo = w.alloc (.cells #[.slice A n c, .slice (some ⟨g, 0, none⟩) m d] 32) := ⟨_, rfl⟩
  have hw1 : wo.cell? ⟨w.heap.size, 1, none⟩ = some (.slice (some ⟨g, 0, none⟩) m d) := by rw [hwo]; simp [go_sem]
  have hEo : Ext w wo := by rw [hwo]; exact extX
  have hsz : w.heap.size < wo.heap.size := World.block_lt_of_cell? wo _ hw1
  have H0o := Lib.hid (H0.out.same (Same.ext hEo))
  have H1o := Lib.hid (H1.out.ext hEo)
  have hEo' := hEo
  rw [← hwo]
  clear hwo
  (with_reducible refine (c_markSigF (lo := lo) (hi := hi) H0o.out hk (by omega)).mono ?_)
  rintro e5 w5 ⟨rfl, hT5, hS5, hC5⟩
  have hd1 : w5.cell? ⟨w.heap.size, 1, none⟩ = some (.slice (some ⟨g, 0, none⟩) m d) := (hC5 _ _ hsz (fun g' o s e => by have := hA g' o s e; omega)).trans hw1
  have HT5 := Lib.hid hT5
  have HF5 := Lib.hid (H1o.out.step hS5 (fun hm o => hC5 g o (by
    obtain ⟨_, g', hB, h2⟩ := H1o.out
    cases hB
    obtain ⟨A1, n1, c1, A2, n2, c2, a, _⟩ := h2 0 hm
    exact World.block_lt_of_cell? wo _ a) (fun b o' s e => HN.out b o' s g 0 none e rfl)))
  clear hT5 hS5 hC5
  go_wp2_with fail
  (with_reducible refine (c_markRuleS HF5.out (by omega) (by omega)).mono ?_)
  rintro e6 w6 ⟨k1, rfl, ⟨hk1, hk1'⟩, hT6⟩
  have HT6 := Lib.hid (((Turn.of_ext hEo').trans HT5.out).trans hT6)
  clear hT6
  go_wp2
  go_ret
  exact ⟨k1, rfl, ⟨by omega, by omega⟩, HT6.out⟩
def NewSyO (w : World) (s : Sy) (e : Ending) (w' : World) : Prop := ∃ A n c B m, e = .returned (.agg #[.slice A n c, .slice B m m]) ∧ RI w' A n s.ar ∧ RR true w' B m s.rs ∧ FreeI w' w.heap.size w'.heap.size A n ∧ FreeR w' w.heap.size w'.heap.size B m ∧ (∀ b o s g o' s', A = some ⟨b, o, s⟩ → B = some ⟨g, o', s'⟩ → g ≠ b) ∧ (∀ b o s, A = some ⟨b, o, s⟩ → b < w'.heap.size) ∧ Ext w w'
theorem FreeR.lower {w : World} {lo lo' hi m : Nat} {B : Option Addr} (h : FreeR w lo hi B m) (hl : lo' ≤ lo) : FreeR w lo' hi B m := by
  obtain ⟨h1, g, hB, h2⟩ := h
  refine ⟨h1, g, hB, fun j hj => ?_⟩
  obtain ⟨A1, n1, c1, A2, n2, c2, a, b, c, d, e, f⟩ := h2 j hj
  exact ⟨A1, n1, c1, A2, n2, c2, a, b, c.mono hl (Nat.le_refl _), d.mono hl (Nat.le_refl _), e, f⟩
set_option maxHeartbeats 2000000 in
theorem c_toSystemO {v : Value} {s : Sy} {w : World} (h0 : RdSy w v s) : Calls Try.prog 17 #[v] w (NewSyO w s) := by
  obtain ⟨A, n, c, B, m, d, rfl, ha, hb⟩ := h0
  have HA := Lib.hid ha
  have HB := Lib.hid hb
  clear ha hb
  go_enter Try.func17, Try.ntmps17
  go_wp2_with (first
    | (go_at_call 42; (with_reducible refine (c_toSig (ar := s.ar) (RdSig.mk (RI.ext HA.out (by exact extX)))).mono ?_); rintro e w1 ⟨A1, n1, c1, rfl, hO1, hE1⟩; have HA1 := Lib.hid (OwI.bd hO1); have HR1 := Lib.hid (OwI.ri hO1); have HO1 := Lib.hid (OwI.lower (B' := w.heap.size) hO1 (by go_size)); clear hO1; have hz1 := sz_of hE1; (try simp only [World.size_alloc, World.size_setCell, World.size_drew] at hz1); obtain ⟨hc1, hf1⟩ := bcell hE1; (try have hq1_0 : w.heap.size < w1.heap.size := by omega); (try have hq1_1 : w.heap.size + 1 < w1.heap.size := by omega); (try have hq1_2 : w.heap.size + 1 + 1 < w1.heap.size := by omega); (try have hq1_3 : w.heap.size + 1 + 1 + 1 < w1.heap.size := by omega); (try have hq1_4 : w.heap.size + 1 + 1 + 1 + 1 < w1.heap.size := by omega); (try have hq1_5 : w.heap.size + 1 + 1 + 1 + 1 + 1 < w1.heap.size := by omega))
    | (go_at_call 43; (with_reducible refine (c_toRuleS (rs := s.rs) (RR.ext HB.out (by exact extX))).mono ?_); rintro e w2 ⟨B2, rfl, hR2, hE2⟩; have HR2 := Lib.hid hR2; clear hR2; have hz2 := sz_of hE2; (try simp only [World.size_alloc, World.size_setCell, World.size_drew] at hz2); obtain ⟨hc2, hf2⟩ := bcell hE2; (try have hq2_0 : w.heap.size < w2.heap.size := by omega); (try have hq2_1 : w.heap.size + 1 < w2.heap.size := by omega); (try have hq2_2 : w.heap.size + 1 + 1 < w2.heap.size := by omega); (try have hq2_3 : w.heap.size + 1 + 1 + 1 < w2.heap.size := by omega); (try have hq2_4 : w.heap.size + 1 + 1 + 1 + 1 < w2.heap.size := by omega); (try have hq2_5 : w.heap.size + 1 + 1 + 1 + 1 + 1 < w2.heap.size := by omega); (try have hx2_1 : w1.heap.size < w2.heap.size := by omega)))
  refine bodyPost_ret (v := .agg #[.slice A1 n1 c1, .slice B2 m m]) (by simp [results, Try.results17, go_sem, hc1, hc2, hq1_0, hq1_1, hq1_2, hq2_0, hq2_1, hq2_2]) rfl ?_
  obtain ⟨lo, h5, h6, h7⟩ : ∃ lo, OwR w2 lo B2 m s.rs ∧ w.heap.size + 3 ≤ lo ∧ w1.heap.size ≤ lo := ⟨_, HR2.out, by simp [go_sem]; omega, by simp [go_sem]⟩
  refine ⟨A1, n1, c1, B2, m, rfl, ?_, ?_, ?_, ?_, ?_, ?_, ?_⟩
  · exact OwI.ri (B := w.heap.size) (c := c1) (by (repeat' (first | (with_reducible refine OwI.setFar ?_ _ (far_lt HA1.out ?_)) | (with_reducible refine OwI.alloc ?_ _) | (with_reducible refine OwI.drewN ?_ _) | (with_reducible exact HO1.out) | (with_reducible refine OwI.ext ?_ (by with_reducible assumption)) | (left; go_size) | (right; go_size))))
  · refine OwR.rr (lo := lo) ?_
    (repeat' (first | (with_reducible exact h5) | (with_reducible refine OwR.setFar ?_ _ ?_) | (simp; omega)))
  · exact OwI.free (D := w.heap.size) (c := c1) (xs := s.ar) (by (repeat' (first | (with_reducible refine OwI.setFar ?_ _ (far_lt HA1.out ?_)) | (with_reducible refine OwI.alloc ?_ _) | (with_reducible refine OwI.drewN ?_ _) | (with_reducible exact HO1.out) | (with_reducible refine OwI.ext ?_ (by with_reducible assumption)) | (left; go_size) | (right; go_size))))
  · refine FreeR.lower (OwR.free (lo := lo) (rs := s.rs) ?_) (by omega)
    (repeat' (first | (with_reducible exact h5) | (with_reducible refine OwR.setFar ?_ _ ?_) | (simp; omega)))
  · intro b o s' g o' s'' e1 e2
    have h8 := (HA1.out b o s' e1).2
    obtain ⟨_, g', cs, hB, hg, _⟩ := h5
    rw [e2] at hB; cases hB
    omega
  · intro b o s' e1; have h8 := (HA1.out b o s' e1).2; have h9 := hE2.size; simp [go_sem] at h9 ⊢; omega
  · exact extX
end Go.Proofs.Ytibeelcnooelkaa
namespace Go.Proofs.Ytibeelcnooelkaa
open Go.Conc Go.ChangeShapes Go.WideShapes Go.ChangeAt Go.RowKit
set_option linter.unusedVariables false
set_option linter.unusedSimpArgs false
set_option maxRecDepth 100000
noncomputable def bodyW : Code := Try.f5.body.getD .skip
noncomputable def lw0 : Code := match bodyW with | .seq r _ => r | _ => .skip
noncomputable def lw1 : Code := match bodyW with | .seq _ (.seq r _) => r | _ => .skip
noncomputable def lw2 : Code := match bodyW with | .seq _ (.seq _ (.seq r _)) => r | _ => .skip
noncomputable def lw3 : Code := match bodyW with | .seq _ (.seq _ (.seq _ (.seq r _))) => r | _ => .skip
noncomputable def lw4 : Code := match bodyW with | .seq _ (.seq _ (.seq _ (.seq _ (.seq r _)))) => r | _ => .skip
noncomputable def lw5 : Code := match bodyW with | .seq _ (.seq _ (.seq _ (.seq _ (.seq _ (.seq r _))))) => r | _ => .skip
noncomputable def lw6 : Code := match bodyW with | .seq _ (.seq _ (.seq _ (.seq _ (.seq _ (.seq _ (.seq r _)))))) => r | _ => .skip
noncomputable def lw7 : Code := match bodyW with | .seq _ (.seq _ (.seq _ (.seq _ (.seq _ (.seq _ (.seq _ (.seq r _))))))) => r | _ => .skip
noncomputable def lw8 : Code := match bodyW with | .seq _ (.seq _ (.seq _ (.seq _ (.seq _ (.seq _ (.seq _ (.seq _ (.seq r _)))))))) => r | _ => .skip
noncomputable def lw9 : Code := match bodyW with | .seq _ (.seq _ (.seq _ (.seq _ (.seq _ (.seq _ (.seq _ (.seq _ (.seq _ (.seq r _))))))))) => r | _ => .skip
noncomputable def lw10 : Code := match bodyW with | .seq _ (.seq _ (.seq _ (.seq _ (.seq _ (.seq _ (.seq _ (.seq _ (.seq _ (.seq _ (.seq r _)))))))))) => r | _ => .skip
noncomputable def lw11 : Code := match bodyW with | .seq _ (.seq _ (.seq _ (.seq _ (.seq _ (.seq _ (.seq _ (.seq _ (.seq _ (.seq _ (.seq _ (.seq r _))))))))))) => r | _ => .skip
noncomputable def lw12 : Code := match bodyW with | .seq _ (.seq _ (.seq _ (.seq _ (.seq _ (.seq _ (.seq _ (.seq _ (.seq _ (.seq _ (.seq _ (.seq _ (.seq r _)))))))))))) => r | _ => .skip
noncomputable def lw13 : Code := match bodyW with | .seq _ (.seq _ (.seq _ (.seq _ (.seq _ (.seq _ (.seq _ (.seq _ (.seq _ (.seq _ (.seq _ (.seq _ (.seq _ (.seq r _))))))))))))) => r | _ => .skip
noncomputable def lw14 : Code := match bodyW with | .seq _ (.seq _ (.seq _ (.seq _ (.seq _ (.seq _ (.seq _ (.seq _ (.seq _ (.seq _ (.seq _ (.seq _ (.seq _ (.seq _ (.seq r _)))))))))))))) => r | _ => .skip
noncomputable def lw15 : Code := match bodyW with | .seq _ (.seq _ (.seq _ (.seq _ (.seq _ (.seq _ (.seq _ (.seq _ (.seq _ (.seq _ (.seq _ (.seq _ (.seq _ (.seq _ (.seq _ (.seq r _))))))))))))))) => r | _ => .skip
noncomputable def lw16 : Code := match bodyW with | .seq _ (.seq _ (.seq _ (.seq _ (.seq _ (.seq _ (.seq _ (.seq _ (.seq _ (.seq _ (.seq _ (.seq _ (.seq _ (.seq _ (.seq _ (.seq _ (.seq r _)))))))))))))))) => r | _ => .skip
noncomputable def lw17 : Code := match bodyW with | .seq _ (.seq _ (.seq _ (.seq _ (.seq _ (.seq _ (.seq _ (.seq _ (.seq _ (.seq _ (.seq _ (.seq _ (.seq _ (.seq _ (.seq _ (.seq _ (.seq _ (.seq r _))))))))))))))))) => r | _ => .skip
noncomputable def lw18 : Code := match bodyW with | .seq _ (.seq _ (.seq _ (.seq _ (.seq _ (.seq _ (.seq _ (.seq _ (.seq _ (.seq _ (.seq _ (.seq _ (.seq _ (.seq _ (.seq _ (.seq _ (.seq _ (.seq _ (.seq r _)))))))))))))))))) => r | _ => .skip
noncomputable def lwC : Code := match bodyW with | .seq _ (.seq _ (.seq _ (.seq _ (.seq _ (.seq _ (.seq _ (.seq _ (.seq _ (.seq _ (.seq _ (.seq _ (.seq _ (.seq _ (.seq _ (.seq _ (.seq _ (.seq _ (.seq _ r)))))))))))))))))) => r | _ => .skip
theorem bodyW_eq : bodyW = .seq lw0 (.seq lw1 (.seq lw2 (.seq lw3 (.seq lw4 (.seq lw5 (.seq lw6 (.seq lw7 (.seq lw8 (.seq lw9 (.seq lw10 (.seq lw11 (.seq lw12 (.seq lw13 (.seq lw14 (.seq lw15 (.seq lw16 (.seq lw17 (.seq lw18 lwC)))))))))))))))))) := by simp only [lwC, lw0, lw1, lw2, lw3, lw4, lw5, lw6, lw7, lw8, lw9, lw10, lw11, lw12, lw13, lw14, lw15, lw16, lw17, lw18, bodyW, Try.f5, Option.getD_some]
set_option maxHeartbeats 1000000 in
theorem lit96 {T : Array Value} (h : T.size = 96) : ∃ x0 x1 x2 x3 x4 x5 x6 x7 x8 x9 x10 x11 x12 x13 x14 x15 x16 x17 x18 x19 x20 x21 x22 x23 x24 x25 x26 x27 x28 x29 x30 x31 x32 x33 x34 x35 x36 x37 x38 x39 x40 x41 x42 x43 x44 x45 x46 x47 x48 x49 x50 x51 x52 x53 x54 x55 x56 x57 x58 x59 x60 x61 x62 x63 x64 x65 x66 x67 x68 x69 x70 x71 x72 x73 x74 x75 x76 x77 x78 x79 x80 x81 x82 x83 x84 x85 x86 x87 x88 x89 x90 x91 x92 x93 x94 x95 : Value, T = #[x0, x1, x2, x3, x4, x5, x6, x7, x8, x9, x10, x11, x12, x13, x14, x15, x16, x17, x18, x19, x20, x21, x22, x23, x24, x25, x26, x27, x28, x29, x30, x31, x32, x33, x34, x35, x36, x37, x38, x39, x40, x41, x42, x43, x44, x45, x46, x47, x48, x49, x50, x51, x52, x53, x54, x55, x56, x57, x58, x59, x60, x61, x62, x63, x64, x65, x66, x67, x68, x69, x70, x71, x72, x73, x74, x75, x76, x77, x78, x79, x80, x81, x82, x83, x84, x85, x86, x87, x88, x89, x90, x91, x92, x93, x94, x95] := by
  obtain ⟨l⟩ := T
  rcases l with _ | ⟨x0, l⟩
  · simp at h
  rcases l with _ | ⟨x1, l⟩
  · simp at h
  rcases l with _ | ⟨x2, l⟩
  · simp at h
  rcases l with _ | ⟨x3, l⟩
  · simp at h
  rcases l with _ | ⟨x4, l⟩
  · simp at h
  rcases l with _ | ⟨x5, l⟩
  · simp at h
  rcases l with _ | ⟨x6, l⟩
  · simp at h
  rcases l with _ | ⟨x7, l⟩
  · simp at h
  rcases l with _ | ⟨x8, l⟩
  · simp at h
  rcases l with _ | ⟨x9, l⟩
  · simp at h
  rcases l with _ | ⟨x10, l⟩
  · simp at h
  rcases l with _ | ⟨x11, l⟩
  · simp at h
  rcases l with _ | ⟨x12, l⟩
  · simp at h
  rcases l with _ | ⟨x13, l⟩
  · simp at h
  rcases l with _ | ⟨x14, l⟩
  · simp at h
  rcases l with _ | ⟨x15, l⟩
  · simp at h
  rcases l with _ | ⟨x16, l⟩
  · simp at h
  rcases l with _ | ⟨x17, l⟩
  · simp at h
  rcases l with _ | ⟨x18, l⟩
  · simp at h
  rcases l with _ | ⟨x19, l⟩
  · simp at h
  rcases l with _ | ⟨x20, l⟩
  · simp at h
  rcases l with _ | ⟨x21, l⟩
  · simp at h
  rcases l with _ | ⟨x22, l⟩
  · simp at h
  rcases l with _ | ⟨x23, l⟩
  · simp at h
  rcases l with _ | ⟨x24, l⟩
  · simp at h
  rcases l with _ | ⟨x25, l⟩
  · simp at h
  rcases l with _ | ⟨x26, l⟩
  · simp at h
  rcases l with _ | ⟨x27, l⟩
  · simp at h
  rcases l with _ | ⟨x28, l⟩
  · simp at h
  rcases l with _ | ⟨x29, l⟩
  · simp at h
  rcases l with _ | ⟨x30, l⟩
  · simp at h
  rcases l with _ | ⟨x31, l⟩
  · simp at h
  rcases l with _ | ⟨x32, l⟩
  · simp at h
  rcases l with _ | ⟨x33, l⟩
  · simp at h
  rcases l with _ | ⟨x34, l⟩
  · simp at h
  rcases l with _ | ⟨x35, l⟩
  · simp at h
  rcases l with _ | ⟨x36, l⟩
  · simp at h
  rcases l with _ | ⟨x37, l⟩
  · simp at h
  rcases l with _ | ⟨x38, l⟩
  · simp at h
  rcases l with _ | ⟨x39, l⟩
  · simp at h
  rcases l with _ | ⟨x40, l⟩
  · simp at h
  rcases l with _ | ⟨x41, l⟩
  · simp at h
  rcases l with _ | ⟨x42, l⟩
  · simp at h
  rcases l with _ | ⟨x43, l⟩
  · simp at h
  rcases l with _ | ⟨x44, l⟩
  · simp at h
  rcases l with _ | ⟨x45, l⟩
  · simp at h
  rcases l with _ | ⟨x46, l⟩
  · simp at h
  rcases l with _ | ⟨x47, l⟩
  · simp at h
  rcases l with _ | ⟨x48, l⟩
  · simp at h
  rcases l with _ | ⟨x49, l⟩
  · simp at h
  rcases l with _ | ⟨x50, l⟩
  · simp at h
  rcases l with _ | ⟨x51, l⟩
  · simp at h
  rcases l with _ | ⟨x52, l⟩
  · simp at h
  rcases l with _ | ⟨x53, l⟩
  · simp at h
  rcases l with _ | ⟨x54, l⟩
  · simp at h
  rcases l with _ | ⟨x55, l⟩
  · simp at h
  rcases l with _ | ⟨x56, l⟩
  · simp at h
  rcases l with _ | ⟨x57, l⟩
  · simp at h
  rcases l with _ | ⟨x58, l⟩
  · simp at h
  rcases l with _ | ⟨x59, l⟩
  · simp at h
  rcases l with _ | ⟨x60, l⟩
  · simp at h
  rcases l with _ | ⟨x61, l⟩
  · simp at h
  rcases l with _ | ⟨x62, l⟩
  · simp at h
  rcases l with _ | ⟨x63, l⟩
  · simp at h
  rcases l with _ | ⟨x64, l⟩
  · simp at h
  rcases l with _ | ⟨x65, l⟩
  · simp at h
  rcases l with _ | ⟨x66, l⟩
  · simp at h
  rcases l with _ | ⟨x67, l⟩
  · simp at h
  rcases l with _ | ⟨x68, l⟩
  · simp at h
  rcases l with _ | ⟨x69, l⟩
  · simp at h
  rcases l with _ | ⟨x70, l⟩
  · simp at h
  rcases l with _ | ⟨x71, l⟩
  · simp at h
  rcases l with _ | ⟨x72, l⟩
  · simp at h
  rcases l with _ | ⟨x73, l⟩
  · simp at h
  rcases l with _ | ⟨x74, l⟩
  · simp at h
  rcases l with _ | ⟨x75, l⟩
  · simp at h
  rcases l with _ | ⟨x76, l⟩
  · simp at h
  rcases l with _ | ⟨x77, l⟩
  · simp at h
  rcases l with _ | ⟨x78, l⟩
  · simp at h
  rcases l with _ | ⟨x79, l⟩
  · simp at h
  rcases l with _ | ⟨x80, l⟩
  · simp at h
  rcases l with _ | ⟨x81, l⟩
  · simp at h
  rcases l with _ | ⟨x82, l⟩
  · simp at h
  rcases l with _ | ⟨x83, l⟩
  · simp at h
  rcases l with _ | ⟨x84, l⟩
  · simp at h
  rcases l with _ | ⟨x85, l⟩
  · simp at h
  rcases l with _ | ⟨x86, l⟩
  · simp at h
  rcases l with _ | ⟨x87, l⟩
  · simp at h
  rcases l with _ | ⟨x88, l⟩
  · simp at h
  rcases l with _ | ⟨x89, l⟩
  · simp at h
  rcases l with _ | ⟨x90, l⟩
  · simp at h
  rcases l with _ | ⟨x91, l⟩
  · simp at h
  rcases l with _ | ⟨x92, l⟩
  · simp at h
  rcases l with _ | ⟨x93, l⟩
  · simp at h
  rcases l with _ | ⟨x94, l⟩
  · simp at h
  rcases l with _ | ⟨x95, l⟩
  · simp at h
  rcases l with _ | ⟨x, l⟩
  · exact ⟨x0, x1, x2, x3, x4, x5, x6, x7, x8, x9, x10, x11, x12, x13, x14, x15, x16, x17, x18, x19, x20, x21, x22, x23, x24, x25, x26, x27, x28, x29, x30, x31, x32, x33, x34, x35, x36, x37, x38, x39, x40, x41, x42, x43, x44, x45, x46, x47, x48, x49, x50, x51, x52, x53, x54, x55, x56, x57, x58, x59, x60, x61, x62, x63, x64, x65, x66, x67, x68, x69, x70, x71, x72, x73, x74, x75, x76, x77, x78, x79, x80, x81, x82, x83, x84, x85, x86, x87, x88, x89, x90, x91, x92, x93, x94, x95, rfl⟩
  · simp at h
def litW (x0 : Value) : Act := { tmps := #[x0, undef, undef, undef, undef, undef, undef, undef, undef, undef, undef, undef, undef, undef, undef, undef, undef, undef, undef, undef, undef, undef, undef, undef, undef, undef, undef, undef, undef, undef, undef, undef, undef, undef, undef, undef, undef, undef, undef, undef, undef, undef, undef, undef, undef, undef, undef, undef, undef, undef, undef, undef, undef, undef, undef, undef, undef, undef, undef, undef, undef, undef, undef, undef, undef, undef, undef, undef, undef, undef, undef, undef, undef, undef, undef, undef, undef, undef, undef, undef, undef, undef, undef, undef, undef, undef, undef, undef, undef, undef, undef, undef, undef, undef, undef, undef], defers := [] }
theorem wpS_cons {P : Program} {c : Code} {cs : List Code} {Q : Exit → Act → World → Prop} {a : Act} {w : World} (h : c.wp P (Exit.then (wpS P cs Q) Q) a w) : wpS P (c :: cs) Q a w := h
theorem wpS_nil {P : Program} {Q : Exit → Act → World → Prop} {a : Act} {w : World} (h : Q .normal a w) : wpS P [] Q a w := h
def La (v0 : World) (x0 : Sy) (PA0 : Option Addr) (pn0 pc0 : Nat) (PB0 : Option Addr) (pm0 pd0 : Nat) (a : Act) (v : World) : Prop :=
  a.tmps.size = 96 ∧ Hx v0 v ∧ ∃ q1 A4 n4 c4 q6 A5 n5 c5 B5 m5 lo hi, a.tmps[1]? = some (.pointer (some ⟨q1, 0, none⟩)) ∧ v.cell? ⟨q1, 0, none⟩ = some (.slice PA0 pn0 pc0) ∧ v.cell? ⟨q1, 1, none⟩ = some (.slice PB0 pm0 pd0) ∧
    a.tmps[4]? = some (.slice A4 n4 c4) ∧ a.tmps[5]? = some (.bool (ansF false x0).isSome) ∧ RI v A4 n4 ((ansF false x0).getD []) ∧
    a.tmps[6]? = some (.pointer (some ⟨q6, 0, none⟩)) ∧ v.cell? ⟨q6, 0, none⟩ = some (.slice A5 n5 c5) ∧ v.cell? ⟨q6, 1, none⟩ = some (.slice B5 m5 m5) ∧
    RI v A5 n5 x0.ar ∧ RR true v B5 m5 x0.rs ∧ FreeI v lo hi A5 n5 ∧ FreeR v lo hi B5 m5 ∧ (∀ b o s g o' s', A5 = some ⟨b, o, s⟩ → B5 = some ⟨g, o', s'⟩ → g ≠ b) ∧ (∀ b o s, A5 = some ⟨b, o, s⟩ → b < hi) ∧
    v0.heap.size ≤ q1 ∧ (q1 < lo ∧ lo ≤ hi) ∧ hi ≤ q6 ∧ q6 < v.heap.size ∧ (n4 = 0 ∨ ∀ b o s, A4 = some ⟨b, o, s⟩ → b < lo) ∧ RI v0 PA0 pn0 x0.ar ∧ RR false v0 PB0 pm0 x0.rs
set_option maxHeartbeats 4000000 in
theorem chunkA {v0 w : World} {x0 : Sy} {PA0 PB0 : Option Addr} {pn0 pc0 pm0 pd0 : Nat} (hH : Hx v0 w) (ha00 : RJ v0 PA0 pn0 x0.ar) (hb00 : RRJ v0 PB0 pm0 x0.rs) :
    wpS Try.prog [lw0, lw1, lw2, lw3, lw4, lw5] (fun e a' v' => (e = .normal ∧ La v0 x0 PA0 pn0 pc0 PB0 pm0 pd0 a' v') ∨ (e = .ret ∧ a'.tmps.size = 96 ∧ a'.tmps[2]? = some (.bool true) ∧ Hx v0 v')) (litW (.agg #[.slice PA0 pn0 pc0, .slice PB0 pm0 pd0])) w := by
  have ha0 : RJ w PA0 pn0 x0.ar := RJ.ext (w := { w with heap := v0.heap }) ha00 hH.to
  have hb0 : RRJ w PB0 pm0 x0.rs := RRJ.ext (w := { w with heap := v0.heap }) hb00 hH.to
  have HJ0 := Lib.hid ha0
  have HJ0b := Lib.hid hb0
  have HZ0 := Lib.hid (And.intro ha00 hb00)
  have HL0 := Lib.hid ha0.1
  have HL0b := Lib.hid hb0.1
  have HH := Lib.hid hH
  have HHz := Lib.hid hH.1
  clear ha0 hb0 hH ha00 hb00
  have b0 : -1 ≤ szSy (1048576) x0 ∧ szSy (1048576) x0 ≤ 1048576 := szSy_bd _ _ ⟨by decide, by decide⟩
  obtain ⟨oo, hoo⟩ : ∃ oo, oo = ansF false x0 := ⟨_, rfl⟩
  have HOO := Lib.hid hoo.symm
  have HLA := Lib.hid (fun a v' => (show La v0 x0 PA0 pn0 pc0 PB0 pm0 pd0 a v' = La v0 x0 PA0 pn0 pc0 PB0 pm0 pd0 a v' from rfl))
  clear hoo
  refine wpS_cons ?_
  simp only [lw0, bodyW, Try.f5, Option.getD_some, litW]
  go_wp2_with fail
  refine wpS_cons ?_
  simp only [lw1, bodyW, Try.f5, Option.getD_some]
  go_wp2_with fail
  refine wpS_cons ?_
  simp only [lw2, bodyW, Try.f5, Option.getD_some]
  go_wp2_with fail
  (with_reducible refine (c_szSystem (by (first | (first | (with_reducible exact RawI.mk (RJ.ext (Hid.out (by with_reducible assumption)) (by exact extX)))) | (with_reducible exact RawSy.mk (RJ.ext (Hid.out (by with_reducible assumption)) (by exact extX)) (RRJ.ext (Hid.out (by with_reducible assumption)) (by exact extX))) | (with_reducible exact RawSig.mk (RJ.ext (Hid.out (by with_reducible assumption)) (by exact extX))))) (by omega) (by omega)).mono ?_); rintro e w1 ⟨rfl, hE1⟩; have hz1 := sz_of hE1; (try simp only [World.size_alloc, World.size_setCell, World.size_drew] at hz1); obtain ⟨hc1, hf1⟩ := bcell hE1; (try have hq1_0 : w.heap.size < w1.heap.size := by omega); (try have hq1_1 : w.heap.size + 1 < w1.heap.size := by omega); (try have hq1_2 : w.heap.size + 1 + 1 < w1.heap.size := by omega); (try have hq1_3 : w.heap.size + 1 + 1 + 1 < w1.heap.size := by omega); (try have hq1_4 : w.heap.size + 1 + 1 + 1 + 1 < w1.heap.size := by omega); (try have hq1_5 : w.heap.size + 1 + 1 + 1 + 1 + 1 < w1.heap.size := by omega)
  go_wp2_with fail
  refine wpS_cons ?_
  simp only [lw3, bodyW, Try.f5, Option.getD_some]
  go_wp2_with fail
  · exact .inr ⟨trivial, rfl, rfl, HH.out.trans (Hx.ext (by exact extX))⟩
  have q0 : 0 ≤ szSy (1048576) x0 := by first | (with_reducible assumption) | omega
  have HZ1 := Lib.hid (And.intro (HZ0.out.1.ri (by have := szSy_ok (by omega) q0; have := HL0.out.1; omega)) (HZ0.out.2.rr (by have := (szSy_ok (by omega) q0).2.1; have := HL0b.out.1; omega) (fun r hr => by have := (szSy_ok (by omega) q0).2.2 r hr; omega)))
  have H0 := Lib.hid (HJ0.out.ri (by have := szSy_ok (by omega) q0; have := HL0.out.1; omega))
  have H0b := Lib.hid (HJ0b.out.rr (by have := (szSy_ok (by omega) q0).2.1; have := HL0b.out.1; omega) (fun r hr => by have := (szSy_ok (by omega) q0).2.2 r hr; omega))
  refine wpS_cons ?_
  simp only [lw4, bodyW, Try.f5, Option.getD_some]
  go_wp2_with fail
  (with_reducible refine (c_toSystem (by (first | (first | (with_reducible exact RdI.mk (RI.ext (Hid.out (by with_reducible assumption)) (by exact extX))) | (with_reducible exact RdI.ext (by with_reducible assumption) (by exact extX))) | (with_reducible exact RdSyK.mk (by (first | (with_reducible exact RI.ext (Hid.out (by with_reducible assumption)) (by exact extX)))) (RR.ext (Hid.out (by with_reducible assumption)) (by exact extX))) | (with_reducible exact RdSyK.ext (by with_reducible assumption) (by exact extX)) | (with_reducible exact RdSig.mk (by (first | (with_reducible exact RI.ext (Hid.out (by with_reducible assumption)) (by exact extX))))) | (with_reducible exact RdSig.ext (by with_reducible assumption) (by exact extX))))).mono ?_); rintro e w2 ⟨A2, n2, c2, B2, m2, rfl, hR2, hS2, hE2⟩; have HR2 := Lib.hid hR2; have HS2 := Lib.hid hS2; clear hR2 hS2; have hz2 := sz_of hE2; (try simp only [World.size_alloc, World.size_setCell, World.size_drew] at hz2); obtain ⟨hc2, hf2⟩ := bcell hE2; (try have hq2_0 : w.heap.size < w2.heap.size := by omega); (try have hq2_1 : w.heap.size + 1 < w2.heap.size := by omega); (try have hq2_2 : w.heap.size + 1 + 1 < w2.heap.size := by omega); (try have hq2_3 : w.heap.size + 1 + 1 + 1 < w2.heap.size := by omega); (try have hq2_4 : w.heap.size + 1 + 1 + 1 + 1 < w2.heap.size := by omega); (try have hq2_5 : w.heap.size + 1 + 1 + 1 + 1 + 1 < w2.heap.size := by omega); (try have hx2_1 : w1.heap.size < w2.heap.size := by omega)
  go_wp2_with fail
  (with_reducible refine (c_sFirstBags HOO.out (by (first | (first | (with_reducible exact RdI.mk (RI.ext (Hid.out (by with_reducible assumption)) (by exact extX))) | (with_reducible exact RdI.ext (by with_reducible assumption) (by exact extX))) | (with_reducible exact RdSyK.mk (by (first | (with_reducible exact RI.ext (Hid.out (by with_reducible assumption)) (by exact extX)))) (RR.ext (Hid.out (by with_reducible assumption)) (by exact extX))) | (with_reducible exact RdSyK.ext (by with_reducible assumption) (by exact extX)) | (with_reducible exact RdSig.mk (by (first | (with_reducible exact RI.ext (Hid.out (by with_reducible assumption)) (by exact extX))))) | (with_reducible exact RdSig.ext (by with_reducible assumption) (by exact extX))))).mono ?_)
  rintro e w4 ⟨A4, n4, c4, rfl, hR4, hE4⟩
  have HR4 := Lib.hid hR4
  clear hR4
  have hz4 := sz_of hE4; (try simp only [World.size_alloc, World.size_setCell, World.size_drew] at hz4); obtain ⟨hc4, hf4⟩ := bcell hE4; (try have hq4_0 : w.heap.size < w4.heap.size := by omega); (try have hq4_1 : w.heap.size + 1 < w4.heap.size := by omega); (try have hq4_2 : w.heap.size + 1 + 1 < w4.heap.size := by omega); (try have hq4_3 : w.heap.size + 1 + 1 + 1 < w4.heap.size := by omega); (try have hq4_4 : w.heap.size + 1 + 1 + 1 + 1 < w4.heap.size := by omega); (try have hq4_5 : w.heap.size + 1 + 1 + 1 + 1 + 1 < w4.heap.size := by omega); (try have hx4_1 : w1.heap.size < w4.heap.size := by omega); (try have hx4_2 : w2.heap.size < w4.heap.size := by omega); (try have hx4_3 : w3.heap.size < w4.heap.size := by omega)
  go_wp2_with fail
  refine wpS_cons ?_
  simp only [lw5, bodyW, Try.f5, Option.getD_some]
  go_wp2_with fail
  (with_reducible refine (c_toSystemO (by (first | (first | (with_reducible exact RdI.mk (RI.ext (Hid.out (by with_reducible assumption)) (by exact extX))) | (with_reducible exact RdI.ext (by with_reducible assumption) (by exact extX))) | (with_reducible exact RdSyK.mk (by (first | (with_reducible exact RI.ext (Hid.out (by with_reducible assumption)) (by exact extX)))) (RR.ext (Hid.out (by with_reducible assumption)) (by exact extX))) | (with_reducible exact RdSyK.ext (by with_reducible assumption) (by exact extX)) | (with_reducible exact RdSig.mk (by (first | (with_reducible exact RI.ext (Hid.out (by with_reducible assumption)) (by exact extX))))) | (with_reducible exact RdSig.ext (by with_reducible assumption) (by exact extX))))).mono ?_)
  rintro e w5 ⟨A5, n5, c5, B5, m5, rfl, hR5, hS5, hF5, hG5, hN5, hD5, hE5⟩
  have HR5 := Lib.hid hR5
  have HS5 := Lib.hid hS5
  have HF5 := Lib.hid hF5
  have HG5 := Lib.hid hG5
  have HN5 := Lib.hid hN5
  have HD5 := Lib.hid hD5
  clear hR5 hS5 hF5 hG5 hN5 hD5
  have hz5 := sz_of hE5; (try simp only [World.size_alloc, World.size_setCell, World.size_drew] at hz5); obtain ⟨hc5, hf5⟩ := bcell hE5; (try have hq5_0 : w.heap.size < w5.heap.size := by omega); (try have hq5_1 : w.heap.size + 1 < w5.heap.size := by omega); (try have hq5_2 : w.heap.size + 1 + 1 < w5.heap.size := by omega); (try have hq5_3 : w.heap.size + 1 + 1 + 1 < w5.heap.size := by omega); (try have hq5_4 : w.heap.size + 1 + 1 + 1 + 1 < w5.heap.size := by omega); (try have hq5_5 : w.heap.size + 1 + 1 + 1 + 1 + 1 < w5.heap.size := by omega); (try have hx5_1 : w1.heap.size < w5.heap.size := by omega); (try have hx5_2 : w2.heap.size < w5.heap.size := by omega); (try have hx5_3 : w3.heap.size < w5.heap.size := by omega); (try have hx5_4 : w4.heap.size < w5.heap.size := by omega)
  go_wp2_with fail
  refine wpS_nil ?_
  clear b0 HLA HL0 HL0b HJ0 HJ0b HZ0
  have hs1 : w.heap.size < w4.heap.size := by omega
  have hA4 : n4 = 0 ∨ ∀ b o s, A4 = some ⟨b, o, s⟩ → b < w4.heap.size := by
    rcases Nat.eq_zero_or_pos n4 with h | h
    · exact .inl h
    · refine .inr fun b o s e => ?_
      obtain ⟨b', o', e', hc⟩ := HR4.out.2 h
      rw [e] at e'; cases e'
      have hl := HR4.out.1.1
      exact World.block_lt_of_cell? w4 _ (hc 0 _ (List.getElem?_eq_getElem (by omega)))
  refine .inl ⟨rfl, rfl, HH.out.trans (Hx.ext (by exact extX)), w.heap.size, A4, n4, c4, w5.heap.size, A5, n5, c5, B5, m5, w4.heap.size, w5.heap.size, rfl, ?_, ?_, rfl, by rw [HOO.out]; rfl, by rw [HOO.out]; exact RI.ext HR4.out (by exact extX), rfl, by simp [go_sem], by simp [go_sem], RI.ext HR5.out (by exact extX), RR.ext HS5.out (by exact extX), ?_, FreeR.ext HG5.out (by exact extX), HN5.out, HD5.out, HHz.out, ⟨hs1, by omega⟩, Nat.le_refl _, by simp [go_sem], hA4, HZ1.out.1, HZ1.out.2⟩
  · exact Ext.keep (by exact extX : Ext (w.alloc (.cells #[.slice PA0 pn0 pc0, .slice PB0 pm0 pd0] 42)) _) (by simp [go_sem])
  · exact Ext.keep (by exact extX : Ext (w.alloc (.cells #[.slice PA0 pn0 pc0, .slice PB0 pm0 pd0] 42)) _) (by simp [go_sem])
  · exact HF5.out.same (Same.ext (by exact extX))
end Go.Proofs.Ytibeelcnooelkaa
