/- Polynomials by dice. -/
import Derived.Test.YtljbjabgdalabaaDicT
import Derived.Test.YtljbjabgdalabaaPoly
namespace Go.Proofs.Ytljbjabgdalabaa
open Go.RowKit
set_option linter.unusedSimpArgs false
set_option linter.unusedVariables false

/-- Polynomials that are there and not in block g. -/
def RPg (w : World) (g : Nat) (A : Option Addr) (n : Nat) (ps : List Pl) : Prop :=
  (ps.length = n ∧ n ≤ 4194304) ∧ ∃ b o, A = some ⟨b, o, none⟩ ∧ b ≠ g ∧ ∀ j p, ps[j]? = some p → w.cell? ⟨b, o + j * 2, none⟩ = some (.int .i64 p.c) ∧ ∃ A' m' c', w.cell? ⟨b, o + j * 2 + 1, none⟩ = some (.slice A' m' c') ∧ RIg w g A' m' p.cf
theorem RPg.rp {w : World} {g n : Nat} {A : Option Addr} {ps : List Pl} (h : RPg w g A n ps) : RP w A n ps := by
  obtain ⟨h1, b, o, e, _, h2⟩ := h
  refine ⟨h1, fun _ => ⟨b, o, e, fun j p hp => ?_⟩⟩
  obtain ⟨h3, A', m', c', h4, h5⟩ := h2 j p hp
  exact ⟨h3, A', m', c', h4, h5.1⟩
theorem cell_only {w w' : World} {g b o : Nat} {v : Value} (k : Only w w' g) (hb : b ≠ g) (hc : w.cell? ⟨b, o, none⟩ = some v) : w'.cell? ⟨b, o, none⟩ = some v := by
  rw [World.cell?_of_block (w := w) (w' := w') (a := ⟨b, o, none⟩) (k.block _ (World.block_lt_of_cell? w _ hc) (fun e => by cases e; exact hb rfl))]; exact hc
theorem RPg.only {w w' : World} {g n : Nat} {A : Option Addr} {ps : List Pl} (h : RPg w g A n ps) (k : Only w w' g) : RPg w' g A n ps := by
  obtain ⟨h1, b, o, e, hb, h2⟩ := h
  refine ⟨h1, b, o, e, hb, fun j p hp => ?_⟩
  obtain ⟨h3, A', m', c', h4, h5⟩ := h2 j p hp
  exact ⟨cell_only k hb h3, A', m', c', cell_only k hb h4, h5.only k⟩
theorem RPg.ext {w w' : World} {g n : Nat} {A : Option Addr} {ps : List Pl} (h : RPg w g A n ps) (k : Ext w w') : RPg w' g A n ps := h.only (Only.of_ext k g)
/-- Polynomials for the signature of the laws, their factors from a least one on. -/
def Ps3 (least : Int) (ps : List Pl) : Prop := ∃ c0 a0 a1 c1 b0 c2 : Int, ps = [⟨c0, [a0, a1]⟩, ⟨c1, [b0]⟩, ⟨c2, []⟩] ∧ (0 ≤ c0 ∧ c0 ≤ 2) ∧ (0 ≤ c1 ∧ c1 ≤ 2) ∧ (0 ≤ c2 ∧ c2 ≤ 2) ∧ (least ≤ a0 ∧ a0 ≤ least + 1) ∧ (least ≤ a1 ∧ a1 ≤ least + 1) ∧ (least ≤ b0 ∧ b0 ≤ least + 1)
def NewP3 (w : World) (g : Nat) (least : Int) (e : Ending) (w' : World) : Prop := ∃ (A : Option Addr) (ps : List Pl), e = .returned (.slice A 3 3) ∧ RPg w' g A 3 ps ∧ Ps3 least ps ∧ Dice w' g ∧ Only w w' g ∧ ∀ b o s, A = some ⟨b, o, s⟩ → w.heap.size ≤ b
set_option maxRecDepth 100000 in
set_option maxHeartbeats 4000000 in
theorem c_w9Polys {g : Nat} {least : Int} {w : World} (h0 : Dice w g) (hl : 0 ≤ least ∧ least ≤ 1) : Calls Try.prog 9 #[.pointer (some ⟨g, 0, none⟩), .int .i64 least] w (NewP3 w g least) := by
  have hgl := h0.lt
  go_enter Try.func9, Try.ntmps9
  go_wp2_with fail
  (with_reducible refine (c_below h0 (by omega) (by omega)).mono ?_)
  rintro e w1 ⟨c0, rfl, hc0, hD1, hO1⟩
  go_wp2_with fail
  (with_reducible refine (c_below hD1 (by omega) (by omega)).mono ?_)
  rintro e w2 ⟨a0, rfl, ha0, hD2, hO2⟩
  have hw1 : IntKind.i64.wrap (least + a0) = least + a0 := IntWalk.i64_in _ (by omega)
  go_wp2_with fail
  (with_reducible refine (c_below hD2 (by omega) (by omega)).mono ?_)
  rintro e w3 ⟨a1, rfl, ha1, hD3, hO3⟩
  have hw2 : IntKind.i64.wrap (least + a1) = least + a1 := IntWalk.i64_in _ (by omega)
  have hs3 := (hO1.trans (hO2.trans hO3)).size
  have hA := RIg.of (OwI.fresh (w := w3) [least + a0, least + a1] (by simp)) (by omega : g < w3.heap.size)
  have hD3' := hD3.ext ((Ext.refl w3).alloc (.cells #[.int .i64 (least + a0), .int .i64 (least + a1)] 2))
  have hO3' := (hO1.trans (hO2.trans hO3)).trans (Only.of_ext ((Ext.refl w3).alloc (.cells #[.int .i64 (least + a0), .int .i64 (least + a1)] 2)) g)
  go_wp2_with fail
  (with_reducible refine (c_below hD3' (by omega) (by omega)).mono ?_)
  rintro e w4 ⟨c1, rfl, hc1, hD4, hO4⟩
  go_wp2_with fail
  (with_reducible refine (c_below hD4 (by omega) (by omega)).mono ?_)
  rintro e w5 ⟨b0, rfl, hb0, hD5, hO5⟩
  have hw3 : IntKind.i64.wrap (least + b0) = least + b0 := IntWalk.i64_in _ (by omega)
  have hO05 := hO3'.trans (hO4.trans hO5)
  have hs5 := hO05.size
  have hA5 := hA.only (hO4.trans hO5)
  have hB := RIg.of (OwI.fresh (w := w5) [least + b0] (by simp)) (by omega : g < w5.heap.size)
  have hD5' := hD5.ext ((Ext.refl w5).alloc (.cells #[.int .i64 (least + b0)] 2))
  have hO5' := hO05.trans (Only.of_ext ((Ext.refl w5).alloc (.cells #[.int .i64 (least + b0)] 2)) g)
  go_wp2_with fail
  (with_reducible refine (c_below hD5' (by omega) (by omega)).mono ?_)
  rintro e w6 ⟨c2, rfl, hc2, hD6, hO6⟩
  have hO06 := hO5'.trans hO6
  have hs6 := hO06.size
  have hA6 := (hA5.ext ((Ext.refl w5).alloc (.cells #[.int .i64 (least + b0)] 2))).only hO6
  have hB6 := hB.only hO6
  have HA := Lib.hid (hA6.ext ((Ext.refl w6).alloc (.cells #[.int .i64 c0, .slice (some ⟨w3.heap.size, 0, none⟩) 2 2, .int .i64 c1, .slice (some ⟨w5.heap.size, 0, none⟩) 1 1, .int .i64 c2, .slice none 0 0] 38)))
  have HB := Lib.hid (hB6.ext ((Ext.refl w6).alloc (.cells #[.int .i64 c0, .slice (some ⟨w3.heap.size, 0, none⟩) 2 2, .int .i64 c1, .slice (some ⟨w5.heap.size, 0, none⟩) 1 1, .int .i64 c2, .slice none 0 0] 38)))
  have HD := Lib.hid (hD6.ext ((Ext.refl w6).alloc (.cells #[.int .i64 c0, .slice (some ⟨w3.heap.size, 0, none⟩) 2 2, .int .i64 c1, .slice (some ⟨w5.heap.size, 0, none⟩) 1 1, .int .i64 c2, .slice none 0 0] 38)))
  have HO := Lib.hid (hO06.trans (Only.of_ext ((Ext.refl w6).alloc (.cells #[.int .i64 c0, .slice (some ⟨w3.heap.size, 0, none⟩) 2 2, .int .i64 c1, .slice (some ⟨w5.heap.size, 0, none⟩) 1 1, .int .i64 c2, .slice none 0 0] 38)) g))
  clear hA hB hA5 hA6 hB6 hD6 hO06
  go_wp2_with fail
  go_ret
  refine ⟨_, _, rfl, ⟨⟨rfl, by omega⟩, w6.heap.size, 0, rfl, by omega, fun j p hp => ?_⟩, ⟨c0, least + a0, least + a1, c1, least + b0, c2, rfl, by omega, by omega, by omega, by omega, by omega, by omega⟩, HD.out, HO.out, fun b o s e => by cases e; omega⟩
  have hcell : ∀ i : Nat, (w6.alloc (.cells #[.int .i64 c0, .slice (some ⟨w3.heap.size, 0, none⟩) 2 2, .int .i64 c1, .slice (some ⟨w5.heap.size, 0, none⟩) 1 1, .int .i64 c2, .slice none 0 0] 38)).cell? ⟨w6.heap.size, i, none⟩ = #[Value.int .i64 c0, .slice (some ⟨w3.heap.size, 0, none⟩) 2 2, .int .i64 c1, .slice (some ⟨w5.heap.size, 0, none⟩) 1 1, .int .i64 c2, .slice none 0 0][i]? := fun i => cell_of_row _ _ _ _ _ (0, 0) (heap_alloc_new w6 _)
  match j, hp with
  | 0, hp => cases hp; exact ⟨hcell 0, _, 2, 2, hcell 1, HA.out⟩
  | 1, hp => cases hp; exact ⟨hcell 2, _, 1, 1, hcell 3, HB.out⟩
  | 2, hp => cases hp; exact ⟨hcell 4, none, 0, 0, hcell 5, RI.nil _ _, fun b o s e => by cases e⟩
  | j + 3, hp => simp at hp

end Go.Proofs.Ytljbjabgdalabaa
