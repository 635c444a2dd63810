/- The dice of the laws: numbers that follow from the code. -/
import Derived.Test.YtempekmenkeigaaMark
import Derived.Test.YtempekmenkeigaaOpenT
import Derived.BigQuiet
namespace Go.Proofs.Ytempekmenkeigaa
open Go.RowKit
set_option linter.unusedSimpArgs false
set_option linter.unusedVariables false

/-- A row of bytes, of whatever length. -/
def RawBy (w : World) (v : Value) (n : Nat) : Prop := ∃ A c, v = .slice A n c ∧ n ≤ 9223372036854775807 ∧ (0 < n → ∃ b o, A = some ⟨b, o, none⟩ ∧ ∀ j, j < n → ∃ y : Int, w.cell? ⟨b, o + j, none⟩ = some (.int .u8 y) ∧ 0 ≤ y ∧ y ≤ 255)
/-- The dice at block g. -/
structure Dice (w : World) (g : Nat) : Prop where
  at_ : ∃ (B : Option Addr) (n c i : Nat) (h : Int), w.cell? ⟨g, 0, none⟩ = some (.slice B n c) ∧ w.cell? ⟨g, 1, none⟩ = some (.int .i64 (i : Int)) ∧ w.cell? ⟨g, 2, none⟩ = some (.int .u64 h) ∧ i ≤ n ∧ n ≤ 4096 ∧
    (0 < n → ∃ b o, B = some ⟨b, o, none⟩ ∧ b < g ∧ ∀ j, j < n → ∃ y : Int, w.cell? ⟨b, o + j, none⟩ = some (.int .u8 y) ∧ 0 ≤ y ∧ y ≤ 255)
  fr : ∀ j, w.frozen? ⟨g, j, none⟩ = false
theorem Dice.ext {w w' : World} {g : Nat} (h : Dice w g) (k : Ext w w') : Dice w' g := by
  obtain ⟨⟨B, n, c, i, hh, h0, h1, h2, hi, hn, hb⟩, hf⟩ := h
  refine ⟨⟨B, n, c, i, hh, Ext.keep k h0, Ext.keep k h1, Ext.keep k h2, hi, hn, fun h3 => ?_⟩, fun j => (Below.frozen (p := ⟨g, j, none⟩) k (show g < w.heap.size from World.block_lt_of_cell? w ⟨g, 0, none⟩ h0)).trans (hf j)⟩
  obtain ⟨b, o, e, hne, h4⟩ := hb h3
  exact ⟨b, o, e, hne, fun j hj => by obtain ⟨y, h5, h6⟩ := h4 j hj; exact ⟨y, Ext.keep k h5, h6⟩⟩
theorem Dice.below {w w' : World} {g : Nat} (h : Dice w g) (k : Below (g + 1) w w') : Dice w' g := by
  obtain ⟨⟨B, n, c, i, hh, h0, h1, h2, hi, hn, hb⟩, hf⟩ := h
  have hg : g < g + 1 := Nat.lt_succ_self g
  refine ⟨⟨B, n, c, i, hh, (Below.cell (p := ⟨g, 0, none⟩) k hg).trans h0, (Below.cell (p := ⟨g, 1, none⟩) k hg).trans h1, (Below.cell (p := ⟨g, 2, none⟩) k hg).trans h2, hi, hn, fun h3 => ?_⟩, fun j => (Below.frozen (p := ⟨g, j, none⟩) k hg).trans (hf j)⟩
  obtain ⟨b, o, e, hne, h4⟩ := hb h3
  exact ⟨b, o, e, hne, fun j hj => by obtain ⟨y, h5, h6⟩ := h4 j hj; exact ⟨y, (Below.cell (p := ⟨b, o + j, none⟩) k (show b < g + 1 by omega)).trans h5, h6⟩⟩
theorem Dice.lt {w : World} {g : Nat} (h : Dice w g) : g < w.heap.size := by
  obtain ⟨⟨B, n, c, i, hh, h0, _⟩, _⟩ := h
  exact World.block_lt_of_cell? w _ h0

theorem bits24 (s : Int) : 0 ≤ bits BinOp.and IntKind.u64 s 16777215 ∧ bits BinOp.and IntKind.u64 s 16777215 ≤ 16777215 := by
  have h1 : (BitVec.ofInt 64 s &&& BitVec.ofInt 64 16777215).toNat ≤ 16777215 := by
    rw [BitVec.toNat_and, show (BitVec.ofInt 64 16777215).toNat = 16777215 by decide]
    exact Nat.and_le_right
  have h2 : bits BinOp.and IntKind.u64 s 16777215 = (((BitVec.ofInt 64 s &&& BitVec.ofInt 64 16777215).toNat : Nat) : Int) := by
    show IntKind.u64.wrap (((BitVec.ofInt 64 s &&& BitVec.ofInt 64 16777215).toNat : Nat) : Int) = _
    exact IntWalk.u64_in _ (by omega)
  rw [h2]; omega
theorem rem_bd {x n : Int} (hn : 1 ≤ n) : 0 ≤ x % n ∧ x % n < n := ⟨Int.emod_nonneg _ (by omega), Int.emod_lt_of_pos _ (by omega)⟩
set_option maxRecDepth 100000 in
set_option maxHeartbeats 2000000 in
theorem c_below {g : Nat} {n : Int} {w : World} (h0 : Dice w g) (hn : 1 ≤ n) (hn2 : n ≤ 1000) :
    Calls Try.prog 18 #[.pointer (some ⟨g, 0, none⟩), .int .i64 n] w fun e w' => ∃ x : Int, e = .returned (.int .i64 x) ∧ (0 ≤ x ∧ x < n) ∧ Dice w' g ∧ Only w w' g := by
  obtain ⟨⟨B, m, c, i, hh, d0, d1, d2, hi, hm, hb⟩, hf⟩ := h0
  have hgl : g < w.heap.size := World.block_lt_of_cell? w _ d0
  have HBY := Lib.hid hb
  have hn0 : n ≠ 0 := by omega
  clear hb
  go_enter Try.func18, Try.ntmps18
  go_wp2_with fail
  have hx1 := bits24 (IntKind.u64.wrap (IntKind.u64.wrap (hh * 6364136223846793005) + 1442695040888963407) / 8589934592)
  have hx2 := IntWalk.wrap64_in (bits BinOp.and IntKind.u64 (IntKind.u64.wrap (IntKind.u64.wrap (hh * 6364136223846793005) + 1442695040888963407) / 8589934592) 16777215) (by omega)
  rw [hx2]
  clear hx2
  generalize bits BinOp.and IntKind.u64 (IntKind.u64.wrap (IntKind.u64.wrap (hh * 6364136223846793005) + 1442695040888963407) / 8589934592) 16777215 = x at hx1 ⊢
  generalize IntKind.u64.wrap (IntKind.u64.wrap (hh * 6364136223846793005) + 1442695040888963407) = h'
  obtain ⟨w1, hw1⟩ : ∃ w1, w1 = w.setCell ⟨g, 2, none⟩ (.int .u64 h') := ⟨_, rfl⟩
  have hO1 : Only w w1 g := by rw [hw1]; exact Only.setCell _ _ _ _
  have e0 : w1.cell? ⟨g, 0, none⟩ = some (.slice B m c) := by rw [hw1]; exact (World.cell?_setCell_other _ _ _ _ (by simp)).trans d0
  have e1 : w1.cell? ⟨g, 1, none⟩ = some (.int .i64 (i : Int)) := by rw [hw1]; exact (World.cell?_setCell_other _ _ _ _ (by simp)).trans d1
  have e2 : w1.cell? ⟨g, 2, none⟩ = some (.int .u64 h') := by rw [hw1]; exact World.cell?_setCell_same _ _ _ d2
  have ef : ∀ j, w1.frozen? ⟨g, j, none⟩ = false := by intro j; rw [hw1]; simp [hf]
  have HB1 := Lib.hid (show 0 < m → ∃ b o, B = some ⟨b, o, none⟩ ∧ b < g ∧ ∀ j, j < m → ∃ y : Int, w1.cell? ⟨b, o + j, none⟩ = some (.int .u8 y) ∧ 0 ≤ y ∧ y ≤ 255 from fun h3 => by
    obtain ⟨b, o, e, hne, h4⟩ := HBY.out h3
    exact ⟨b, o, e, hne, fun j hj => by obtain ⟨y, h5, h6⟩ := h4 j hj; exact ⟨y, by rw [hw1, World.cell?_setCell_other _ _ _ _ (by first | (simp; done) | (simp; omega))]; exact h5, h6⟩⟩)
  rw [← hw1]
  clear hw1
  by_cases hlt : i < m
  · obtain ⟨b, o, rfl, hne, h4⟩ := HB1.out (by omega)
    obtain ⟨y, hy, hy2⟩ := h4 i hlt
    have hlti : (i : Int) < (m : Int) := by omega
    have hi0 : (0 : Int) ≤ (i : Int) := by omega
    have hlt1 : decide ((i : Int) < (m : Int)) = true := by simp; omega
    have hxw : IntKind.i64.wrap (x + y) = x + y := IntWalk.i64_in _ (by omega)
    have hyw : wrap64 y = y := IntWalk.wrap64_in _ (by omega)
    have hr := rem_bd (x := x + y) hn
    go_wp2_with fail
    go_quiet (fail)
    go_wp2_with fail
    go_quiet (fail)
    go_wp2_with fail
    go_ret
    refine ⟨_, rfl, hr, ⟨⟨some ⟨b, o, none⟩, m, c, i + 1, h', ?_, ?_, ?_, by omega, hm, fun h3 => ⟨b, o, rfl, hne, fun j hj => ?_⟩⟩, fun j => ?_⟩, ?_⟩
    · exact (World.cell?_setCell_other _ _ _ _ (by simp)).trans e0
    · exact (World.cell?_setCell_same _ _ _ e1).trans (by simp)
    · exact (World.cell?_setCell_other _ _ _ _ (by simp)).trans e2
    · obtain ⟨z, h5, h6⟩ := h4 j hj
      exact ⟨z, (World.cell?_setCell_other _ _ _ _ (by first | (simp; done) | (simp; omega))).trans h5, h6⟩
    · simp [ef]
    · exact (hO1.trans (Only.of_ext ((Ext.refl w1).drewN _) g)).trans (Only.setCell _ _ _ _)
  · have hlt1 : decide ((i : Int) < (m : Int)) = false := by simp; omega
    have hlti : ¬ (i : Int) < (m : Int) := by omega
    have hr := rem_bd (x := x) hn
    go_wp2_with fail
    go_quiet (fail)
    go_wp2_with fail
    go_ret
    refine ⟨_, rfl, hr, Dice.ext ⟨⟨B, m, c, i, h', e0, e1, e2, hi, hm, fun h3 => ?_⟩, ef⟩ ((Ext.refl w1).drewN _), hO1.trans (Only.of_ext ((Ext.refl w1).drewN _) g)⟩
    exact HB1.out h3

end Go.Proofs.Ytempekmenkeigaa
