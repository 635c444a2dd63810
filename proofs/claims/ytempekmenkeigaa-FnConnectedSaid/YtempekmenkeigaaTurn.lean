/- What marks turn, by a range of blocks; marks of integers. -/
import Derived.Test.YtempekmenkeigaaMark
namespace Go.Proofs.Ytempekmenkeigaa
open Go.RowKit
set_option linter.unusedSimpArgs false
set_option linter.unusedVariables false

/-- Nothing has turned but blocks of a range and new memory. -/
structure Turn (lo hi : Nat) (w w' : World) : Prop where
  os : w'.os = w.os
  tape : w'.tape = w.tape
  output : w'.output = w.output
  size : w.heap.size ≤ w'.heap.size
  block : ∀ i, i < w.heap.size → (i < lo ∨ hi ≤ i) → w'.heap[i]? = w.heap[i]?
section
variable {lo hi : Nat} {a w w' w'' : World} {A : Option Addr} {n c D : Nat} {xs : List Int}
theorem Turn.refl (lo hi : Nat) (w : World) : Turn lo hi w w := ⟨rfl, rfl, rfl, Nat.le_refl _, fun _ _ _ => rfl⟩
theorem Turn.trans (h : Turn lo hi w w') (k : Turn lo hi w' w'') : Turn lo hi w w'' :=
  ⟨k.os.trans h.os, k.tape.trans h.tape, k.output.trans h.output, Nat.le_trans h.size k.size, fun i hi' ho => (k.block i (Nat.lt_of_lt_of_le hi' h.size) ho).trans (h.block i hi' ho)⟩
theorem Turn.of_ext (h : Ext w w') : Turn lo hi w w' := ⟨h.os, h.tape, h.output, h.size, fun i hi' _ => h.block i hi'⟩
theorem Turn.of_only (h : OnlyA w w' A) (hA : ∀ g o s, A = some ⟨g, o, s⟩ → lo ≤ g ∧ g < hi) : Turn lo hi w w' :=
  ⟨h.os, h.tape, h.output, h.size, fun i hi' ho => h.block i hi' (fun e => by
    cases A with
    | none => cases e
    | some p =>
      obtain ⟨g, o, s⟩ := p
      have e' : i = g := by simpa using e
      have := hA g o s rfl
      omega)⟩
theorem Turn.mono {lo' hi' : Nat} (h : Turn lo hi w w') (h1 : lo' ≤ lo) (h2 : hi ≤ hi') : Turn lo' hi' w w' := ⟨h.os, h.tape, h.output, h.size, fun i hi3 ho => h.block i hi3 (by omega)⟩
theorem Turn.set {p : Addr} {v : Value} (hp : lo ≤ p.block ∧ p.block < hi) : Turn lo hi w (w.setCell p v) :=
  ⟨rfl, rfl, rfl, by simp [World.setCell], fun i _ ho => Below.heap_setCell w p v i (fun e => by omega)⟩
theorem Turn.cell (h : Turn lo hi w w') {b o : Nat} (hb : b < w.heap.size) (ho : b < lo ∨ hi ≤ b) : w'.cell? ⟨b, o, none⟩ = w.cell? ⟨b, o, none⟩ := World.cell?_of_block (h.block b hb ho)
theorem Turn.keep (h : Turn lo hi w w') {b o : Nat} {v : Value} (hc : w.cell? ⟨b, o, none⟩ = some v) (ho : b < lo ∨ hi ≤ b) : w'.cell? ⟨b, o, none⟩ = some v :=
  (h.cell (World.block_lt_of_cell? w _ hc) ho).trans hc
theorem Turn.toExt (h : Turn lo hi w w') (ha : Ext a w) (hl : a.heap.size ≤ lo) : Ext a w' :=
  ⟨h.os.trans ha.os, h.tape.trans ha.tape, h.output.trans ha.output, Nat.le_trans ha.size h.size, fun k hk => (h.block k (by have := ha.size; omega) (.inl (by omega))).trans (ha.block k hk)⟩
theorem RI.turn (h : RI w A n xs) (k : Turn lo hi w w') (hd : ∀ g o s, A = some ⟨g, o, s⟩ → g < lo ∨ hi ≤ g) : RI w' A n xs :=
  ⟨h.1, fun hn => by
    obtain ⟨b, o, hB, hc⟩ := h.2 hn
    exact ⟨b, o, hB, fun j x hx => k.keep (hc j x hx) (hd _ _ _ hB)⟩⟩
theorem OwI.turn (h : OwI w D A n c xs) (k : Turn lo hi w w') (hd : ∀ g o s, A = some ⟨g, o, s⟩ → g < lo ∨ hi ≤ g) : OwI w' D A n c xs := by
  refine h.heap fun g hB => ?_
  rcases h.form with ⟨h0, _⟩ | ⟨g', hB', _, hlt⟩
  · rw [h0] at hB; cases hB
  · rw [hB'] at hB; cases hB
    exact k.block g hlt (hd _ _ _ hB')
end
set_option maxHeartbeats 1000000 in
theorem c_markInts {A : Option Addr} {n c B : Nat} {xs : List Int} {k : Int} {w : World} (h0 : OwI w B A n c xs) (hk : 0 ≤ k) (hk2 : k ≤ 1000000000000000) :
    Calls Try.prog 34 #[.slice A n c, .int .i64 k] w fun e w' => e = .returned (.int .i64 (k + n)) ∧ OwI w' B A n c (marks k n) ∧ OnlyA w w' A := by
  have hn := h0.le
  have hl := h0.len
  have H0 := Lib.hid h0
  have HL := Lib.hid hl
  clear h0 hl
  go_enter Try.func34, Try.ntmps34
  go_wp2
  go_loopw [1, 5] (fun x i wr => ∃ q : Nat, i = .int .i64 q ∧ q ≤ n ∧ x = .int .i64 (k + q) ∧ Hid (OwI wr B A n c (marks k q ++ xs.drop q)) ∧ Hid (OnlyA w wr A)) (fun _ i _ => n - (intOf i).toNat)
  case atStart => exact ⟨0, rfl, Nat.zero_le _, by simp, Lib.hid (by simpa [marks] using H0.out), Lib.hid (World.grownBy.refl w _)⟩
  case round =>
    obtain ⟨q, rfl, hq, rfl, hO, hG⟩ := hrel
    by_cases hlt : q < n
    · rcases hO.out.form with ⟨rfl, rfl, _⟩ | ⟨g, rfl, hg1, hg2⟩
      · omega
      · obtain ⟨x, _, hcx, hfx⟩ := hO.out.at_ hlt
        have HS := Lib.hid (marks_set (k := k) (xs := xs) (n := q) (by rw [HL.out]; exact hlt))
        have HN := Lib.hid (OwI.set hO.out q (k + (q : Int)))
        have HG := Lib.hid (Only.trans hG.out (Only.setCell wr g q (.int .i64 (k + (q : Int)))))
        go_wp2
        go_roundw
        case rel => exact ⟨q + 1, by go_num, by omega, by go_num, Lib.hid (by rw [← HS.out]; exact HN.out), HG⟩
        case measure => simp only [intOf]; omega
    · go_wp2
      go_ret
      have hqn : q = n := by omega
      subst hqn
      refine ⟨rfl, ?_, hG.out⟩
      have := hO.out
      rwa [List.drop_of_length_le (by rw [HL.out]; exact Nat.le_refl _), List.append_nil] at this
set_option maxHeartbeats 1000000 in
theorem c_heldInts {A : Option Addr} {n c : Nat} {k : Int} {w : World} (h0 : RI w A n (marks k n)) (hk : 0 ≤ k) (hk2 : k ≤ 1000000000000000) :
    Calls Try.prog 35 #[.slice A n c, .int .i64 k] w fun e w' => e = .returned (.int .i64 (k + n)) ∧ w = w' := by
  have hn := h0.le
  have H0 := Lib.hid h0
  clear h0
  go_enter Try.func35, Try.ntmps35
  go_wp2
  go_loop [1, 5] (fun x i => ∃ q : Nat, i = .int .i64 q ∧ q ≤ n ∧ x = .int .i64 (k + q)) (fun _ i => n - (intOf i).toNat)
  case atStart => exact ⟨0, rfl, Nat.zero_le _, by simp⟩
  case round =>
    obtain ⟨q, rfl, hq, rfl⟩ := hrel
    by_cases hlt : q < n
    · obtain ⟨b, o, x, rfl, hx, hcx⟩ := RI.at_ H0.out hlt
      rw [marks_get hlt] at hx
      cases hx
      have hb : ((k + (q : Int)) != (k + (q : Int))) = false := by simp
      go_wp2
      go_round
      case rel => exact ⟨q + 1, by go_num, by omega, by go_num⟩
      case measure => simp only [intOf]; omega
    · go_wp2
      go_ret
      exact ⟨ret_int (by omega), rfl⟩

end Go.Proofs.Ytempekmenkeigaa
