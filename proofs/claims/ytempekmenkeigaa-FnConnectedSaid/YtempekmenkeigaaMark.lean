/- The laws' marks: mark writes k, k+1, .. into a value's own cells, held reads them. -/
import Derived.Test.YtempekmenkeigaaTerm
namespace Go.Proofs.Ytempekmenkeigaa
open Go.RowKit
set_option linter.unusedSimpArgs false
set_option linter.unusedVariables false

/-- k, k+1, .. -/
def marks (k : Int) (n : Nat) : List Int := (List.range n).map fun j : Nat => k + (j : Int)
theorem marks_len (k : Int) (n : Nat) : (marks k n).length = n := by simp [marks]
theorem marks_succ (k : Int) (n : Nat) : marks k (n + 1) = marks k n ++ [k + (n : Int)] := by simp [marks, List.range_succ]
theorem marks_get {k : Int} {n j : Nat} (h : j < n) : (marks k n)[j]? = some (k + (j : Int)) := by
  unfold marks; rw [List.getElem?_map, List.getElem?_range h]; rfl
theorem marks_set {k : Int} {n : Nat} {xs : List Int} (h : n < xs.length) : (marks k n ++ xs.drop n).set n (k + (n : Int)) = marks k (n + 1) ++ xs.drop (n + 1) := by
  rw [List.set_append_right _ _ (by rw [marks_len]; exact Nat.le_refl _), marks_len, Nat.sub_self, List.drop_eq_getElem_cons h, List.set_cons_zero, marks_succ, List.append_assoc]
  rfl
/-- What only may have turned: the block of a slice's own, and new memory. -/
abbrev OnlyA (w w' : World) (A : Option Addr) : Prop := w.grownBy w' (A.map (·.block))
section
variable {a b c w w' : World} {A B : Option Addr} {n m cc : Nat} {xs : List Int}
theorem OnlyA.refl (w : World) (A : Option Addr) : OnlyA w w A := World.grownBy.refl w _
theorem OnlyA.trans (h : OnlyA a b A) (k : OnlyA b c A) : OnlyA a c A :=
  ⟨k.os.trans h.os, k.tape.trans h.tape, k.output.trans h.output, Nat.le_trans h.size k.size, fun i hi hne => (k.block i (Nat.lt_of_lt_of_le hi h.size) hne).trans (h.block i hi hne)⟩
theorem OnlyA.of_ext (h : Ext a b) (A : Option Addr) : OnlyA a b A := ⟨h.os, h.tape, h.output, h.size, fun i hi _ => h.block i hi⟩
/-- Older memory is as it was. -/
theorem OnlyA.ext (h : OnlyA w w' A) (ha : Ext a w) (hA : ∀ g o s, A = some ⟨g, o, s⟩ → a.heap.size ≤ g) : Ext a w' := Ext.grown ha h (fun k hk => by
  cases A with
  | none => cases hk
  | some p => cases hk; exact hA _ _ _ rfl)
theorem OnlyA.cells (h : OnlyA w w' A) {b o : Nat} (hb : b < w.heap.size) (hne : ∀ g o s, A = some ⟨g, o, s⟩ → b ≠ g) : w'.cell? ⟨b, o, none⟩ = w.cell? ⟨b, o, none⟩ :=
  World.cell?_of_block (h.block b hb (fun e => by
    cases A with
    | none => cases e
    | some p => simp only [Option.map] at e; injection e with e; exact hne _ _ _ rfl e))
/-- What lies in another block reads as before. -/
theorem RI.onlyA (h : RI w B m xs) (k : OnlyA w w' A) (hg : ∀ g o s g' o' s', A = some ⟨g, o, s⟩ → B = some ⟨g', o', s'⟩ → g' ≠ g) : RI w' B m xs :=
  ⟨h.1, fun hn => by
    obtain ⟨b, o, hB, hc⟩ := h.2 hn
    refine ⟨b, o, hB, fun j x hx => ?_⟩
    have h1 := hc j x hx
    refine (World.cell?_of_block (k.block b (World.block_lt_of_cell? w _ h1) (fun e => ?_))).trans h1
    cases A with
    | none => cases e
    | some p => simp only [Option.map] at e; injection e with e; exact hg _ _ _ _ _ _ rfl hB e⟩
theorem OwI.onlyA {D : Nat} (h : OwI w D B m cc xs) (k : OnlyA w w' A) (hg : ∀ g o s g' o' s', A = some ⟨g, o, s⟩ → B = some ⟨g', o', s'⟩ → g' ≠ g) : OwI w' D B m cc xs := by
  refine h.heap fun g hB => ?_
  rcases h.form with ⟨h0, _⟩ | ⟨g', hB', _, hlt⟩
  · rw [h0] at hB; cases hB
  · rw [hB'] at hB; cases hB
    refine k.block g hlt fun e => ?_
    cases A with
    | none => cases e
    | some p => simp only [Option.map] at e; injection e with e; exact hg _ _ _ _ _ _ rfl hB' e
end

theorem one_cells (w : World) (x : Value) (t : TypeId) : ∀ (j : Nat) (u : Value), [x][j]? = some u → (w.alloc (.cells #[x] t)).cell? ((⟨w.heap.size, 0, none⟩ : Addr).add j) = some u := by
  intro j u hj
  match j, hj with
  | 0, hj => simp at hj; subst hj; simp [Addr.add, go_sem]
theorem one_cells' {w : World} {H : Nat} (hH : w.heap.size = H) (x : Value) (t : TypeId) : ∀ (j : Nat) (u : Value), [x][j]? = some u → (w.alloc (.cells #[x] t)).cell? ((⟨H, 0, none⟩ : Addr).add j) = some u := by
  subst hH; exact one_cells w x t
theorem one_one (x : Int) : ∀ u ∈ [Value.int .i64 x], u.oneCell' = true := by intro u hu; simp at hu; subst hu; rfl

set_option maxHeartbeats 1000000 in
theorem c_markInt64S {A : Option Addr} {n c B : Nat} {xs : List Int} {k : Int} {w : World} (h0 : OwI w B A n c xs) (hk : 0 ≤ k) (hk2 : k ≤ 1000000000000) :
    Calls Try.prog 34 #[.slice A n c, .int .i64 k] w fun e w' => e = .returned (.int .i64 (k + n)) ∧ OwI w' B A n c (marks k n) ∧ OnlyA w w' A := by
  have hn := h0.le
  have hl := h0.len
  have H0 := Lib.hid h0
  have HL := Lib.hid hl
  clear h0 hl
  go_enter Try.func34, Try.ntmps34
  go_wp2
  go_loopw [1, 5] (fun x i wr => ∃ q : Nat, i = .int .i64 q ∧ q ≤ n ∧ x = .int .i64 (k + q) ∧ Hid (OwI wr B A n c (marks k q ++ xs.drop q)) ∧ Hid (OnlyA w wr A)) (fun _ i _ => n - (intOf i).toNat)
  case atStart => exact ⟨0, rfl, Nat.zero_le _, by simp, Lib.hid (by simpa [marks] using H0.out), Lib.hid (World.grownBy.refl w _)⟩
  case round =>
    obtain ⟨q, rfl, hq, rfl, hO, hG⟩ := hrel
    by_cases hlt : q < n
    · rcases hO.out.form with ⟨rfl, rfl, _⟩ | ⟨g, rfl, hg1, hg2⟩
      · omega
      · obtain ⟨x, _, hcx, hfx⟩ := hO.out.at_ hlt
        have HS := Lib.hid (marks_set (k := k) (xs := xs) (n := q) (by rw [HL.out]; exact hlt))
        have HN := Lib.hid (OwI.set hO.out q (k + (q : Int)))
        have HG := Lib.hid (Only.trans hG.out (Only.setCell wr g q (.int .i64 (k + (q : Int)))))
        go_wp2
        go_roundw
        case rel => exact ⟨q + 1, by go_num, by omega, by go_num, Lib.hid (by rw [← HS.out]; exact HN.out), HG⟩
        case measure => simp only [intOf]; omega
    · go_wp2
      go_ret
      have hqn : q = n := by omega
      subst hqn
      refine ⟨rfl, ?_, hG.out⟩
      have := hO.out
      rwa [List.drop_of_length_le (by rw [HL.out]; exact Nat.le_refl _), List.append_nil] at this
set_option maxHeartbeats 1000000 in
theorem c_heldInt64S {A : Option Addr} {n c : Nat} {k : Int} {w : World} (h0 : RI w A n (marks k n)) (hk : 0 ≤ k) (hk2 : k ≤ 1000000000000) :
    Calls Try.prog 35 #[.slice A n c, .int .i64 k] w fun e w' => e = .returned (.int .i64 (k + n)) ∧ w = w' := by
  have hn := h0.le
  have H0 := Lib.hid h0
  clear h0
  go_enter Try.func35, Try.ntmps35
  go_wp2
  go_loop [1, 5] (fun x i => ∃ q : Nat, i = .int .i64 q ∧ q ≤ n ∧ x = .int .i64 (k + q)) (fun _ i => n - (intOf i).toNat)
  case atStart => exact ⟨0, rfl, Nat.zero_le _, by simp⟩
  case round =>
    obtain ⟨q, rfl, hq, rfl⟩ := hrel
    by_cases hlt : q < n
    · obtain ⟨b, o, x, rfl, hx, hcx⟩ := RI.at_ H0.out hlt
      rw [marks_get hlt] at hx
      cases hx
      have hb : ((k + (q : Int)) != (k + (q : Int))) = false := by simp
      go_wp2
      go_round
      case rel => exact ⟨q + 1, by go_num, by omega, by go_num⟩
      case measure => simp only [intOf]; omega
    · go_wp2
      go_ret
      exact ⟨ret_int (by omega), rfl⟩
set_option maxHeartbeats 1000000 in
theorem c_markSig {A : Option Addr} {n c B : Nat} {xs : List Int} {k : Int} {w : World} (h0 : OwI w B A n c xs) (hk : 0 ≤ k) (hk2 : k ≤ 1000000000000) :
    Calls Try.prog 32 #[.agg #[.slice A n c], .int .i64 k] w fun e w' => e = .returned (.int .i64 (k + n)) ∧ OnlyA w w' A := by
  have H0 := Lib.hid h0
  clear h0
  go_enter Try.func32, Try.ntmps32
  go_wp2_with (go_at_call 34; (with_reducible refine (c_markInt64S (B := B) (xs := xs) (OwI.ext H0.out (by exact extX)) hk hk2).mono ?_); rintro e w2 ⟨rfl, _, hO⟩; have HO2 := Lib.hid hO; clear hO)
  go_ret
  exact ⟨rfl, (OnlyA.of_ext (by exact extX) A).trans HO2.out⟩

end Go.Proofs.Ytempekmenkeigaa
