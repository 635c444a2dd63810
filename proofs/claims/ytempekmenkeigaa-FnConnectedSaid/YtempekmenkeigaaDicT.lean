/- What the laws make of the dice: signatures, ranks, weights, terms. -/
import Derived.Test.YtempekmenkeigaaDice
import Derived.Test.YtempekmenkeigaaCopy
import Derived.Test.YtempekmenkeigaaMgA
namespace Go.Proofs.Ytempekmenkeigaa
open Go.RowKit
set_option linter.unusedSimpArgs false
set_option linter.unusedVariables false

/-- Integers that are there and not in block g. -/
def RIg (w : World) (g : Nat) (A : Option Addr) (n : Nat) (xs : List Int) : Prop := RI w A n xs ∧ ∀ b o s, A = some ⟨b, o, s⟩ → b ≠ g
theorem RIg.only {w w' : World} {g n : Nat} {A : Option Addr} {xs : List Int} (h : RIg w g A n xs) (k : Only w w' g) : RIg w' g A n xs := ⟨RI.only h.1 k fun b o s e _ => h.2 b o s e, h.2⟩
theorem RIg.ext {w w' : World} {g n : Nat} {A : Option Addr} {xs : List Int} (h : RIg w g A n xs) (k : Ext w w') : RIg w' g A n xs := ⟨h.1.ext k, h.2⟩
theorem RIg.of {w : World} {g B n c : Nat} {A : Option Addr} {xs : List Int} (h : OwI w B A n c xs) (hg : g < B) : RIg w g A n xs := ⟨h.ri, fun b o s e => by have := (h.bd b o s e).1; omega⟩
/-- A row that has just been made. -/
theorem OwI.fresh {w : World} (xs : List Int) (hn : xs.length ≤ 4194304) : OwI (w.alloc (.cells (xs.map (Value.int .i64)).toArray 2)) w.heap.size (some ⟨w.heap.size, 0, none⟩) xs.length xs.length xs := by
  refine ⟨hn, by simp, .inr ⟨w.heap.size, xs.length, _, rfl, Nat.le_refl _, heap_alloc_new w _, Nat.le_refl _, by unfold maxLen; omega, by simp, by simp [List.take_of_length_le]⟩⟩

theorem c_big {v : Value} {n : Nat} {b : Bool} {w : World} (hb : decide (4096 < n) = b) (h0 : RawBy w v n) : Calls Try.prog 14 #[v] w fun e w' => e = .returned (.bool b) ∧ Ext w w' := by
  obtain ⟨A, c, rfl, hn, _⟩ := h0
  go_enter Try.func14, Try.ntmps14
  go_wp2
  go_ret
  exact ⟨ret_bool (by rw [← hb]; simp; try omega), Ext.refl _⟩
set_option maxRecDepth 100000 in
set_option maxHeartbeats 2000000 in
theorem c_roll {v : Value} {n : Nat} {seed : Int} {w : World} (h0 : RawBy w v n) (hn : n ≤ 4096) :
    Calls Try.prog 15 #[v, .int .u64 seed] w fun e w' => ∃ g, e = .returned (.pointer (some ⟨g, 0, none⟩)) ∧ Dice w' g ∧ w.heap.size ≤ g ∧ Ext w w' := by
  obtain ⟨A, c, rfl, _, hb⟩ := h0
  have HB := Lib.hid hb
  clear hb
  go_enter Try.func15, Try.ntmps15
  go_wp2_with fail
  obtain ⟨wb, hwb⟩ : ∃ wb, wb = w.alloc (.cells #[.slice A n c, .int .i64 0, .int .u64 (IntKind.u64.wrap (IntKind.u64.wrap (seed * 7919) + (n : Int)))] 71) := ⟨_, rfl⟩
  have hS : Hid (∃ hh : Int, wb.cell? ⟨w.heap.size, 0, none⟩ = some (.slice A n c) ∧ wb.cell? ⟨w.heap.size, 1, none⟩ = some (.int .i64 0) ∧ wb.cell? ⟨w.heap.size, 2, none⟩ = some (.int .u64 hh) ∧ ∀ j, wb.frozen? ⟨w.heap.size, j, none⟩ = false) := Lib.hid ⟨_, by rw [hwb]; simp [go_sem], by rw [hwb]; simp [go_sem], by rw [hwb]; simp [go_sem]; rfl, fun j => by rw [hwb]; simp [go_sem]⟩
  have hEb : Ext w wb := by rw [hwb]; exact extX
  rw [← hwb]
  clear hwb
  go_loopw [6] (fun i wr => ∃ k : Nat, i = .int .i64 k ∧ k ≤ n ∧ Hid (∃ hh : Int, wr.cell? ⟨w.heap.size, 0, none⟩ = some (.slice A n c) ∧ wr.cell? ⟨w.heap.size, 1, none⟩ = some (.int .i64 0) ∧ wr.cell? ⟨w.heap.size, 2, none⟩ = some (.int .u64 hh) ∧ ∀ j, wr.frozen? ⟨w.heap.size, j, none⟩ = false) ∧ Ext w wr) (fun i _ => n - (intOf i).toNat)
  case atStart => exact ⟨0, rfl, Nat.zero_le _, hS, hEb⟩
  case round =>
    obtain ⟨k, rfl, hk, hT, hE⟩ := hrel
    obtain ⟨hh, c0, c1, c2, cf⟩ := hT.out
    have hgl : w.heap.size < wr.heap.size := World.block_lt_of_cell? wr _ c0
    by_cases hlt : k < n
    · obtain ⟨b, o, rfl, h4⟩ := HB.out (by omega)
      obtain ⟨y, hyw, hy2⟩ := h4 k hlt
      have hy := Ext.keep hE hyw
      have hki : (k : Int) < (n : Int) := by omega
      have hk0 : (0 : Int) ≤ (k : Int) := by omega
      have hbl : b < w.heap.size := World.block_lt_of_cell? w _ hyw
      go_wp2_with fail
      go_still_tail 13, (by kernel_rfl)
      change wpList _ _ _ _ _ wr.drew
      go_wp2_with fail
      go_roundw
      case rel => exact ⟨k + 1, by go_num, by omega, Lib.hid ⟨_, (World.cell?_setCell_other _ _ _ _ (by simp)).trans c0, (World.cell?_setCell_other _ _ _ _ (by simp)).trans c1, World.cell?_setCell_same _ _ _ c2, fun j => by simp [cf]⟩, by exact extX⟩
      case measure => simp only [intOf]; omega
    · go_wp2
      go_ret
      refine ⟨w.heap.size, rfl, ⟨⟨A, n, c, 0, hh, c0, c1, c2, Nat.zero_le _, hn, fun h3 => ?_⟩, cf⟩, Nat.le_refl _, hE⟩
      obtain ⟨b, o, e, h4⟩ := HB.out h3
      refine ⟨b, o, e, ?_, fun j hj => by obtain ⟨y, h5, h6⟩ := h4 j hj; exact ⟨y, Ext.keep hE h5, h6⟩⟩
      obtain ⟨y, h5, _⟩ := h4 0 h3
      exact World.block_lt_of_cell? w _ h5
theorem c_w9Sig {w : World} : Calls Try.prog 36 #[] w (NewSig w [2, 1, 0]) := by
  go_enter Try.func36, Try.ntmps36
  go_wp2_with fail
  have HO := Lib.hid (OwI.fresh (w := w.alloc (.cells #[.slice (some ⟨w.heap.size + 1, 0, none⟩) 3 3] 31)) [2, 1, 0] (by decide))
  refine bodyPost_ret (v := .agg #[.slice (some ⟨w.heap.size + 1, 0, none⟩) 3 3]) (by simp [results, Try.results36, go_sem]) rfl ⟨_, 3, 3, rfl, ?_, by exact extX⟩
  have := HO.out.lower (B' := w.heap.size) (by simp)
  simpa using this
def PermR (rk : List Int) : Prop := rk ∈ [[0, 1, 2], [0, 2, 1], [1, 0, 2], [1, 2, 0], [2, 0, 1], [2, 1, (0 : Int)]]
theorem RI.lit {w : World} {g : Nat} {xs : List Int} {T : TypeId} (hh : w.heap[g]? = some (.cells (xs.map (Value.int .i64)).toArray T (0, 0))) (hn : xs.length ≤ 4194304) : RI w (some ⟨g, 0, none⟩) xs.length xs :=
  ⟨⟨rfl, hn⟩, fun _ => ⟨g, 0, rfl, fun j x hx => by rw [Nat.zero_add, cell_of_row w g _ _ _ (0, 0) hh]; simp [hx]⟩⟩
def allocs (w : World) (os : List Obj) : World := os.foldl (fun w o => w.alloc o) w
theorem allocs_heap : ∀ (os : List Obj) (w : World), (allocs w os).heap = w.heap ++ os.toArray
  | [], w => by simp [allocs]
  | o :: os, w => by
    show (allocs (w.alloc o) os).heap = _
    rw [allocs_heap os (w.alloc o)]
    show w.heap.push o ++ os.toArray = _
    rw [Array.push_eq_append, Array.append_assoc]
    simp
theorem allocs_at (w : World) (os : List Obj) (j : Nat) : (allocs w os).heap[w.heap.size + j]? = os[j]? := by
  rw [allocs_heap, Array.getElem?_append_right (by omega)]; simp
theorem Only.grown {w0 w w' : World} {g : Nat} {row : Option Nat} (h : Only w0 w g) (k : w.grownBy w' row) (hr : ∀ b, row = some b → w0.heap.size ≤ b) : Only w0 w' g :=
  ⟨k.os.trans h.os, k.tape.trans h.tape, k.output.trans h.output, Nat.le_trans h.size k.size, fun i hi hne => (k.block i (Nat.lt_of_lt_of_le hi h.size) (fun e => by have := hr i e.symm; omega)).trans (h.block i hi hne)⟩
theorem Dice.grown {w w' : World} {g : Nat} {row : Option Nat} (h : Dice w g) (k : w.grownBy w' row) (hr : ∀ b, row = some b → g < b) : Dice w' g :=
  h.below (Below.grown (Below.refl _ _) k (by have := h.lt; omega) (fun b hb => hr b hb))
theorem OwI.only {w w' : World} {g B n c : Nat} {A : Option Addr} {xs : List Int} (h : OwI w B A n c xs) (k : Only w w' g) (hg : g < B) : OwI w' B A n c xs :=
  h.heap fun b e => by have h1 := h.bd b 0 none e; exact k.block b h1.2 (fun e2 => by cases e2; omega)
/-- How long a term by dice may be. -/
def bdT : Nat → Nat
  | 0 => 1
  | d + 1 => 1 + 2 * bdT d
theorem bdT_le : ∀ {d : Nat}, d ≤ 3 → bdT d ≤ 15
  | 0, _ => by decide
  | 1, _ => by decide
  | 2, _ => by decide
  | 3, _ => by decide
  | d + 4, h => by omega
theorem arI3 {y : Nat} (h : y ≤ 2) : arI [2, 1, 0] (y : Int) = some (2 - y) := by
  match y, h with
  | 0, _ => decide
  | 1, _ => decide
  | 2, _ => decide
def NewTm (w : World) (g d : Nat) (vars : Int) (e : Ending) (w' : World) : Prop := ∃ (A : Option Addr) (n c : Nat) (u : Tm), e = .returned (.slice A n c) ∧ OwI w' w.heap.size A n c u.flat ∧ u.Ok [2, 1, 0] ∧ (∀ x ∈ u.flat, -vars ≤ x) ∧ n ≤ bdT d ∧ Dice w' g ∧ Only w w' g
set_option maxRecDepth 100000 in
set_option maxHeartbeats 8000000 in
theorem c_w9Term_step {g d : Nat} {vars z : Int} {w : World} (hv : 0 ≤ vars) (hv2 : vars ≤ 10) (hd : d ≤ 3) (hz : z = (d : Int) + 1) (h0 : Dice w g)
    (ih : d ≠ 0 → ∀ (z : Int) {w : World}, z = (d : Int) → Dice w g → Calls Try.prog 56 #[.pointer (some ⟨g, 0, none⟩), .int .i64 z, .int .i64 vars] w (NewTm w g (d - 1) vars)) :
    Calls Try.prog 56 #[.pointer (some ⟨g, 0, none⟩), .int .i64 z, .int .i64 vars] w (NewTm w g d vars) := by
  have HD := Lib.hid h0
  have hgl := h0.lt
  have HI := Lib.hid ih
  obtain ⟨i0, hii, hiz, his, hib⟩ := info_parts int64_info
  clear h0 ih
  rcases Int.lt_or_le 0 vars with hv0 | hv0
  go_enter Try.func56, Try.ntmps56
  go_wp2_with fail
  (with_reducible refine (c_below HD.out (by omega) (by omega)).mono ?_)
  rintro e w1 ⟨x, rfl, hx, hD1, hO1⟩
  by_cases hx0 : x = 0
  · subst hx0
    have hs1 := hO1.size
    go_wp2_with fail
    (with_reducible refine (c_below hD1 (by omega) (by omega)).mono ?_)
    rintro e w2 ⟨y, rfl, hy, hD2, hO2⟩
    have hs2 := hO2.size
    have HO := Lib.hid (OwI.fresh (w := w2) [-1 - y] (by simp))
    have hyw : IntKind.i64.wrap (-1 - y) = -1 - y := IntWalk.i64_in _ (by omega)
    go_wp2
    go_ret
    refine ⟨some ⟨w2.heap.size, 0, none⟩, 1, 1, .node (-1 - y) [], rfl, ?_, ?_, ?_, ?_, hD2.ext ((Ext.refl w2).alloc _), (hO1.trans hO2).trans (Only.of_ext ((Ext.refl w2).alloc _) g)⟩
    · rw [flat_node, flatL_nil]; exact HO.out.lower (by omega)
    · rw [Ok_node]; exact ⟨by unfold arI; rw [if_pos (by omega)]; rfl, by simp [OkL]⟩
    · rw [flat_node, flatL_nil]; intro q hq; rw [List.mem_singleton.1 hq]; omega
    · cases d <;> simp [bdT]
  have hxb : (x == 0) = false := by simpa using hx0
  go_wp2_with fail
  rotate_left 1
  go_enter Try.func56, Try.ntmps56
  go_wp2_with fail
  have hD1 := HD.out
  have hO1 := Only.refl w g
  all_goals
    (with_reducible refine (c_below hD1 (by omega) (by omega)).mono ?_)
    rintro e w2 ⟨y, rfl, hy, hD2, hO2⟩
    have hO02 : Only w w2 g := hO1.trans hO2
    have hs2 := hO02.size
    by_cases hd0 : d = 0
    · subst hd0
      have HO := Lib.hid (OwI.fresh (w := w2) [2] (by simp))
      have hz1 : z ≤ 1 := by omega
      go_wp2_with fail
      go_loopw [8, 9] (fun ov kv wr => ov = .slice (some ⟨w2.heap.size, 0, none⟩) 1 1 ∧ kv = .int .i64 2 ∧ wr = w2.alloc (.cells #[.int .i64 2] 2)) (fun _ _ _ => 0)
      case atStart => exact ⟨rfl, rfl, rfl⟩
      case round =>
        obtain ⟨rfl, rfl, rfl⟩ := hrel
        go_wp2
        go_ret
        refine ⟨_, 1, 1, .node 2 [], rfl, ?_, ?_, ?_, ?_, hD2.ext ((Ext.refl w2).alloc _), hO02.trans (Only.of_ext ((Ext.refl w2).alloc _) g)⟩
        · rw [flat_node, flatL_nil]; exact HO.out.lower (by omega)
        · rw [Ok_node]; exact ⟨arI3 (y := 2) (by omega), by simp [OkL]⟩
        · rw [flat_node, flatL_nil]; intro q hq; rw [List.mem_singleton.1 hq]; omega
        · simp [bdT]
    · obtain ⟨d', rfl⟩ : ∃ d', d = d' + 1 := ⟨d - 1, by omega⟩
      obtain ⟨y', rfl⟩ := Int.eq_ofNat_of_zero_le hy.1
      have HO := Lib.hid (OwI.fresh (w := w2) [(y' : Int)] (by simp))
      have hz1 : ¬ z ≤ 1 := by omega
      have hzw : IntKind.i64.wrap (z - 1) = z - 1 := IntWalk.i64_in _ (by omega)
      have hb15 := bdT_le (d := d') (by omega)
      have hD2b := Lib.hid (hD2.ext ((Ext.refl w2).alloc (.cells #[.int .i64 (y' : Int)] 2)))
      have hO2b := Lib.hid (hO02.trans (Only.of_ext ((Ext.refl w2).alloc (.cells #[.int .i64 (y' : Int)] 2)) g))
      go_wp2_with fail
      go_loopw [8, 9] (fun ov kv wr => ∃ k : Nat, kv = .int .i64 k ∧ y' ≤ k ∧ k ≤ 2 ∧ (∃ A n c, ov = .slice A n c ∧ n ≤ 1 + (k - y') * bdT d' ∧ Hid (∃ us, OwI wr w.heap.size A n c ((y' : Int) :: flatL us) ∧ OkL [2, 1, 0] us ∧ us.length = k - y' ∧ ∀ q ∈ flatL us, -vars ≤ q)) ∧ Hid (Dice wr g ∧ Only w wr g)) (fun _ kv _ => 2 - (intOf kv).toNat)
      case atStart => exact ⟨y', rfl, Nat.le_refl _, by omega, ⟨_, _, _, rfl, by omega, Lib.hid ⟨[], by rw [flatL_nil]; exact HO.out.lower (by omega), by simp [OkL], by simp, by rw [flatL_nil]; intro q hq; cases hq⟩⟩, Lib.hid ⟨hD2b.out, hO2b.out⟩⟩
      case round =>
        obtain ⟨k, rfl, hk1, hk2, ⟨A, n, c, rfl, hn, hST⟩, hDD⟩ := hrel
        obtain ⟨us, hO, hok, hul, hge⟩ := hST.out
        have hDr := hDD.out.1
        have hOr := hDD.out.2
        have HOK := Lib.hid hok
        have HGE := Lib.hid hge
        have HUL := Lib.hid hul
        have HO6 := Lib.hid hO
        have hsr := hOr.size
        clear hST hok hge hul hO
        by_cases hlt : k < 2
        · have hki : (k : Int) < 2 := by omega
          go_wp2_with fail
          (with_reducible refine (HI.out (by omega) ((d' : Int) + 1) (by omega) hDr).mono ?_)
          rintro e w3 ⟨A3, n3, c3, u, rfl, hO3, hok3, hge3, hn3, hD3, hOn3⟩
          have HR3 := Lib.hid hO3.ri
          have HO7 := Lib.hid (HO6.out.only hOn3 hgl)
          have hs3 := hOn3.size
          have hO03 := hOr.trans hOn3
          have hn15 : n3 ≤ 15 := by simp at hn3; omega
          have hn31 : n ≤ 31 := by
            have h1 : (k - y') * bdT d' ≤ 2 * 15 := Nat.mul_le_mul (by omega) hb15
            omega
          have hcp := HO7.out.cap
          clear hO3
          go_wp2_with (at_builtin; go_loud (refine wpList_append_ints rfl (.tmp 33) (.tmp 38) 22 rfl i0 Try.underlying22 hii hiz his hib (D := w.heap.size) rfl HO7.out rfl HR3.out (by omega) (by omega) hcp.1 ?_))
          intro A4 c4 w4 hO4 hg4 hat4
          have HO4 := Lib.hid hO4
          have hob := OwI.ob2 HO7.out
          have HD4 := Lib.hid (hD3.grown hg4 (fun b hb => by have := (hob b hb).1; omega))
          have HON4 := Lib.hid (hO03.grown hg4 (fun b hb => (hob b hb).1))
          have HN := Lib.hid (show OwI w4 w.heap.size A4 (n + n3) c4 ((y' : Int) :: flatL (us ++ [u])) ∧ OkL [2, 1, 0] (us ++ [u]) ∧ (us ++ [u]).length = k + 1 - y' ∧ ∀ q ∈ flatL (us ++ [u]), -vars ≤ q from by
            rw [flatL_append, flatL_cons, flatL_nil, List.append_nil]
            refine ⟨by simpa using HO4.out, OkL_iff.2 fun a ha => ?_, by rw [List.length_append, HUL.out]; simp; omega, fun q hq => ?_⟩
            · rcases List.mem_append.1 ha with ha | ha
              · exact OkL_iff.1 HOK.out a ha
              · rw [List.mem_singleton.1 ha]; exact hok3
            · rcases List.mem_append.1 hq with hq | hq
              · exact HGE.out q hq
              · exact hge3 q hq)
          have hnn : n + n3 ≤ 1 + (k + 1 - y') * bdT d' := by
            have h1 : n3 ≤ bdT d' := by simpa using hn3
            rw [show k + 1 - y' = (k - y') + 1 by omega, Nat.add_mul, Nat.one_mul]; omega
          clear hO4 hg4 hat4 hob
          go_wp2
          go_roundw
          case rel => exact ⟨k + 1, by go_num, by omega, by omega, ⟨_, _, _, rfl, hnn, Lib.hid ⟨_, HN.out⟩⟩, Lib.hid ⟨HD4.out, HON4.out⟩⟩
          case measure => simp only [intOf]; omega
        · have hk22 : k = 2 := by omega
          subst hk22
          go_wp2
          go_ret
          refine ⟨_, _, _, .node (y' : Int) us, rfl, ?_, ?_, ?_, ?_, hDr, hOr⟩
          · rw [flat_node]; exact HO6.out
          · rw [Ok_node, HUL.out]; exact ⟨arI3 (by omega), HOK.out⟩
          · rw [flat_node]; intro q hq
            rcases List.mem_cons.1 hq with rfl | hq
            · omega
            · exact HGE.out q hq
          · have h1 : (2 - y') * bdT d' ≤ 2 * bdT d' := Nat.mul_le_mul_right _ (by omega)
            simp only [bdT]; omega
theorem c_w9Term {g : Nat} {vars : Int} (hv : 0 ≤ vars) (hv2 : vars ≤ 10) : ∀ (d : Nat), d ≤ 3 → ∀ (z : Int) {w : World}, z = (d : Int) + 1 → Dice w g → Calls Try.prog 56 #[.pointer (some ⟨g, 0, none⟩), .int .i64 z, .int .i64 vars] w (NewTm w g d vars)
  | 0, hd, z, w, hz, h0 => c_w9Term_step hv hv2 hd hz h0 (fun h => absurd rfl h)
  | d + 1, hd, z, w, hz, h0 => c_w9Term_step hv hv2 hd hz h0 (fun _ z w hz hD => c_w9Term hv hv2 d (by omega) z (by omega) hD)

end Go.Proofs.Ytempekmenkeigaa
