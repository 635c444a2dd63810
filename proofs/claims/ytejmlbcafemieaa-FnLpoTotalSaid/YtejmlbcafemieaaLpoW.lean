/- The program's path orders: what is told of two terms. -/
import Derived.Test.YtejmlbcafemieaaLpoB
import Derived.Test.YtejmlbcafemieaaRank
import Derived.Test.YtejmlbcafemieaaTermOk
namespace Go.Proofs.Ytejmlbcafemieaa
open Go.RowKit
set_option linter.unusedSimpArgs false
set_option linter.unusedVariables false

theorem LC.below {X : LC} (hP : X.P) : ∀ N, X.Below N
  | 0 => fun i j _ _ h => by omega
  | N + 1 => fun i j hi hj h => c_isGreater hP (c_find hP (c_bagArgs X) hi hj fun a b ha hb hab => LC.below hP N a b ha hb (by omega)) hi hj
theorem c_reason0 {X : LC} {w : World} (hP : X.P) (h : X.H w) : Calls Try.prog 110 #[.pointer (some ⟨X.g, 0, none⟩), .int .i64 0, .int .i64 0] w (X.Tell 0 0 w (.int .i8 (X.W 0 0 : Int))) :=
  c_reason (i := 0) (j := 0) hP (c_find hP (c_bagArgs X) hP.tt.2.1.1 hP.ts.2.1.1 fun a b ha hb hab => LC.below hP _ a b ha hb hab) h hP.tt.2.1.1 hP.ts.2.1.1
set_option maxRecDepth 100000 in
theorem zeroPaths : Try.zeroCells138.toList = [Value.slice none 0 0, .slice none 0 0, .nilIface, .slice none 0 0, .slice none 0 0] ++ List.replicate 3600 (.int .i8 0) := by kernel_rfl
theorem zeroPaths_at {k : Nat} (h : k < 3600) : Try.zeroCells138[5 + k]? = some (.int .i8 0) := by
  rw [← Array.getElem?_toList, zeroPaths, List.getElem?_append_right (by simp), List.getElem?_replicate]
  simp; omega
theorem zeroPaths_size : Try.zeroCells138.size = 3605 := Try.zeroCells138_size
/-- The box as it is made. -/
theorem paths_cells {Z : Array Value} (hz : Z.size = 3605) (h0 : ∀ k, k < 3600 → Z[5 + k]? = some (.int .i8 0)) (v0 v1 v2 v3 v4 : Value) :
    let C := ((((Z.setIfInBounds 0 v0).setIfInBounds 1 v1).setIfInBounds 2 v2).setIfInBounds 3 v3).setIfInBounds 4 v4
    C[0]? = some v0 ∧ C[1]? = some v1 ∧ C[2]? = some v2 ∧ C[3]? = some v3 ∧ C[4]? = some v4 ∧ ∀ k, k < 3600 → C[5 + k]? = some (.int .i8 0) := by
  intro C
  refine ⟨?_, ?_, ?_, ?_, ?_, fun k hk => ?_⟩
  · simp [C, Array.getElem?_setIfInBounds, hz]
  · simp [C, Array.getElem?_setIfInBounds, hz]
  · simp [C, Array.getElem?_setIfInBounds, hz]
  · simp [C, Array.getElem?_setIfInBounds, hz]
  · simp [C, Array.getElem?_setIfInBounds, hz]
  · show ((((((Z.setIfInBounds 0 v0).setIfInBounds 1 v1).setIfInBounds 2 v2).setIfInBounds 3 v3).setIfInBounds 4 v4))[5 + k]? = _
    rw [Array.getElem?_setIfInBounds_ne (by omega), Array.getElem?_setIfInBounds_ne (by omega), Array.getElem?_setIfInBounds_ne (by omega), Array.getElem?_setIfInBounds_ne (by omega), Array.getElem?_setIfInBounds_ne (by omega)]
    exact h0 k hk
set_option maxRecDepth 100000 in
set_option maxHeartbeats 1000000 in
theorem c_pathWhy {ar rk t s : List Int} {lex : Bool} {T : TypeId} {A : Option Addr} {n c : Nat} {R : Option Addr} {rn rc : Nat} {B : Option Addr} {m d : Nat} {D : Option Addr} {k l : Nat} {w : World} (hT : (if lex = true then 86 else 81) = T) (hs : SigP ar) (hrl : rk.length = ar.length) (ht : TermP ar t) (hss : TermP ar s)
    (ha : RI w A n ar) (hr : RI w R rn rk) (hB : RI w B m t) (hD : RI w D k s) (hmd : m ≤ d ∧ d ≤ 9223372036854775807) (hkl : k ≤ l ∧ l ≤ 9223372036854775807) :
    Calls Try.prog 59 #[.agg #[.slice A n c], .slice R rn rc, .slice D k l, .slice B m d, .iface T (.agg #[])] w fun e w' => e = .returned (.int .i64 (lpoW (rkF rk) lex (subT ar t 0) (subT ar s 0) : Int)) ∧ Ext w w' := by
  have hn1 : 0 < n := by rw [← ha.len]; exact hs.1
  have hrn : rn = n := by rw [← ha.len, ← hr.len, hrl]
  subst hrn
  have hm1 : 0 < m := by rw [← hB.len]; exact ht.2.1.1
  have hk1 : 0 < k := by rw [← hD.len]; exact hss.2.1.1
  obtain ⟨ab, ao, _, rfl, _, hca⟩ := RI.at_ ha hn1
  obtain ⟨rb, ro, _, rfl, _, hcr⟩ := RI.at_ hr hn1
  obtain ⟨tb, tq, _, rfl, _, hct⟩ := RI.at_ hB hm1
  obtain ⟨sb, so, _, rfl, _, hcs⟩ := RI.at_ hD hk1
  have hab : ab < w.heap.size := World.block_lt_of_cell? w _ hca
  have hrb : rb < w.heap.size := World.block_lt_of_cell? w _ hcr
  have htb : tb < w.heap.size := World.block_lt_of_cell? w _ hct
  have hsb : sb < w.heap.size := World.block_lt_of_cell? w _ hcs
  obtain ⟨Z, hZ⟩ : ∃ Z, Z = Try.zeroCells138 := ⟨_, rfl⟩
  have HZ := Lib.hid hZ
  have HA := Lib.hid ha
  have HR := Lib.hid hr
  have HB := Lib.hid hB
  have HD := Lib.hid hD
  have HT := Lib.hid hT
  have HP := Lib.hid (show LC.P ⟨ab, ao, rn, c, rb, ro, rc, tb, tq, m, d, sb, so, k, l, w.heap.size + 1, ar, rk, t, s, lex⟩ from ⟨hs, ht, hss, hrl, hmd, hkl⟩)
  clear ha hr hB hD hca hcr hct hcs hT hs ht hss hrl hmd hkl hZ
  obtain ⟨V, hV⟩ : ∃ V : Nat, V = lpoW (rkF rk) lex (subT ar t 0) (subT ar s 0) := ⟨_, rfl⟩
  have hV3 : V ≤ 3 := by rw [hV]; exact lpoW_le _ _ _ _
  have HV := Lib.hid hV
  rw [← hV]
  clear hV
  go_enter Try.func59, Try.ntmps59
  go_wp2_with fail
  rw [← HZ.out]
  obtain ⟨W0, hW0⟩ : ∃ W0, W0 = ((w.alloc (.cells #[.slice (some ⟨ab, ao, none⟩) rn c] 29)).alloc (.cells (((((Z.setIfInBounds 0 (.slice (some ⟨ab, ao, none⟩) rn c)).setIfInBounds 1 (.slice (some ⟨rb, ro, none⟩) rn rc)).setIfInBounds 2 (.iface T (.agg #[]))).setIfInBounds 3 (.slice (some ⟨tb, tq, none⟩) m d)).setIfInBounds 4 (.slice (some ⟨sb, so, none⟩) k l)) 138)) := ⟨_, rfl⟩
  have hE0 : Ext w W0 := by rw [hW0]; (repeat' (first | (with_reducible exact Ext.refl _) | (with_reducible assumption) | (with_reducible refine Ext.alloc ?_ _) | (with_reducible refine Ext.set ?_ ?_ _) | (with_reducible refine Ext.drewN ?_ _) | (with_reducible refine Ext.drew ?_) | (with_reducible refine Ext.trans ?_ (by with_reducible assumption)) | go_size))
  have hh0 : W0.heap[w.heap.size + 1]? = some (.cells (((((Z.setIfInBounds 0 (.slice (some ⟨ab, ao, none⟩) rn c)).setIfInBounds 1 (.slice (some ⟨rb, ro, none⟩) rn rc)).setIfInBounds 2 (.iface T (.agg #[]))).setIfInBounds 3 (.slice (some ⟨tb, tq, none⟩) m d)).setIfInBounds 4 (.slice (some ⟨sb, so, none⟩) k l)) 138 (0, 0)) := by
    rw [hW0]
    have := heap_alloc_new (w.alloc (.cells #[.slice (some ⟨ab, ao, none⟩) rn c] 29)) (.cells (((((Z.setIfInBounds 0 (.slice (some ⟨ab, ao, none⟩) rn c)).setIfInBounds 1 (.slice (some ⟨rb, ro, none⟩) rn rc)).setIfInBounds 2 (.iface T (.agg #[]))).setIfInBounds 3 (.slice (some ⟨tb, tq, none⟩) m d)).setIfInBounds 4 (.slice (some ⟨sb, so, none⟩) k l)) 138)
    rwa [World.size_alloc] at this
  rw [← hW0]
  clear hW0
  have hcell := fun o => cell_of_row W0 (w.heap.size + 1) o _ _ (0, 0) hh0
  have hfr : ∀ o, W0.frozen? ⟨w.heap.size + 1, o, none⟩ = false := fun o => frozen_of_row W0 _ _ _ _ hh0
  obtain ⟨e0, e1, e2, e3, e4, e5⟩ := paths_cells (Z := Z) (by rw [HZ.out]; exact zeroPaths_size) (fun k hk => by rw [HZ.out]; exact zeroPaths_at hk) (.slice (some ⟨ab, ao, none⟩) rn c) (.slice (some ⟨rb, ro, none⟩) rn rc) (.iface T (.agg #[])) (.slice (some ⟨tb, tq, none⟩) m d) (.slice (some ⟨sb, so, none⟩) k l)
  have HH := Lib.hid (show LC.H ⟨ab, ao, rn, c, rb, ro, rc, tb, tq, m, d, sb, so, k, l, w.heap.size + 1, ar, rk, t, s, lex⟩ W0 from
    ⟨HA.out.ext hE0, HR.out.ext hE0, HB.out.ext hE0, HD.out.ext hE0, by show ab ≠ w.heap.size + 1; omega, by show rb ≠ w.heap.size + 1; omega, by show tb ≠ w.heap.size + 1; omega, by show sb ≠ w.heap.size + 1; omega,
      (hcell 0).trans e0, (hcell 1).trans e1, (hcell 2).trans (by rw [e2]; unfold LC.by_; simp only; rw [HT.out]), (hcell 3).trans e3, (hcell 4).trans e4,
      fun i j hi hj => ⟨0, by show W0.cell? ⟨w.heap.size + 1, 5 + i * 60 + j, none⟩ = _; rw [hcell, Nat.add_assoc]; exact e5 _ (by omega), .inl rfl⟩, hfr⟩)
  have hsz0 := hE0.size
  clear hcell hfr e0 e1 e2 e3 e4 e5 hh0
  have HC := Lib.hid (c_reason0 HP.out HH.out)
  have HC2 : Hid (Calls Try.prog 110 #[.pointer (some ⟨w.heap.size + 1, 0, none⟩), .int .i64 0, .int .i64 0] W0 fun e w' => e = .returned (.int .i8 (V : Int)) ∧ Only W0 w' (w.heap.size + 1)) := Lib.hid (HC.out.mono fun e w' h => ⟨by rw [h.1, HV.out]; rfl, h.2.2⟩)
  clear HC HH
  (with_reducible refine HC2.out.mono ?_)
  rintro e w2 ⟨rfl, hO2⟩
  have hE2 : Ext w w2 := Only.ext hO2 hE0 (by omega)
  go_wp2
  go_ret
  exact ⟨rfl, hE2⟩

end Go.Proofs.Ytejmlbcafemieaa
