/- Several texts in one: LpoW, LpoI, LpoO. -/
import Derived.Test.YtleahogikppepaaLpoB
import Derived.Test.YtleahogikppepaaRank
import Derived.Test.YtleahogikppepaaTermOk
import Derived.Test.YtleahogikppepaaSysOk
import Derived.Test.YtleahogikppepaaMOri
-- rd: RdSyK RawSy
namespace Go.Proofs.Ytleahogikppepaa
open Go.RowKit
set_option linter.unusedSimpArgs false
set_option linter.unusedVariables false

/-! The program's path orders: what is told of two terms. -/
theorem LC.below {X : LC} (hP : X.P) : ∀ N, X.Below N
  | 0 => fun i j _ _ h => by omega
  | N + 1 => fun i j hi hj h => c_isGreater hP (c_find hP (c_bagArgs X) hi hj fun a b ha hb hab => LC.below hP N a b ha hb (by omega)) hi hj
theorem c_reason0 {X : LC} {w : World} (hP : X.P) (h : X.H w) : Calls Try.prog 130 #[.pointer (some ⟨X.g, 0, none⟩), .int .i64 0, .int .i64 0] w (X.Tell 0 0 w (.int .i8 (X.W 0 0 : Int))) :=
  c_reason (i := 0) (j := 0) hP (c_find hP (c_bagArgs X) hP.tt.2.1.1 hP.ts.2.1.1 fun a b ha hb hab => LC.below hP _ a b ha hb hab) h hP.tt.2.1.1 hP.ts.2.1.1
set_option maxRecDepth 100000 in
theorem zeroPaths : Try.zeroCells147.toList = [Value.slice none 0 0, .slice none 0 0, .nilIface, .slice none 0 0, .slice none 0 0] ++ List.replicate 3600 (.int .i8 0) := by kernel_rfl
theorem zeroPaths_at {k : Nat} (h : k < 3600) : Try.zeroCells147[5 + k]? = some (.int .i8 0) := by
  rw [← Array.getElem?_toList, zeroPaths, List.getElem?_append_right (by simp), List.getElem?_replicate]
  simp; omega
theorem zeroPaths_size : Try.zeroCells147.size = 3605 := Try.zeroCells147_size
/-- The box as it is made. -/
theorem paths_cells {Z : Array Value} (hz : Z.size = 3605) (h0 : ∀ k, k < 3600 → Z[5 + k]? = some (.int .i8 0)) (v0 v1 v2 v3 v4 : Value) :
    let C := ((((Z.setIfInBounds 0 v0).setIfInBounds 1 v1).setIfInBounds 2 v2).setIfInBounds 3 v3).setIfInBounds 4 v4
    C[0]? = some v0 ∧ C[1]? = some v1 ∧ C[2]? = some v2 ∧ C[3]? = some v3 ∧ C[4]? = some v4 ∧ ∀ k, k < 3600 → C[5 + k]? = some (.int .i8 0) := by
  intro C
  refine ⟨?_, ?_, ?_, ?_, ?_, fun k hk => ?_⟩
  · simp [C, Array.getElem?_setIfInBounds, hz]
  · simp [C, Array.getElem?_setIfInBounds, hz]
  · simp [C, Array.getElem?_setIfInBounds, hz]
  · simp [C, Array.getElem?_setIfInBounds, hz]
  · simp [C, Array.getElem?_setIfInBounds, hz]
  · show ((((((Z.setIfInBounds 0 v0).setIfInBounds 1 v1).setIfInBounds 2 v2).setIfInBounds 3 v3).setIfInBounds 4 v4))[5 + k]? = _
    rw [Array.getElem?_setIfInBounds_ne (by omega), Array.getElem?_setIfInBounds_ne (by omega), Array.getElem?_setIfInBounds_ne (by omega), Array.getElem?_setIfInBounds_ne (by omega), Array.getElem?_setIfInBounds_ne (by omega)]
    exact h0 k hk
set_option maxRecDepth 100000 in
set_option maxHeartbeats 1000000 in
theorem c_pathWhy {ar rk t s : List Int} {lex : Bool} {T : TypeId} {A : Option Addr} {n c : Nat} {R : Option Addr} {rn rc : Nat} {B : Option Addr} {m d : Nat} {D : Option Addr} {k l : Nat} {w : World} (hT : (if lex = true then 108 else 109) = T) (hs : SigP ar) (hrl : rk.length = ar.length) (ht : TermP ar t) (hss : TermP ar s)
    (ha : RI w A n ar) (hr : RI w R rn rk) (hB : RI w B m t) (hD : RI w D k s) (hmd : m ≤ d ∧ d ≤ 9223372036854775807) (hkl : k ≤ l ∧ l ≤ 9223372036854775807) :
    Calls Try.prog 97 #[.agg #[.slice A n c], .slice R rn rc, .slice D k l, .slice B m d, .iface T (.agg #[])] w fun e w' => e = .returned (.int .i64 (lpoW (rkF rk) lex (subT ar t 0) (subT ar s 0) : Int)) ∧ Ext w w' := by
  have hn1 : 0 < n := by rw [← ha.len]; exact hs.1
  have hrn : rn = n := by rw [← ha.len, ← hr.len, hrl]
  subst hrn
  have hm1 : 0 < m := by rw [← hB.len]; exact ht.2.1.1
  have hk1 : 0 < k := by rw [← hD.len]; exact hss.2.1.1
  obtain ⟨ab, ao, _, rfl, _, hca⟩ := RI.at_ ha hn1
  obtain ⟨rb, ro, _, rfl, _, hcr⟩ := RI.at_ hr hn1
  obtain ⟨tb, tq, _, rfl, _, hct⟩ := RI.at_ hB hm1
  obtain ⟨sb, so, _, rfl, _, hcs⟩ := RI.at_ hD hk1
  have hab : ab < w.heap.size := World.block_lt_of_cell? w _ hca
  have hrb : rb < w.heap.size := World.block_lt_of_cell? w _ hcr
  have htb : tb < w.heap.size := World.block_lt_of_cell? w _ hct
  have hsb : sb < w.heap.size := World.block_lt_of_cell? w _ hcs
  obtain ⟨Z, hZ⟩ : ∃ Z, Z = Try.zeroCells147 := ⟨_, rfl⟩
  have HZ := Lib.hid hZ
  have HA := Lib.hid ha
  have HR := Lib.hid hr
  have HB := Lib.hid hB
  have HD := Lib.hid hD
  have HT := Lib.hid hT
  have HP := Lib.hid (show LC.P ⟨ab, ao, rn, c, rb, ro, rc, tb, tq, m, d, sb, so, k, l, w.heap.size + 1, ar, rk, t, s, lex⟩ from ⟨hs, ht, hss, hrl, hmd, hkl⟩)
  clear ha hr hB hD hca hcr hct hcs hT hs ht hss hrl hmd hkl hZ
  obtain ⟨V, hV⟩ : ∃ V : Nat, V = lpoW (rkF rk) lex (subT ar t 0) (subT ar s 0) := ⟨_, rfl⟩
  have hV3 : V ≤ 3 := by rw [hV]; exact lpoW_le _ _ _ _
  have HV := Lib.hid hV
  rw [← hV]
  clear hV
  go_enter Try.func97, Try.ntmps97
  go_wp2_with fail
  rw [← HZ.out]
  obtain ⟨W0, hW0⟩ : ∃ W0, W0 = ((w.alloc (.cells #[.slice (some ⟨ab, ao, none⟩) rn c] 29)).alloc (.cells (((((Z.setIfInBounds 0 (.slice (some ⟨ab, ao, none⟩) rn c)).setIfInBounds 1 (.slice (some ⟨rb, ro, none⟩) rn rc)).setIfInBounds 2 (.iface T (.agg #[]))).setIfInBounds 3 (.slice (some ⟨tb, tq, none⟩) m d)).setIfInBounds 4 (.slice (some ⟨sb, so, none⟩) k l)) 147)) := ⟨_, rfl⟩
  have hE0 : Ext w W0 := by rw [hW0]; exact extX
  have hh0 : W0.heap[w.heap.size + 1]? = some (.cells (((((Z.setIfInBounds 0 (.slice (some ⟨ab, ao, none⟩) rn c)).setIfInBounds 1 (.slice (some ⟨rb, ro, none⟩) rn rc)).setIfInBounds 2 (.iface T (.agg #[]))).setIfInBounds 3 (.slice (some ⟨tb, tq, none⟩) m d)).setIfInBounds 4 (.slice (some ⟨sb, so, none⟩) k l)) 147 (0, 0)) := by
    rw [hW0]
    have := heap_alloc_new (w.alloc (.cells #[.slice (some ⟨ab, ao, none⟩) rn c] 29)) (.cells (((((Z.setIfInBounds 0 (.slice (some ⟨ab, ao, none⟩) rn c)).setIfInBounds 1 (.slice (some ⟨rb, ro, none⟩) rn rc)).setIfInBounds 2 (.iface T (.agg #[]))).setIfInBounds 3 (.slice (some ⟨tb, tq, none⟩) m d)).setIfInBounds 4 (.slice (some ⟨sb, so, none⟩) k l)) 147)
    rwa [World.size_alloc] at this
  rw [← hW0]
  clear hW0
  have hcell := fun o => cell_of_row W0 (w.heap.size + 1) o _ _ (0, 0) hh0
  have hfr : ∀ o, W0.frozen? ⟨w.heap.size + 1, o, none⟩ = false := fun o => frozen_of_row W0 _ _ _ _ hh0
  obtain ⟨e0, e1, e2, e3, e4, e5⟩ := paths_cells (Z := Z) (by rw [HZ.out]; exact zeroPaths_size) (fun k hk => by rw [HZ.out]; exact zeroPaths_at hk) (.slice (some ⟨ab, ao, none⟩) rn c) (.slice (some ⟨rb, ro, none⟩) rn rc) (.iface T (.agg #[])) (.slice (some ⟨tb, tq, none⟩) m d) (.slice (some ⟨sb, so, none⟩) k l)
  have HH := Lib.hid (show LC.H ⟨ab, ao, rn, c, rb, ro, rc, tb, tq, m, d, sb, so, k, l, w.heap.size + 1, ar, rk, t, s, lex⟩ W0 from
    ⟨HA.out.ext hE0, HR.out.ext hE0, HB.out.ext hE0, HD.out.ext hE0, by show ab ≠ w.heap.size + 1; omega, by show rb ≠ w.heap.size + 1; omega, by show tb ≠ w.heap.size + 1; omega, by show sb ≠ w.heap.size + 1; omega,
      (hcell 0).trans e0, (hcell 1).trans e1, (hcell 2).trans (by rw [e2]; unfold LC.by_; simp only; rw [HT.out]), (hcell 3).trans e3, (hcell 4).trans e4,
      fun i j hi hj => ⟨0, by show W0.cell? ⟨w.heap.size + 1, 5 + i * 60 + j, none⟩ = _; rw [hcell, Nat.add_assoc]; exact e5 _ (by omega), .inl rfl⟩, hfr⟩)
  have hsz0 := hE0.size
  clear hcell hfr e0 e1 e2 e3 e4 e5 hh0
  have HC := Lib.hid (c_reason0 HP.out HH.out)
  have HC2 : Hid (Calls Try.prog 130 #[.pointer (some ⟨w.heap.size + 1, 0, none⟩), .int .i64 0, .int .i64 0] W0 fun e w' => e = .returned (.int .i8 (V : Int)) ∧ Only W0 w' (w.heap.size + 1)) := Lib.hid (HC.out.mono fun e w' h => ⟨by rw [h.1, HV.out]; rfl, h.2.2⟩)
  clear HC HH
  (with_reducible refine HC2.out.mono ?_)
  rintro e w2 ⟨rfl, hO2⟩
  have hE2 : Ext w w2 := Only.ext hO2 hE0 (by omega)
  go_wp2
  go_ret
  exact ⟨rfl, hE2⟩

/-! LpoWhy, LpoLess, MpoLess, LpoCompare of the program. -/
theorem RS.at2 {w : World} {A : Option Addr} {n j : Nat} {xss : List (List Int)} (h : RS w A n xss) (hj : j < n) :
    ∃ b o A' m' c' xs, A = some ⟨b, o, none⟩ ∧ xss[j]? = some xs ∧ w.cell? ⟨b, o + j, none⟩ = some (.slice A' m' c') ∧ (m' ≤ c' ∧ c' ≤ 9223372036854775807) ∧ RI w A' m' xs := by
  have hl : j < xss.length := by rw [h.1.1]; exact hj
  obtain ⟨b, o, v, e, h1, A', m', c', rfl, h2, h3⟩ := h.2 j _ (List.getElem?_eq_getElem hl)
  exact ⟨b, o, A', m', c', _, e, List.getElem?_eq_getElem hl, h1, h2, h3⟩
theorem heap2 (w : World) (o1 o2 : Obj) : ((w.alloc o1).alloc o2).heap[w.heap.size + 1]? = some o2 := by have := heap_alloc_new (w.alloc o1) o2; rwa [World.size_alloc] at this
theorem RS.two {w : World} {g : Nat} {A B : Option Addr} {n c m d : Nat} {xs ys : List Int} {T : TypeId} (hh : w.heap[g]? = some (.cells #[.slice A n c, .slice B m d] T (0, 0))) (h1 : n ≤ c ∧ c ≤ 9223372036854775807) (h2 : m ≤ d ∧ d ≤ 9223372036854775807) (ha : RI w A n xs) (hb : RI w B m ys) :
    RS w (some ⟨g, 0, none⟩) 2 [xs, ys] := by
  refine ⟨⟨rfl, by omega⟩, fun j zs hz => ?_⟩
  match j, hz with
  | 0, hz => cases hz; exact ⟨g, 0, _, rfl, by rw [cell_of_row w g _ _ _ (0, 0) hh]; rfl, RdIc.mk h1 ha⟩
  | 1, hz => cases hz; exact ⟨g, 0, _, rfl, by rw [cell_of_row w g _ _ _ (0, 0) hh]; rfl, RdIc.mk h2 hb⟩
theorem c_iTermOk2 {v0 v1 : Value} {ar t : List Int} {b : Bool} {w : World} (hb : termOk ar t = b) (h0 : RdSig w v0 ar) (h1 : RdI w v1 t) :
    Calls Try.prog 52 #[v0, v1] w fun e w' => e = .returned (.bool b) ∧ Ext w w' := by subst hb; exact c_iTermOk h0 h1
set_option maxRecDepth 100000 in
set_option maxHeartbeats 1000000 in
theorem c_rankOk {v0 v1 : Value} {A : Option Addr} {n c : Nat} {ar rk : List Int} {ts : List (List Int)} {w : World} (h0 : RdSig w v0 ar) (h1 : RdI w v1 rk) (h2 : RS w A n ts) :
    Calls Try.prog 95 #[v0, v1, .slice A n c] w fun e w' => e = .returned (.bool (ts.all (termOk ar) && rankOk ar rk)) ∧ Ext w w' := by
  obtain ⟨D, q, l, rfl, ha⟩ := h0
  obtain ⟨B, m, d, rfl, hb⟩ := h1
  have hn := h2.1.2
  have hl := h2.1.1
  have HA := Lib.hid ha
  have HB := Lib.hid hb
  have HT := Lib.hid h2
  have HL := Lib.hid hl
  clear ha hb h2 hl
  go_enter Try.func95, Try.ntmps95
  go_wp2_with fail
  obtain ⟨wo, hwo⟩ : ∃ wo, wo = w.alloc (.cells #[.slice D q l] 29) := ⟨_, rfl⟩
  have hw0 : wo.cell? ⟨w.heap.size, 0, none⟩ = some (.slice D q l) := by rw [hwo]; simp [go_sem]
  have hEo : Ext w wo := by rw [hwo]; exact extX
  rw [← hwo]
  clear hwo
  go_loopw [11] (fun i wr => ∃ k : Nat, i = .int .i64 k ∧ k ≤ n ∧ Hid (∀ (j : Nat) (t : List Int), j < k → ts[j]? = some t → termOk ar t = true) ∧ Ext wo wr) (fun i _ => n - (intOf i).toNat)
  case atStart => exact ⟨0, rfl, Nat.zero_le _, Lib.hid (fun j t hj => by omega), Ext.refl _⟩
  case round =>
    obtain ⟨k, rfl, hk, hp, hE⟩ := hrel
    have hr0 := Ext.keep hE hw0
    have hEw : Ext w wr := Ext.trans hEo hE
    by_cases hlt : k < n
    · obtain ⟨b, o, A1, m1, c1, t, rfl, ht, hc, hcap, hr⟩ := RS.at2 (RS.ext HT.out hEw) hlt
      have HX := Lib.hid ht
      have HR := Lib.hid hr
      have hk1 : (k : Int) < (n : Int) := by omega
      have hk0 : (0 : Int) ≤ (k : Int) := by omega
      clear ht hr
      cases hok : termOk ar t with
      | true =>
        have HN := Lib.hid (show ∀ (j : Nat) (t : List Int), j < k + 1 → ts[j]? = some t → termOk ar t = true from fun j u hj hu => by
          rcases Nat.lt_or_ge j k with h | h
          · exact hp.out j u h hu
          · obtain rfl : j = k := by omega
            rw [HX.out] at hu; cases hu; exact hok)
        have HOK := Lib.hid hok
        clear hok
        go_wp2_with fail
        (with_reducible refine (c_iTermOk2 (ar := ar) (t := t) HOK.out (RdSig.mk (RI.ext HA.out hEw)) (RdI.mk HR.out)).mono ?_)
        rintro e w5 ⟨rfl, hE5⟩
        go_wp2
        go_roundw
        case rel => exact ⟨k + 1, by go_num, by omega, HN, Ext.trans hE hE5⟩
        case measure => simp only [intOf]; omega
      | false =>
        have HR2 := Lib.hid (show (ts.all (termOk ar) && rankOk ar rk) = false by
          rw [show ts.all (termOk ar) = false from List.all_eq_false.2 ⟨t, List.mem_of_getElem? HX.out, by rw [hok]; decide⟩]; rfl)
        have HOK := Lib.hid hok
        clear hok
        go_wp2_with fail
        (with_reducible refine (c_iTermOk2 (ar := ar) (t := t) HOK.out (RdSig.mk (RI.ext HA.out hEw)) (RdI.mk HR.out)).mono ?_)
        rintro e w5 ⟨rfl, hE5⟩
        go_wp2
        go_ret
        exact ⟨ret_bool HR2.out.symm, Ext.trans hEw hE5⟩
    · have hkn : k = n := by omega
      have HR2 := Lib.hid (show (ts.all (termOk ar) && rankOk ar rk) = rankOk ar rk by
        rw [show ts.all (termOk ar) = true from List.all_eq_true.2 fun t ht => by
          obtain ⟨j, hj, e⟩ := List.mem_iff_getElem.1 ht
          exact hp.out j t (by rw [hkn, ← HL.out]; exact hj) (by rw [List.getElem?_eq_getElem hj, e])]
        rfl)
      go_wp2_with fail
      (with_reducible refine (c_iRankOk (ar := ar) (rk := rk) (RdSig.mk (RI.ext HA.out hEw)) (RdI.mk (RI.ext HB.out hEw))).mono ?_)
      rintro e w5 ⟨rfl, hE5⟩
      go_wp2
      go_ret
      exact ⟨ret_bool HR2.out.symm, Ext.trans hEw hE5⟩
theorem c_rankOk2 {v0 v1 : Value} {A B : Option Addr} {n c m d g : Nat} {ar rk s t : List Int} {T : TypeId} {b : Bool} {w : World} (hb : lpoArgs ar rk s t = b) (h0 : RdSig w v0 ar) (h1 : RdI w v1 rk)
    (hh : w.heap[g]? = some (.cells #[.slice A n c, .slice B m d] T (0, 0))) (hc : n ≤ c ∧ c ≤ 9223372036854775807) (hd : m ≤ d ∧ d ≤ 9223372036854775807) (ha : RI w A n s) (hbb : RI w B m t) :
    Calls Try.prog 95 #[v0, v1, .slice (some ⟨g, 0, none⟩) 2 2] w fun e w' => e = .returned (.bool b) ∧ Ext w w' :=
  (c_rankOk h0 h1 (RS.two hh hc hd ha hbb)).mono fun e w' h => ⟨by rw [h.1, ← hb]; unfold lpoArgs; simp, h.2⟩
/-- What is told of two right terms. -/
theorem c_pathWhy' {v0 v1 v2 v3 : Value} {ar rk s t : List Int} {lex : Bool} {T : TypeId} {V : Nat} {w : World} (hT : (if lex = true then 108 else 109) = T) (hok : lpoArgs ar rk s t = true) (hV : V = lpoA ar rk lex s t)
    (h0 : RdSig w v0 ar) (h1 : RdI w v1 rk) (h2 : RdIc w v2 s) (h3 : RdIc w v3 t) :
    Calls Try.prog 97 #[v0, v1, v2, v3, .iface T (.agg #[])] w fun e w' => e = .returned (.int .i64 (V : Int)) ∧ Ext w w' := by
  obtain ⟨A, n, c, rfl, ha⟩ := h0
  obtain ⟨R, rn, rc, rfl, hr⟩ := h1
  obtain ⟨D, k, l, rfl, hkl, hd⟩ := h2
  obtain ⟨B, m, d, rfl, hmd, hb⟩ := h3
  obtain ⟨⟨g1, g2⟩, g3, g4, g5⟩ := lpoArgs_iff.1 hok
  subst hV
  exact c_pathWhy hT g3 g4 g2 g1 ha hr hb hd hmd hkl
set_option maxRecDepth 100000 in
set_option maxHeartbeats 1000000 in
theorem c_lpoLess {v0 v1 v2 v3 : Value} {ar rk s t : List Int} {b : Bool} {w : World} (hok : lpoArgs ar rk s t = true) (hb : decide (0 < lpoA ar rk true s t) = b) (h0 : RdSig w v0 ar) (h1 : RdI w v1 rk) (h2 : RdIc w v2 s) (h3 : RdIc w v3 t) :
    Calls Try.prog 96 #[v0, v1, v2, v3] w fun e w' => e = .returned (.bool b) ∧ Ext w w' := by
  obtain ⟨A, n, c, rfl, ha⟩ := h0
  obtain ⟨V, hV⟩ : ∃ V, V = lpoA ar rk true s t := ⟨_, rfl⟩
  have HV := Lib.hid hV
  have HOK := Lib.hid hok
  have HA := Lib.hid ha
  have H1 := Lib.hid h1
  have H2 := Lib.hid h2
  have H3 := Lib.hid h3
  have HB := Lib.hid (show b = decide (0 < V) by rw [← hb, hV])
  clear hV hok hb ha h1 h2 h3
  go_enter Try.func96, Try.ntmps96
  go_wp2_with fail
  (with_reducible refine (c_pathWhy' (lex := true) (T := 108) (if_pos rfl) HOK.out HV.out (RdSig.mk (RI.ext HA.out (by exact extX))) (RdI.ext H1.out (by exact extX)) (RdIc.ext H2.out (by exact extX)) (RdIc.ext H3.out (by exact extX))).mono ?_)
  rintro e w2 ⟨rfl, hE2⟩
  go_wp2
  go_ret
  exact ⟨ret_bool (by rw [HB.out]), by exact extX⟩
set_option maxRecDepth 100000 in
set_option maxHeartbeats 1000000 in
theorem c_iLpoLess {v0 v1 v2 v3 : Value} {ar rk s t : List Int} {w : World} (h0 : RdSig w v0 ar) (h1 : RdI w v1 rk) (h2 : RdIc w v2 s) (h3 : RdIc w v3 t) :
    Calls Try.prog 49 #[v0, v1, v2, v3] w fun e w' => e = .returned (.bool (lpoLessV ar rk s t)) ∧ Ext w w' := by
  obtain ⟨A, n, c, rfl, ha⟩ := h0
  obtain ⟨D, k, l, rfl, hkl, hd⟩ := h2
  obtain ⟨B, m, d, rfl, hmd, hb⟩ := h3
  have HA := Lib.hid ha
  have H1 := Lib.hid h1
  have HD := Lib.hid hd
  have HB := Lib.hid hb
  have HKL := Lib.hid hkl
  have HMD := Lib.hid hmd
  clear ha h1 hd hb hkl hmd
  cases hok : lpoArgs ar rk s t with
  | false =>
    have HOK := Lib.hid hok
    have HR := Lib.hid (show lpoLessV ar rk s t = false by unfold lpoLessV; rw [hok]; rfl)
    clear hok
    go_enter Try.func49, Try.ntmps49
    go_wp2_with fail
    (with_reducible refine (c_rankOk2 HOK.out (RdSig.mk (RI.ext HA.out (by exact extX))) (RdI.ext H1.out (by exact extX)) (heap2 _ _ _) HKL.out HMD.out (RI.ext HD.out (by exact extX)) (RI.ext HB.out (by exact extX))).mono ?_)
    rintro e w2 ⟨rfl, hE2⟩
    go_wp2
    go_ret
    exact ⟨ret_bool HR.out.symm, by exact extX⟩
  | true =>
    have HOK := Lib.hid hok
    have HR := Lib.hid (show lpoLessV ar rk s t = decide (0 < lpoA ar rk true s t) by unfold lpoLessV; rw [hok]; rfl)
    clear hok
    obtain ⟨b, hb⟩ : ∃ b, decide (0 < lpoA ar rk true s t) = b := ⟨_, rfl⟩
    rw [hb] at HR
    have HBB := Lib.hid hb
    clear hb
    go_enter Try.func49, Try.ntmps49
    go_wp2_with fail
    (with_reducible refine (c_rankOk2 HOK.out (RdSig.mk (RI.ext HA.out (by exact extX))) (RdI.ext H1.out (by exact extX)) (heap2 _ _ _) HKL.out HMD.out (RI.ext HD.out (by exact extX)) (RI.ext HB.out (by exact extX))).mono ?_)
    rintro e w2 ⟨rfl, hE2⟩
    have hb0 : w2.cell? ⟨w.heap.size, 0, none⟩ = some (.slice A n c) := Ext.keep hE2 (by simp [go_sem])
    go_wp2_with fail
    (with_reducible refine (c_lpoLess HOK.out HBB.out (RdSig.mk (RI.ext HA.out (by exact extX))) (RdI.ext H1.out (by exact extX)) (RdIc.mk HKL.out (RI.ext HD.out (by exact extX))) (RdIc.mk HMD.out (RI.ext HB.out (by exact extX)))).mono ?_)
    rintro e w3 ⟨rfl, hE3⟩
    go_wp2
    go_ret
    exact ⟨ret_bool HR.out.symm, by exact extX⟩
set_option maxRecDepth 100000 in
set_option maxHeartbeats 1000000 in
theorem c_iMpoLess {v0 v1 v2 v3 : Value} {ar rk s t : List Int} {w : World} (h0 : RdSig w v0 ar) (h1 : RdI w v1 rk) (h2 : RdIc w v2 s) (h3 : RdIc w v3 t) :
    Calls Try.prog 50 #[v0, v1, v2, v3] w fun e w' => e = .returned (.bool (mpoLessV ar rk s t)) ∧ Ext w w' := by
  obtain ⟨A, n, c, rfl, ha⟩ := h0
  obtain ⟨D, k, l, rfl, hkl, hd⟩ := h2
  obtain ⟨B, m, d, rfl, hmd, hb⟩ := h3
  have HA := Lib.hid ha
  have H1 := Lib.hid h1
  have HD := Lib.hid hd
  have HB := Lib.hid hb
  have HKL := Lib.hid hkl
  have HMD := Lib.hid hmd
  clear ha h1 hd hb hkl hmd
  cases hok : lpoArgs ar rk s t with
  | false =>
    have HOK := Lib.hid hok
    have HR := Lib.hid (show mpoLessV ar rk s t = false by unfold mpoLessV; rw [hok]; rfl)
    clear hok
    go_enter Try.func50, Try.ntmps50
    go_wp2_with fail
    (with_reducible refine (c_rankOk2 HOK.out (RdSig.mk (RI.ext HA.out (by exact extX))) (RdI.ext H1.out (by exact extX)) (heap2 _ _ _) HKL.out HMD.out (RI.ext HD.out (by exact extX)) (RI.ext HB.out (by exact extX))).mono ?_)
    rintro e w2 ⟨rfl, hE2⟩
    go_wp2
    go_ret
    exact ⟨ret_bool HR.out.symm, by exact extX⟩
  | true =>
    obtain ⟨V, hV⟩ : ∃ V, V = lpoA ar rk false s t := ⟨_, rfl⟩
    have HV := Lib.hid hV
    have HOK := Lib.hid hok
    have HR := Lib.hid (show mpoLessV ar rk s t = decide (0 < V) by unfold mpoLessV; rw [hok, hV]; rfl)
    clear hok hV
    go_enter Try.func50, Try.ntmps50
    go_wp2_with fail
    (with_reducible refine (c_rankOk2 HOK.out (RdSig.mk (RI.ext HA.out (by exact extX))) (RdI.ext H1.out (by exact extX)) (heap2 _ _ _) HKL.out HMD.out (RI.ext HD.out (by exact extX)) (RI.ext HB.out (by exact extX))).mono ?_)
    rintro e w2 ⟨rfl, hE2⟩
    have hb0 : w2.cell? ⟨w.heap.size, 0, none⟩ = some (.slice A n c) := Ext.keep hE2 (by simp [go_sem])
    go_wp2_with fail
    (with_reducible refine (c_pathWhy' (lex := false) (T := 109) (if_neg (by decide)) HOK.out HV.out (RdSig.mk (RI.ext HA.out (by exact extX))) (RdI.ext H1.out (by exact extX)) (RdIc.mk HKL.out (RI.ext HD.out (by exact extX))) (RdIc.mk HMD.out (RI.ext HB.out (by exact extX)))).mono ?_)
    rintro e w3 ⟨rfl, hE3⟩
    go_wp2
    go_ret
    exact ⟨ret_bool HR.out.symm, by exact extX⟩

/-! OrientsAll and OrientsBags of the program. -/
theorem c_pathWhyO {v0 v1 v2 v3 : Value} {ar rk s t : List Int} {lex : Bool} {T : TypeId} {V : Nat} {w : World} (hT : (if lex = true then 108 else 109) = T) (hok : lpoArgs ar rk s t = true) (hV : V = lpoA ar rk lex s t)
    (h0 : RdSig w v0 ar) (h1 : RdI w v1 rk) (h2 : RdIc w v2 s) (h3 : RdIc w v3 t) :
    Calls Try.prog 97 #[v0, v1, v2, v3, .iface T (.agg #[])] w fun e w' => e = .returned (.int .i64 (V : Int)) ∧ Ext w w' := by
  obtain ⟨A, n, c, rfl, ha⟩ := h0
  obtain ⟨R, rn, rc, rfl, hr⟩ := h1
  obtain ⟨D, k, l, rfl, hkl, hd⟩ := h2
  obtain ⟨B, m, d, rfl, hmd, hb⟩ := h3
  obtain ⟨⟨g1, g2⟩, g3, g4, g5⟩ := lpoArgs_iff.1 hok
  subst hV
  exact c_pathWhy hT g3 g4 g2 g1 ha hr hb hd hmd hkl
set_option maxRecDepth 100000 in
set_option maxHeartbeats 2000000 in
theorem c_orients {v0 v1 : Value} {s : Sy} {rk : List Int} {lex : Bool} {T : TypeId} {w : World} (hT : (if lex = true then 108 else 109) = T) (h0 : RdSyC w v0 s) (h1 : RdI w v1 rk) :
    Calls Try.prog 91 #[v0, v1, .iface T (.agg #[])] w fun e w' => e = .returned (.bool (orientsV lex s rk)) ∧ Ext w w' := by
  obtain ⟨A, n, c, B, m, d, rfl, ha, hb⟩ := h0
  obtain ⟨R, q, f, rfl, hrk⟩ := h1
  have hm := hb.le
  have HL := Lib.hid hb.len
  have HA := Lib.hid ha
  have HB := Lib.hid hb
  have HRK := Lib.hid hrk
  have HT := Lib.hid hT
  clear ha hb hrk hT
  cases hs : sysOk s with
  | false =>
    have HR := Lib.hid (orientsV_sys (lex := lex) (rk := rk) hs)
    go_enter Try.func91, Try.ntmps91
    go_wp2_with (go_at_call 78; (with_reducible refine (c_iSystemOk (s := s) (by (first | (first | (with_reducible exact RdI.mk (RI.ext (Hid.out (by with_reducible assumption)) (by exact extX))) | (with_reducible exact RdI.ext (by with_reducible assumption) (by exact extX))) | (with_reducible exact RdSyK.mk (by (first | (with_reducible exact RI.ext (Hid.out (by with_reducible assumption)) (by exact extX)))) (RR.ext (Hid.out (by with_reducible assumption)) (by exact extX))) | (with_reducible exact RdSyK.ext (by with_reducible assumption) (by exact extX)) | (with_reducible exact RdSig.mk (by (first | (with_reducible exact RI.ext (Hid.out (by with_reducible assumption)) (by exact extX))))) | (with_reducible exact RdSig.ext (by with_reducible assumption) (by exact extX))))).mono ?_); rintro e w1 ⟨rfl, hE1⟩; have hz1 := sz_of hE1; (try simp only [World.size_alloc, World.size_setCell, World.size_drew] at hz1); obtain ⟨hc1, hf1⟩ := bcell hE1; (try have hq1_0 : w.heap.size < w1.heap.size := by omega); (try have hq1_1 : w.heap.size + 1 < w1.heap.size := by omega); (try have hq1_2 : w.heap.size + 1 + 1 < w1.heap.size := by omega); (try have hq1_3 : w.heap.size + 1 + 1 + 1 < w1.heap.size := by omega); (try have hq1_4 : w.heap.size + 1 + 1 + 1 + 1 < w1.heap.size := by omega); (try have hq1_5 : w.heap.size + 1 + 1 + 1 + 1 + 1 < w1.heap.size := by omega))
    go_ret
    exact ⟨ret_bool HR.out.symm, by exact extX⟩
  | true =>
    cases hk : rankOk s.ar rk with
    | false =>
      have HR := Lib.hid (orientsV_rank (lex := lex) hs hk)
      go_enter Try.func91, Try.ntmps91
      go_wp2_with (first
        | (go_at_call 78; (with_reducible refine (c_iSystemOk (s := s) (by (first | (first | (with_reducible exact RdI.mk (RI.ext (Hid.out (by with_reducible assumption)) (by exact extX))) | (with_reducible exact RdI.ext (by with_reducible assumption) (by exact extX))) | (with_reducible exact RdSyK.mk (by (first | (with_reducible exact RI.ext (Hid.out (by with_reducible assumption)) (by exact extX)))) (RR.ext (Hid.out (by with_reducible assumption)) (by exact extX))) | (with_reducible exact RdSyK.ext (by with_reducible assumption) (by exact extX)) | (with_reducible exact RdSig.mk (by (first | (with_reducible exact RI.ext (Hid.out (by with_reducible assumption)) (by exact extX))))) | (with_reducible exact RdSig.ext (by with_reducible assumption) (by exact extX))))).mono ?_); rintro e w1 ⟨rfl, hE1⟩; have hz1 := sz_of hE1; (try simp only [World.size_alloc, World.size_setCell, World.size_drew] at hz1); obtain ⟨hc1, hf1⟩ := bcell hE1; (try have hq1_0 : w.heap.size < w1.heap.size := by omega); (try have hq1_1 : w.heap.size + 1 < w1.heap.size := by omega); (try have hq1_2 : w.heap.size + 1 + 1 < w1.heap.size := by omega); (try have hq1_3 : w.heap.size + 1 + 1 + 1 < w1.heap.size := by omega); (try have hq1_4 : w.heap.size + 1 + 1 + 1 + 1 < w1.heap.size := by omega); (try have hq1_5 : w.heap.size + 1 + 1 + 1 + 1 + 1 < w1.heap.size := by omega))
        | (go_at_call 65; (with_reducible refine (c_iRankOk (ar := s.ar) (rk := rk) (by (first | (first | (with_reducible exact RdI.mk (RI.ext (Hid.out (by with_reducible assumption)) (by exact extX))) | (with_reducible exact RdI.ext (by with_reducible assumption) (by exact extX))) | (with_reducible exact RdSyK.mk (by (first | (with_reducible exact RI.ext (Hid.out (by with_reducible assumption)) (by exact extX)))) (RR.ext (Hid.out (by with_reducible assumption)) (by exact extX))) | (with_reducible exact RdSyK.ext (by with_reducible assumption) (by exact extX)) | (with_reducible exact RdSig.mk (by (first | (with_reducible exact RI.ext (Hid.out (by with_reducible assumption)) (by exact extX))))) | (with_reducible exact RdSig.ext (by with_reducible assumption) (by exact extX)))) (by (first | (first | (with_reducible exact RdI.mk (RI.ext (Hid.out (by with_reducible assumption)) (by exact extX))) | (with_reducible exact RdI.ext (by with_reducible assumption) (by exact extX))) | (with_reducible exact RdSyK.mk (by (first | (with_reducible exact RI.ext (Hid.out (by with_reducible assumption)) (by exact extX)))) (RR.ext (Hid.out (by with_reducible assumption)) (by exact extX))) | (with_reducible exact RdSyK.ext (by with_reducible assumption) (by exact extX)) | (with_reducible exact RdSig.mk (by (first | (with_reducible exact RI.ext (Hid.out (by with_reducible assumption)) (by exact extX))))) | (with_reducible exact RdSig.ext (by with_reducible assumption) (by exact extX))))).mono ?_); rintro e w2 ⟨rfl, hE2⟩; have hz2 := sz_of hE2; (try simp only [World.size_alloc, World.size_setCell, World.size_drew] at hz2); obtain ⟨hc2, hf2⟩ := bcell hE2; (try have hq2_0 : w.heap.size < w2.heap.size := by omega); (try have hq2_1 : w.heap.size + 1 < w2.heap.size := by omega); (try have hq2_2 : w.heap.size + 1 + 1 < w2.heap.size := by omega); (try have hq2_3 : w.heap.size + 1 + 1 + 1 < w2.heap.size := by omega); (try have hq2_4 : w.heap.size + 1 + 1 + 1 + 1 < w2.heap.size := by omega); (try have hq2_5 : w.heap.size + 1 + 1 + 1 + 1 + 1 < w2.heap.size := by omega); (try have hx2_1 : w1.heap.size < w2.heap.size := by omega)))
      go_ret
      exact ⟨ret_bool HR.out.symm, by exact extX⟩
    | true =>
      have HR0 := Lib.hid (orientsV_all (lex := lex) hs hk)
      have HS := Lib.hid (sysOk_iff.1 hs)
      have HK := Lib.hid hk
      clear hs hk
      have hsok : sysOk s = true := sysOk_iff.2 HS.out
      have hkok : rankOk s.ar rk = true := HK.out
      go_enter Try.func91, Try.ntmps91
      go_wp2_with fail
      (with_reducible refine (c_iSystemOk (s := s) (by (first | (first | (with_reducible exact RdI.mk (RI.ext (Hid.out (by with_reducible assumption)) (by exact extX))) | (with_reducible exact RdI.ext (by with_reducible assumption) (by exact extX))) | (with_reducible exact RdSyK.mk (by (first | (with_reducible exact RI.ext (Hid.out (by with_reducible assumption)) (by exact extX)))) (RR.ext (Hid.out (by with_reducible assumption)) (by exact extX))) | (with_reducible exact RdSyK.ext (by with_reducible assumption) (by exact extX)) | (with_reducible exact RdSig.mk (by (first | (with_reducible exact RI.ext (Hid.out (by with_reducible assumption)) (by exact extX))))) | (with_reducible exact RdSig.ext (by with_reducible assumption) (by exact extX))))).mono ?_); rintro e w1 ⟨rfl, hE1⟩; have hz1 := sz_of hE1; (try simp only [World.size_alloc, World.size_setCell, World.size_drew] at hz1); obtain ⟨hc1, hf1⟩ := bcell hE1; (try have hq1_0 : w.heap.size < w1.heap.size := by omega); (try have hq1_1 : w.heap.size + 1 < w1.heap.size := by omega); (try have hq1_2 : w.heap.size + 1 + 1 < w1.heap.size := by omega); (try have hq1_3 : w.heap.size + 1 + 1 + 1 < w1.heap.size := by omega); (try have hq1_4 : w.heap.size + 1 + 1 + 1 + 1 < w1.heap.size := by omega); (try have hq1_5 : w.heap.size + 1 + 1 + 1 + 1 + 1 < w1.heap.size := by omega)
      have hs0 : w1.cell? ⟨w.heap.size, 0, none⟩ = some (.slice A n c) := Ext.keep hE1 (by simp [go_sem])
      have hs1 : w1.cell? ⟨w.heap.size, 1, none⟩ = some (.slice B m d) := Ext.keep hE1 (by simp [go_sem])
      go_wp2_with fail
      (with_reducible refine (c_iRankOk (ar := s.ar) (rk := rk) (by (first | (first | (with_reducible exact RdI.mk (RI.ext (Hid.out (by with_reducible assumption)) (by exact extX))) | (with_reducible exact RdI.ext (by with_reducible assumption) (by exact extX))) | (with_reducible exact RdSyK.mk (by (first | (with_reducible exact RI.ext (Hid.out (by with_reducible assumption)) (by exact extX)))) (RR.ext (Hid.out (by with_reducible assumption)) (by exact extX))) | (with_reducible exact RdSyK.ext (by with_reducible assumption) (by exact extX)) | (with_reducible exact RdSig.mk (by (first | (with_reducible exact RI.ext (Hid.out (by with_reducible assumption)) (by exact extX))))) | (with_reducible exact RdSig.ext (by with_reducible assumption) (by exact extX)))) (by (first | (first | (with_reducible exact RdI.mk (RI.ext (Hid.out (by with_reducible assumption)) (by exact extX))) | (with_reducible exact RdI.ext (by with_reducible assumption) (by exact extX))) | (with_reducible exact RdSyK.mk (by (first | (with_reducible exact RI.ext (Hid.out (by with_reducible assumption)) (by exact extX)))) (RR.ext (Hid.out (by with_reducible assumption)) (by exact extX))) | (with_reducible exact RdSyK.ext (by with_reducible assumption) (by exact extX)) | (with_reducible exact RdSig.mk (by (first | (with_reducible exact RI.ext (Hid.out (by with_reducible assumption)) (by exact extX))))) | (with_reducible exact RdSig.ext (by with_reducible assumption) (by exact extX))))).mono ?_); rintro e w2 ⟨rfl, hE2⟩; have hz2 := sz_of hE2; (try simp only [World.size_alloc, World.size_setCell, World.size_drew] at hz2); obtain ⟨hc2, hf2⟩ := bcell hE2; (try have hq2_0 : w.heap.size < w2.heap.size := by omega); (try have hq2_1 : w.heap.size + 1 < w2.heap.size := by omega); (try have hq2_2 : w.heap.size + 1 + 1 < w2.heap.size := by omega); (try have hq2_3 : w.heap.size + 1 + 1 + 1 < w2.heap.size := by omega); (try have hq2_4 : w.heap.size + 1 + 1 + 1 + 1 < w2.heap.size := by omega); (try have hq2_5 : w.heap.size + 1 + 1 + 1 + 1 + 1 < w2.heap.size := by omega); (try have hx2_1 : w1.heap.size < w2.heap.size := by omega)
      have hw0 : w2.cell? ⟨w.heap.size, 0, none⟩ = some (.slice A n c) := Ext.keep hE2 hs0
      have hw1 : w2.cell? ⟨w.heap.size, 1, none⟩ = some (.slice B m d) := Ext.keep hE2 hs1
      have hEo : Ext w w2 := by exact extX
      go_wp2_with fail
      go_loopw [22] (fun i wr => ∃ k : Nat, i = .int .i64 k ∧ k ≤ m ∧ Hid (∀ (j : Nat) (r : Ru), j < k → s.rs[j]? = some r → lpoA s.ar rk lex r.r r.l ≠ 0) ∧ Ext w2 wr) (fun i _ => m - (intOf i).toNat)
      case atStart => exact ⟨0, rfl, Nat.zero_le _, Lib.hid fun j y hj => by omega, Ext.refl _⟩
      case round =>
        obtain ⟨k, rfl, hk, hp, hE9⟩ := hrel
        have hw : Ext w wr := Ext.trans hEo hE9
        have hr0 : wr.cell? ⟨w.heap.size, 0, none⟩ = some (.slice A n c) := Ext.keep hE9 hw0
        have hr1' : wr.cell? ⟨w.heap.size, 1, none⟩ = some (.slice B m d) := Ext.keep hE9 hw1
        have hws0 : w.heap.size < wr.heap.size := World.block_lt_of_cell? wr _ hr0
        by_cases hlt : k < m
        · obtain ⟨b, o, r, A1, m1, c1, A2, m2, c2, rfl, hx, hd1, hd2, hr1, hr5, hcap1, hcap2⟩ := RR.at_ (RR.ext HB.out hw) hlt
          have HX := Lib.hid hx
          have HR1 := Lib.hid hr1
          have HR2 := Lib.hid hr5
          have HC1 := Lib.hid (hcap1 rfl)
          have HC2 := Lib.hid (hcap2 rfl)
          have HOK := Lib.hid (lpoArgs_rule HS.out HK.out hx)
          have hbl : b < wr.heap.size := World.block_lt_of_cell? wr _ hd1
          clear hx hr1 hr5 hcap1 hcap2
          have hlt' : (k : Int) < (m : Int) := by omega
          obtain ⟨V, hV⟩ : ∃ V, V = lpoA s.ar rk lex r.r r.l := ⟨_, rfl⟩
          have HV := Lib.hid hV
          clear hV
          by_cases hz : V = 0
          · have HR := Lib.hid (lpAll_f (lex := lex) (rk := rk) HX.out (HV.out.symm.trans hz))
            have hzb : ((V : Int) == 0) = true := by rw [hz]; rfl
            clear hz
            go_wp2_with fail
            (with_reducible refine (c_pathWhyO HT.out HOK.out HV.out (RdSig.mk (RI.ext HA.out (by exact extX))) (RdI.mk (RI.ext HRK.out (by exact extX))) (RdIc.mk HC2.out (RI.ext HR2.out (by exact extX))) (RdIc.mk HC1.out (RI.ext HR1.out (by exact extX)))).mono ?_)
            rintro e w5 ⟨rfl, hE5⟩
            go_wp2
            go_ret
            exact ⟨ret_bool (by rw [HR0.out, HR.out]), by exact extX⟩
          · have hzb : ((V : Int) == 0) = false := by simp; exact hz
            have HP := Lib.hid (show ∀ (j : Nat) (r : Ru), j < k + 1 → s.rs[j]? = some r → lpoA s.ar rk lex r.r r.l ≠ 0 from fun j y hj e => by
              rcases Nat.lt_or_ge j k with h' | h'
              · exact hp.out j y h' e
              · obtain rfl : j = k := by omega
                rw [HX.out] at e; cases e; rw [← HV.out]; exact hz)
            clear hz
            go_wp2_with fail
            (with_reducible refine (c_pathWhyO HT.out HOK.out HV.out (RdSig.mk (RI.ext HA.out (by exact extX))) (RdI.mk (RI.ext HRK.out (by exact extX))) (RdIc.mk HC2.out (RI.ext HR2.out (by exact extX))) (RdIc.mk HC1.out (RI.ext HR1.out (by exact extX)))).mono ?_)
            rintro e w5 ⟨rfl, hE5⟩
            go_wp2
            go_roundw
            case rel => exact ⟨k + 1, by go_num, by omega, HP, by exact extX⟩
            case measure => simp only [intOf]; omega
        · have HR := Lib.hid (lpAll_t (s := s) (rk := rk) (lex := lex) fun j r hj e => hp.out j r (by rw [HL.out] at hj; omega) e)
          go_wp2
          go_ret
          exact ⟨ret_bool (by rw [HR0.out, HR.out]), by exact extX⟩
set_option maxRecDepth 100000 in
set_option maxHeartbeats 1000000 in
theorem c_iOrientsAll {v0 v1 : Value} {s : Sy} {rk : List Int} {w : World} (h0 : RdSyC w v0 s) (h1 : RdI w v1 rk) :
    Calls Try.prog 45 #[v0, v1] w fun e w' => e = .returned (.bool (orientsV true s rk)) ∧ Ext w w' := by
  obtain ⟨A, n, c, B, m, d, rfl, ha, hb⟩ := h0
  obtain ⟨R, q, f, rfl, hrk⟩ := h1
  have HA := Lib.hid ha
  have HB := Lib.hid hb
  have HRK := Lib.hid hrk
  clear ha hb hrk
  go_enter Try.func45, Try.ntmps45
  go_wp2_with fail
  (with_reducible refine (c_orients (lex := true) (T := 108) (if_pos rfl) (RdSyK.mk (RI.ext HA.out (by exact extX)) (RR.ext HB.out (by exact extX))) (RdI.mk (RI.ext HRK.out (by exact extX)))).mono ?_)
  rintro e w2 ⟨rfl, hE2⟩
  go_wp2
  go_ret
  exact ⟨rfl, by exact extX⟩
set_option maxRecDepth 100000 in
set_option maxHeartbeats 1000000 in
theorem c_iOrientsBags {v0 v1 : Value} {s : Sy} {rk : List Int} {w : World} (h0 : RdSyC w v0 s) (h1 : RdI w v1 rk) :
    Calls Try.prog 46 #[v0, v1] w fun e w' => e = .returned (.bool (orientsV false s rk)) ∧ Ext w w' := by
  obtain ⟨A, n, c, B, m, d, rfl, ha, hb⟩ := h0
  obtain ⟨R, q, f, rfl, hrk⟩ := h1
  have HA := Lib.hid ha
  have HB := Lib.hid hb
  have HRK := Lib.hid hrk
  clear ha hb hrk
  go_enter Try.func46, Try.ntmps46
  go_wp2_with fail
  (with_reducible refine (c_orients (lex := false) (T := 109) (if_neg (by decide)) (RdSyK.mk (RI.ext HA.out (by exact extX)) (RR.ext HB.out (by exact extX))) (RdI.mk (RI.ext HRK.out (by exact extX)))).mono ?_)
  rintro e w2 ⟨rfl, hE2⟩
  go_wp2
  go_ret
  exact ⟨rfl, by exact extX⟩

end Go.Proofs.Ytleahogikppepaa
