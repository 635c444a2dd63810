/- LpoWhy, LpoLess, MpoLess, LpoCompare of the program. -/
import Derived.Test.YtejmlbcafemieaaLpoW
namespace Go.Proofs.Ytejmlbcafemieaa
open Go.RowKit
set_option linter.unusedSimpArgs false
set_option linter.unusedVariables false

theorem RS.at2 {w : World} {A : Option Addr} {n j : Nat} {xss : List (List Int)} (h : RS w A n xss) (hj : j < n) :
    ∃ b o A' m' c' xs, A = some ⟨b, o, none⟩ ∧ xss[j]? = some xs ∧ w.cell? ⟨b, o + j, none⟩ = some (.slice A' m' c') ∧ (m' ≤ c' ∧ c' ≤ 9223372036854775807) ∧ RI w A' m' xs := by
  have hl : j < xss.length := by rw [h.1.1]; exact hj
  obtain ⟨b, o, v, e, h1, A', m', c', rfl, h2, h3⟩ := h.2 j _ (List.getElem?_eq_getElem hl)
  exact ⟨b, o, A', m', c', _, e, List.getElem?_eq_getElem hl, h1, h2, h3⟩
theorem heap2 (w : World) (o1 o2 : Obj) : ((w.alloc o1).alloc o2).heap[w.heap.size + 1]? = some o2 := by have := heap_alloc_new (w.alloc o1) o2; rwa [World.size_alloc] at this
theorem RS.two {w : World} {g : Nat} {A B : Option Addr} {n c m d : Nat} {xs ys : List Int} {T : TypeId} (hh : w.heap[g]? = some (.cells #[.slice A n c, .slice B m d] T (0, 0))) (h1 : n ≤ c ∧ c ≤ 9223372036854775807) (h2 : m ≤ d ∧ d ≤ 9223372036854775807) (ha : RI w A n xs) (hb : RI w B m ys) :
    RS w (some ⟨g, 0, none⟩) 2 [xs, ys] := by
  refine ⟨⟨rfl, by omega⟩, fun j zs hz => ?_⟩
  match j, hz with
  | 0, hz => cases hz; exact ⟨g, 0, _, rfl, by rw [cell_of_row w g _ _ _ (0, 0) hh]; rfl, RdIc.mk h1 ha⟩
  | 1, hz => cases hz; exact ⟨g, 0, _, rfl, by rw [cell_of_row w g _ _ _ (0, 0) hh]; rfl, RdIc.mk h2 hb⟩
theorem c_iTermOk2 {v0 v1 : Value} {ar t : List Int} {b : Bool} {w : World} (hb : termOk ar t = b) (h0 : RdSig w v0 ar) (h1 : RdI w v1 t) :
    Calls Try.prog 103 #[v0, v1] w fun e w' => e = .returned (.bool b) ∧ Ext w w' := by subst hb; exact c_iTermOk h0 h1
set_option maxRecDepth 100000 in
set_option maxHeartbeats 1000000 in
theorem c_rankOk {v0 v1 : Value} {A : Option Addr} {n c : Nat} {ar rk : List Int} {ts : List (List Int)} {w : World} (h0 : RdSig w v0 ar) (h1 : RdI w v1 rk) (h2 : RS w A n ts) :
    Calls Try.prog 53 #[v0, v1, .slice A n c] w fun e w' => e = .returned (.bool (ts.all (termOk ar) && rankOk ar rk)) ∧ Ext w w' := by
  obtain ⟨D, q, l, rfl, ha⟩ := h0
  obtain ⟨B, m, d, rfl, hb⟩ := h1
  have hn := h2.1.2
  have hl := h2.1.1
  have HA := Lib.hid ha
  have HB := Lib.hid hb
  have HT := Lib.hid h2
  have HL := Lib.hid hl
  clear ha hb h2 hl
  go_enter Try.func53, Try.ntmps53
  go_wp2_with fail
  obtain ⟨wo, hwo⟩ : ∃ wo, wo = w.alloc (.cells #[.slice D q l] 29) := ⟨_, rfl⟩
  have hw0 : wo.cell? ⟨w.heap.size, 0, none⟩ = some (.slice D q l) := by rw [hwo]; simp [go_sem]
  have hEo : Ext w wo := by rw [hwo]; (repeat' (first | (with_reducible exact Ext.refl _) | (with_reducible assumption) | (with_reducible refine Ext.alloc ?_ _) | (with_reducible refine Ext.set ?_ ?_ _) | (with_reducible refine Ext.drewN ?_ _) | (with_reducible refine Ext.drew ?_) | (with_reducible refine Ext.trans ?_ (by with_reducible assumption)) | go_size))
  rw [← hwo]
  clear hwo
  go_loopw [11] (fun i wr => ∃ k : Nat, i = .int .i64 k ∧ k ≤ n ∧ Hid (∀ (j : Nat) (t : List Int), j < k → ts[j]? = some t → termOk ar t = true) ∧ Ext wo wr) (fun i _ => n - (intOf i).toNat)
  case atStart => exact ⟨0, rfl, Nat.zero_le _, Lib.hid (fun j t hj => by omega), Ext.refl _⟩
  case round =>
    obtain ⟨k, rfl, hk, hp, hE⟩ := hrel
    have hr0 := Ext.keep hE hw0
    have hEw : Ext w wr := Ext.trans hEo hE
    by_cases hlt : k < n
    · obtain ⟨b, o, A1, m1, c1, t, rfl, ht, hc, hcap, hr⟩ := RS.at2 (RS.ext HT.out hEw) hlt
      have HX := Lib.hid ht
      have HR := Lib.hid hr
      have hk1 : (k : Int) < (n : Int) := by omega
      have hk0 : (0 : Int) ≤ (k : Int) := by omega
      clear ht hr
      cases hok : termOk ar t with
      | true =>
        have HN := Lib.hid (show ∀ (j : Nat) (t : List Int), j < k + 1 → ts[j]? = some t → termOk ar t = true from fun j u hj hu => by
          rcases Nat.lt_or_ge j k with h | h
          · exact hp.out j u h hu
          · obtain rfl : j = k := by omega
            rw [HX.out] at hu; cases hu; exact hok)
        have HOK := Lib.hid hok
        clear hok
        go_wp2_with fail
        (with_reducible refine (c_iTermOk2 (ar := ar) (t := t) HOK.out (RdSig.mk (RI.ext HA.out hEw)) (RdI.mk HR.out)).mono ?_)
        rintro e w5 ⟨rfl, hE5⟩
        go_wp2
        go_roundw
        case rel => exact ⟨k + 1, by go_num, by omega, HN, Ext.trans hE hE5⟩
        case measure => simp only [intOf]; omega
      | false =>
        have HR2 := Lib.hid (show (ts.all (termOk ar) && rankOk ar rk) = false by
          rw [show ts.all (termOk ar) = false from List.all_eq_false.2 ⟨t, List.mem_of_getElem? HX.out, by rw [hok]; decide⟩]; rfl)
        have HOK := Lib.hid hok
        clear hok
        go_wp2_with fail
        (with_reducible refine (c_iTermOk2 (ar := ar) (t := t) HOK.out (RdSig.mk (RI.ext HA.out hEw)) (RdI.mk HR.out)).mono ?_)
        rintro e w5 ⟨rfl, hE5⟩
        go_wp2
        go_ret
        exact ⟨ret_bool HR2.out.symm, Ext.trans hEw hE5⟩
    · have hkn : k = n := by omega
      have HR2 := Lib.hid (show (ts.all (termOk ar) && rankOk ar rk) = rankOk ar rk by
        rw [show ts.all (termOk ar) = true from List.all_eq_true.2 fun t ht => by
          obtain ⟨j, hj, e⟩ := List.mem_iff_getElem.1 ht
          exact hp.out j t (by rw [hkn, ← HL.out]; exact hj) (by rw [List.getElem?_eq_getElem hj, e])]
        rfl)
      go_wp2_with fail
      (with_reducible refine (c_iRankOk (ar := ar) (rk := rk) (RdSig.mk (RI.ext HA.out hEw)) (RdI.mk (RI.ext HB.out hEw))).mono ?_)
      rintro e w5 ⟨rfl, hE5⟩
      go_wp2
      go_ret
      exact ⟨ret_bool HR2.out.symm, Ext.trans hEw hE5⟩
theorem c_rankOk2 {v0 v1 : Value} {A B : Option Addr} {n c m d g : Nat} {ar rk s t : List Int} {T : TypeId} {b : Bool} {w : World} (hb : lpoArgs ar rk s t = b) (h0 : RdSig w v0 ar) (h1 : RdI w v1 rk)
    (hh : w.heap[g]? = some (.cells #[.slice A n c, .slice B m d] T (0, 0))) (hc : n ≤ c ∧ c ≤ 9223372036854775807) (hd : m ≤ d ∧ d ≤ 9223372036854775807) (ha : RI w A n s) (hbb : RI w B m t) :
    Calls Try.prog 53 #[v0, v1, .slice (some ⟨g, 0, none⟩) 2 2] w fun e w' => e = .returned (.bool b) ∧ Ext w w' :=
  (c_rankOk h0 h1 (RS.two hh hc hd ha hbb)).mono fun e w' h => ⟨by rw [h.1, ← hb]; unfold lpoArgs; simp, h.2⟩
/-- What is told of two right terms. -/
theorem c_pathWhy' {v0 v1 v2 v3 : Value} {ar rk s t : List Int} {lex : Bool} {T : TypeId} {V : Nat} {w : World} (hT : (if lex = true then 86 else 81) = T) (hok : lpoArgs ar rk s t = true) (hV : V = lpoA ar rk lex s t)
    (h0 : RdSig w v0 ar) (h1 : RdI w v1 rk) (h2 : RdIc w v2 s) (h3 : RdIc w v3 t) :
    Calls Try.prog 59 #[v0, v1, v2, v3, .iface T (.agg #[])] w fun e w' => e = .returned (.int .i64 (V : Int)) ∧ Ext w w' := by
  obtain ⟨A, n, c, rfl, ha⟩ := h0
  obtain ⟨R, rn, rc, rfl, hr⟩ := h1
  obtain ⟨D, k, l, rfl, hkl, hd⟩ := h2
  obtain ⟨B, m, d, rfl, hmd, hb⟩ := h3
  obtain ⟨⟨g1, g2⟩, g3, g4, g5⟩ := lpoArgs_iff.1 hok
  subst hV
  exact c_pathWhy hT g3 g4 g2 g1 ha hr hb hd hmd hkl
set_option maxRecDepth 100000 in
set_option maxHeartbeats 1000000 in
theorem c_lpoLess {v0 v1 v2 v3 : Value} {ar rk s t : List Int} {b : Bool} {w : World} (hok : lpoArgs ar rk s t = true) (hb : decide (0 < lpoA ar rk true s t) = b) (h0 : RdSig w v0 ar) (h1 : RdI w v1 rk) (h2 : RdIc w v2 s) (h3 : RdIc w v3 t) :
    Calls Try.prog 56 #[v0, v1, v2, v3] w fun e w' => e = .returned (.bool b) ∧ Ext w w' := by
  obtain ⟨A, n, c, rfl, ha⟩ := h0
  obtain ⟨V, hV⟩ : ∃ V, V = lpoA ar rk true s t := ⟨_, rfl⟩
  have HV := Lib.hid hV
  have HOK := Lib.hid hok
  have HA := Lib.hid ha
  have H1 := Lib.hid h1
  have H2 := Lib.hid h2
  have H3 := Lib.hid h3
  have HB := Lib.hid (show b = decide (0 < V) by rw [← hb, hV])
  clear hV hok hb ha h1 h2 h3
  go_enter Try.func56, Try.ntmps56
  go_wp2_with fail
  (with_reducible refine (c_pathWhy' (lex := true) (T := 86) (if_pos rfl) HOK.out HV.out (RdSig.mk (RI.ext HA.out (by (repeat' (first | (with_reducible exact Ext.refl _) | (with_reducible assumption) | (with_reducible refine Ext.alloc ?_ _) | (with_reducible refine Ext.set ?_ ?_ _) | (with_reducible refine Ext.drewN ?_ _) | (with_reducible refine Ext.drew ?_) | (with_reducible refine Ext.trans ?_ (by with_reducible assumption)) | go_size))))) (RdI.ext H1.out (by (repeat' (first | (with_reducible exact Ext.refl _) | (with_reducible assumption) | (with_reducible refine Ext.alloc ?_ _) | (with_reducible refine Ext.set ?_ ?_ _) | (with_reducible refine Ext.drewN ?_ _) | (with_reducible refine Ext.drew ?_) | (with_reducible refine Ext.trans ?_ (by with_reducible assumption)) | go_size)))) (RdIc.ext H2.out (by (repeat' (first | (with_reducible exact Ext.refl _) | (with_reducible assumption) | (with_reducible refine Ext.alloc ?_ _) | (with_reducible refine Ext.set ?_ ?_ _) | (with_reducible refine Ext.drewN ?_ _) | (with_reducible refine Ext.drew ?_) | (with_reducible refine Ext.trans ?_ (by with_reducible assumption)) | go_size)))) (RdIc.ext H3.out (by (repeat' (first | (with_reducible exact Ext.refl _) | (with_reducible assumption) | (with_reducible refine Ext.alloc ?_ _) | (with_reducible refine Ext.set ?_ ?_ _) | (with_reducible refine Ext.drewN ?_ _) | (with_reducible refine Ext.drew ?_) | (with_reducible refine Ext.trans ?_ (by with_reducible assumption)) | go_size))))).mono ?_)
  rintro e w2 ⟨rfl, hE2⟩
  go_wp2
  go_ret
  exact ⟨ret_bool (by rw [HB.out]), by (repeat' (first | (with_reducible exact Ext.refl _) | (with_reducible assumption) | (with_reducible refine Ext.alloc ?_ _) | (with_reducible refine Ext.set ?_ ?_ _) | (with_reducible refine Ext.drewN ?_ _) | (with_reducible refine Ext.drew ?_) | (with_reducible refine Ext.trans ?_ (by with_reducible assumption)) | go_size))⟩
set_option maxRecDepth 100000 in
set_option maxHeartbeats 1000000 in
theorem c_iLpoWhy {v0 v1 v2 v3 : Value} {ar rk s t : List Int} {w : World} (h0 : RdSig w v0 ar) (h1 : RdI w v1 rk) (h2 : RdIc w v2 s) (h3 : RdIc w v3 t) :
    Calls Try.prog 30 #[v0, v1, v2, v3] w fun e w' => e = .returned (.int .i64 (lpoWhyV ar rk s t)) ∧ Ext w w' := by
  obtain ⟨A, n, c, rfl, ha⟩ := h0
  obtain ⟨D, k, l, rfl, hkl, hd⟩ := h2
  obtain ⟨B, m, d, rfl, hmd, hb⟩ := h3
  have HA := Lib.hid ha
  have H1 := Lib.hid h1
  have HD := Lib.hid hd
  have HB := Lib.hid hb
  have HKL := Lib.hid hkl
  have HMD := Lib.hid hmd
  clear ha h1 hd hb hkl hmd
  cases hok : lpoArgs ar rk s t with
  | false =>
    have HOK := Lib.hid hok
    have HR := Lib.hid (show lpoWhyV ar rk s t = 0 by unfold lpoWhyV; rw [if_neg (by rw [hok]; decide)])
    clear hok
    go_enter Try.func30, Try.ntmps30
    go_wp2_with fail
    (with_reducible refine (c_rankOk2 HOK.out (RdSig.mk (RI.ext HA.out (by (repeat' (first | (with_reducible exact Ext.refl _) | (with_reducible assumption) | (with_reducible refine Ext.alloc ?_ _) | (with_reducible refine Ext.set ?_ ?_ _) | (with_reducible refine Ext.drewN ?_ _) | (with_reducible refine Ext.drew ?_) | (with_reducible refine Ext.trans ?_ (by with_reducible assumption)) | go_size))))) (RdI.ext H1.out (by (repeat' (first | (with_reducible exact Ext.refl _) | (with_reducible assumption) | (with_reducible refine Ext.alloc ?_ _) | (with_reducible refine Ext.set ?_ ?_ _) | (with_reducible refine Ext.drewN ?_ _) | (with_reducible refine Ext.drew ?_) | (with_reducible refine Ext.trans ?_ (by with_reducible assumption)) | go_size)))) (heap2 _ _ _) HKL.out HMD.out (RI.ext HD.out (by (repeat' (first | (with_reducible exact Ext.refl _) | (with_reducible assumption) | (with_reducible refine Ext.alloc ?_ _) | (with_reducible refine Ext.set ?_ ?_ _) | (with_reducible refine Ext.drewN ?_ _) | (with_reducible refine Ext.drew ?_) | (with_reducible refine Ext.trans ?_ (by with_reducible assumption)) | go_size)))) (RI.ext HB.out (by (repeat' (first | (with_reducible exact Ext.refl _) | (with_reducible assumption) | (with_reducible refine Ext.alloc ?_ _) | (with_reducible refine Ext.set ?_ ?_ _) | (with_reducible refine Ext.drewN ?_ _) | (with_reducible refine Ext.drew ?_) | (with_reducible refine Ext.trans ?_ (by with_reducible assumption)) | go_size))))).mono ?_)
    rintro e w2 ⟨rfl, hE2⟩
    go_wp2
    go_ret
    exact ⟨ret_int HR.out.symm, by (repeat' (first | (with_reducible exact Ext.refl _) | (with_reducible assumption) | (with_reducible refine Ext.alloc ?_ _) | (with_reducible refine Ext.set ?_ ?_ _) | (with_reducible refine Ext.drewN ?_ _) | (with_reducible refine Ext.drew ?_) | (with_reducible refine Ext.trans ?_ (by with_reducible assumption)) | go_size))⟩
  | true =>
    obtain ⟨V, hV⟩ : ∃ V, V = lpoA ar rk true s t := ⟨_, rfl⟩
    have HV := Lib.hid hV
    have HOK := Lib.hid hok
    have HR := Lib.hid (show lpoWhyV ar rk s t = (V : Int) by unfold lpoWhyV; rw [if_pos hok, hV])
    clear hok hV
    go_enter Try.func30, Try.ntmps30
    go_wp2_with fail
    (with_reducible refine (c_rankOk2 HOK.out (RdSig.mk (RI.ext HA.out (by (repeat' (first | (with_reducible exact Ext.refl _) | (with_reducible assumption) | (with_reducible refine Ext.alloc ?_ _) | (with_reducible refine Ext.set ?_ ?_ _) | (with_reducible refine Ext.drewN ?_ _) | (with_reducible refine Ext.drew ?_) | (with_reducible refine Ext.trans ?_ (by with_reducible assumption)) | go_size))))) (RdI.ext H1.out (by (repeat' (first | (with_reducible exact Ext.refl _) | (with_reducible assumption) | (with_reducible refine Ext.alloc ?_ _) | (with_reducible refine Ext.set ?_ ?_ _) | (with_reducible refine Ext.drewN ?_ _) | (with_reducible refine Ext.drew ?_) | (with_reducible refine Ext.trans ?_ (by with_reducible assumption)) | go_size)))) (heap2 _ _ _) HKL.out HMD.out (RI.ext HD.out (by (repeat' (first | (with_reducible exact Ext.refl _) | (with_reducible assumption) | (with_reducible refine Ext.alloc ?_ _) | (with_reducible refine Ext.set ?_ ?_ _) | (with_reducible refine Ext.drewN ?_ _) | (with_reducible refine Ext.drew ?_) | (with_reducible refine Ext.trans ?_ (by with_reducible assumption)) | go_size)))) (RI.ext HB.out (by (repeat' (first | (with_reducible exact Ext.refl _) | (with_reducible assumption) | (with_reducible refine Ext.alloc ?_ _) | (with_reducible refine Ext.set ?_ ?_ _) | (with_reducible refine Ext.drewN ?_ _) | (with_reducible refine Ext.drew ?_) | (with_reducible refine Ext.trans ?_ (by with_reducible assumption)) | go_size))))).mono ?_)
    rintro e w2 ⟨rfl, hE2⟩
    have hb0 : w2.cell? ⟨w.heap.size, 0, none⟩ = some (.slice A n c) := Ext.keep hE2 (by simp [go_sem])
    go_wp2_with fail
    (with_reducible refine (c_pathWhy' (lex := true) (T := 86) (if_pos rfl) HOK.out HV.out (RdSig.mk (RI.ext HA.out (by (repeat' (first | (with_reducible exact Ext.refl _) | (with_reducible assumption) | (with_reducible refine Ext.alloc ?_ _) | (with_reducible refine Ext.set ?_ ?_ _) | (with_reducible refine Ext.drewN ?_ _) | (with_reducible refine Ext.drew ?_) | (with_reducible refine Ext.trans ?_ (by with_reducible assumption)) | go_size))))) (RdI.ext H1.out (by (repeat' (first | (with_reducible exact Ext.refl _) | (with_reducible assumption) | (with_reducible refine Ext.alloc ?_ _) | (with_reducible refine Ext.set ?_ ?_ _) | (with_reducible refine Ext.drewN ?_ _) | (with_reducible refine Ext.drew ?_) | (with_reducible refine Ext.trans ?_ (by with_reducible assumption)) | go_size)))) (RdIc.mk HKL.out (RI.ext HD.out (by (repeat' (first | (with_reducible exact Ext.refl _) | (with_reducible assumption) | (with_reducible refine Ext.alloc ?_ _) | (with_reducible refine Ext.set ?_ ?_ _) | (with_reducible refine Ext.drewN ?_ _) | (with_reducible refine Ext.drew ?_) | (with_reducible refine Ext.trans ?_ (by with_reducible assumption)) | go_size))))) (RdIc.mk HMD.out (RI.ext HB.out (by (repeat' (first | (with_reducible exact Ext.refl _) | (with_reducible assumption) | (with_reducible refine Ext.alloc ?_ _) | (with_reducible refine Ext.set ?_ ?_ _) | (with_reducible refine Ext.drewN ?_ _) | (with_reducible refine Ext.drew ?_) | (with_reducible refine Ext.trans ?_ (by with_reducible assumption)) | go_size)))))).mono ?_)
    rintro e w3 ⟨rfl, hE3⟩
    go_wp2
    go_ret
    exact ⟨ret_int HR.out.symm, by (repeat' (first | (with_reducible exact Ext.refl _) | (with_reducible assumption) | (with_reducible refine Ext.alloc ?_ _) | (with_reducible refine Ext.set ?_ ?_ _) | (with_reducible refine Ext.drewN ?_ _) | (with_reducible refine Ext.drew ?_) | (with_reducible refine Ext.trans ?_ (by with_reducible assumption)) | go_size))⟩
set_option maxRecDepth 100000 in
set_option maxHeartbeats 1000000 in
theorem c_iLpoLess {v0 v1 v2 v3 : Value} {ar rk s t : List Int} {w : World} (h0 : RdSig w v0 ar) (h1 : RdI w v1 rk) (h2 : RdIc w v2 s) (h3 : RdIc w v3 t) :
    Calls Try.prog 28 #[v0, v1, v2, v3] w fun e w' => e = .returned (.bool (lpoLessV ar rk s t)) ∧ Ext w w' := by
  obtain ⟨A, n, c, rfl, ha⟩ := h0
  obtain ⟨D, k, l, rfl, hkl, hd⟩ := h2
  obtain ⟨B, m, d, rfl, hmd, hb⟩ := h3
  have HA := Lib.hid ha
  have H1 := Lib.hid h1
  have HD := Lib.hid hd
  have HB := Lib.hid hb
  have HKL := Lib.hid hkl
  have HMD := Lib.hid hmd
  clear ha h1 hd hb hkl hmd
  cases hok : lpoArgs ar rk s t with
  | false =>
    have HOK := Lib.hid hok
    have HR := Lib.hid (show lpoLessV ar rk s t = false by unfold lpoLessV; rw [hok]; rfl)
    clear hok
    go_enter Try.func28, Try.ntmps28
    go_wp2_with fail
    (with_reducible refine (c_rankOk2 HOK.out (RdSig.mk (RI.ext HA.out (by (repeat' (first | (with_reducible exact Ext.refl _) | (with_reducible assumption) | (with_reducible refine Ext.alloc ?_ _) | (with_reducible refine Ext.set ?_ ?_ _) | (with_reducible refine Ext.drewN ?_ _) | (with_reducible refine Ext.drew ?_) | (with_reducible refine Ext.trans ?_ (by with_reducible assumption)) | go_size))))) (RdI.ext H1.out (by (repeat' (first | (with_reducible exact Ext.refl _) | (with_reducible assumption) | (with_reducible refine Ext.alloc ?_ _) | (with_reducible refine Ext.set ?_ ?_ _) | (with_reducible refine Ext.drewN ?_ _) | (with_reducible refine Ext.drew ?_) | (with_reducible refine Ext.trans ?_ (by with_reducible assumption)) | go_size)))) (heap2 _ _ _) HKL.out HMD.out (RI.ext HD.out (by (repeat' (first | (with_reducible exact Ext.refl _) | (with_reducible assumption) | (with_reducible refine Ext.alloc ?_ _) | (with_reducible refine Ext.set ?_ ?_ _) | (with_reducible refine Ext.drewN ?_ _) | (with_reducible refine Ext.drew ?_) | (with_reducible refine Ext.trans ?_ (by with_reducible assumption)) | go_size)))) (RI.ext HB.out (by (repeat' (first | (with_reducible exact Ext.refl _) | (with_reducible assumption) | (with_reducible refine Ext.alloc ?_ _) | (with_reducible refine Ext.set ?_ ?_ _) | (with_reducible refine Ext.drewN ?_ _) | (with_reducible refine Ext.drew ?_) | (with_reducible refine Ext.trans ?_ (by with_reducible assumption)) | go_size))))).mono ?_)
    rintro e w2 ⟨rfl, hE2⟩
    go_wp2
    go_ret
    exact ⟨ret_bool HR.out.symm, by (repeat' (first | (with_reducible exact Ext.refl _) | (with_reducible assumption) | (with_reducible refine Ext.alloc ?_ _) | (with_reducible refine Ext.set ?_ ?_ _) | (with_reducible refine Ext.drewN ?_ _) | (with_reducible refine Ext.drew ?_) | (with_reducible refine Ext.trans ?_ (by with_reducible assumption)) | go_size))⟩
  | true =>
    have HOK := Lib.hid hok
    have HR := Lib.hid (show lpoLessV ar rk s t = decide (0 < lpoA ar rk true s t) by unfold lpoLessV; rw [hok]; rfl)
    clear hok
    obtain ⟨b, hb⟩ : ∃ b, decide (0 < lpoA ar rk true s t) = b := ⟨_, rfl⟩
    rw [hb] at HR
    have HBB := Lib.hid hb
    clear hb
    go_enter Try.func28, Try.ntmps28
    go_wp2_with fail
    (with_reducible refine (c_rankOk2 HOK.out (RdSig.mk (RI.ext HA.out (by (repeat' (first | (with_reducible exact Ext.refl _) | (with_reducible assumption) | (with_reducible refine Ext.alloc ?_ _) | (with_reducible refine Ext.set ?_ ?_ _) | (with_reducible refine Ext.drewN ?_ _) | (with_reducible refine Ext.drew ?_) | (with_reducible refine Ext.trans ?_ (by with_reducible assumption)) | go_size))))) (RdI.ext H1.out (by (repeat' (first | (with_reducible exact Ext.refl _) | (with_reducible assumption) | (with_reducible refine Ext.alloc ?_ _) | (with_reducible refine Ext.set ?_ ?_ _) | (with_reducible refine Ext.drewN ?_ _) | (with_reducible refine Ext.drew ?_) | (with_reducible refine Ext.trans ?_ (by with_reducible assumption)) | go_size)))) (heap2 _ _ _) HKL.out HMD.out (RI.ext HD.out (by (repeat' (first | (with_reducible exact Ext.refl _) | (with_reducible assumption) | (with_reducible refine Ext.alloc ?_ _) | (with_reducible refine Ext.set ?_ ?_ _) | (with_reducible refine Ext.drewN ?_ _) | (with_reducible refine Ext.drew ?_) | (with_reducible refine Ext.trans ?_ (by with_reducible assumption)) | go_size)))) (RI.ext HB.out (by (repeat' (first | (with_reducible exact Ext.refl _) | (with_reducible assumption) | (with_reducible refine Ext.alloc ?_ _) | (with_reducible refine Ext.set ?_ ?_ _) | (with_reducible refine Ext.drewN ?_ _) | (with_reducible refine Ext.drew ?_) | (with_reducible refine Ext.trans ?_ (by with_reducible assumption)) | go_size))))).mono ?_)
    rintro e w2 ⟨rfl, hE2⟩
    have hb0 : w2.cell? ⟨w.heap.size, 0, none⟩ = some (.slice A n c) := Ext.keep hE2 (by simp [go_sem])
    go_wp2_with fail
    (with_reducible refine (c_lpoLess HOK.out HBB.out (RdSig.mk (RI.ext HA.out (by (repeat' (first | (with_reducible exact Ext.refl _) | (with_reducible assumption) | (with_reducible refine Ext.alloc ?_ _) | (with_reducible refine Ext.set ?_ ?_ _) | (with_reducible refine Ext.drewN ?_ _) | (with_reducible refine Ext.drew ?_) | (with_reducible refine Ext.trans ?_ (by with_reducible assumption)) | go_size))))) (RdI.ext H1.out (by (repeat' (first | (with_reducible exact Ext.refl _) | (with_reducible assumption) | (with_reducible refine Ext.alloc ?_ _) | (with_reducible refine Ext.set ?_ ?_ _) | (with_reducible refine Ext.drewN ?_ _) | (with_reducible refine Ext.drew ?_) | (with_reducible refine Ext.trans ?_ (by with_reducible assumption)) | go_size)))) (RdIc.mk HKL.out (RI.ext HD.out (by (repeat' (first | (with_reducible exact Ext.refl _) | (with_reducible assumption) | (with_reducible refine Ext.alloc ?_ _) | (with_reducible refine Ext.set ?_ ?_ _) | (with_reducible refine Ext.drewN ?_ _) | (with_reducible refine Ext.drew ?_) | (with_reducible refine Ext.trans ?_ (by with_reducible assumption)) | go_size))))) (RdIc.mk HMD.out (RI.ext HB.out (by (repeat' (first | (with_reducible exact Ext.refl _) | (with_reducible assumption) | (with_reducible refine Ext.alloc ?_ _) | (with_reducible refine Ext.set ?_ ?_ _) | (with_reducible refine Ext.drewN ?_ _) | (with_reducible refine Ext.drew ?_) | (with_reducible refine Ext.trans ?_ (by with_reducible assumption)) | go_size)))))).mono ?_)
    rintro e w3 ⟨rfl, hE3⟩
    go_wp2
    go_ret
    exact ⟨ret_bool HR.out.symm, by (repeat' (first | (with_reducible exact Ext.refl _) | (with_reducible assumption) | (with_reducible refine Ext.alloc ?_ _) | (with_reducible refine Ext.set ?_ ?_ _) | (with_reducible refine Ext.drewN ?_ _) | (with_reducible refine Ext.drew ?_) | (with_reducible refine Ext.trans ?_ (by with_reducible assumption)) | go_size))⟩
set_option maxRecDepth 100000 in
set_option maxHeartbeats 1000000 in
theorem c_iMpoLess {v0 v1 v2 v3 : Value} {ar rk s t : List Int} {w : World} (h0 : RdSig w v0 ar) (h1 : RdI w v1 rk) (h2 : RdIc w v2 s) (h3 : RdIc w v3 t) :
    Calls Try.prog 20 #[v0, v1, v2, v3] w fun e w' => e = .returned (.bool (mpoLessV ar rk s t)) ∧ Ext w w' := by
  obtain ⟨A, n, c, rfl, ha⟩ := h0
  obtain ⟨D, k, l, rfl, hkl, hd⟩ := h2
  obtain ⟨B, m, d, rfl, hmd, hb⟩ := h3
  have HA := Lib.hid ha
  have H1 := Lib.hid h1
  have HD := Lib.hid hd
  have HB := Lib.hid hb
  have HKL := Lib.hid hkl
  have HMD := Lib.hid hmd
  clear ha h1 hd hb hkl hmd
  cases hok : lpoArgs ar rk s t with
  | false =>
    have HOK := Lib.hid hok
    have HR := Lib.hid (show mpoLessV ar rk s t = false by unfold mpoLessV; rw [hok]; rfl)
    clear hok
    go_enter Try.func20, Try.ntmps20
    go_wp2_with fail
    (with_reducible refine (c_rankOk2 HOK.out (RdSig.mk (RI.ext HA.out (by (repeat' (first | (with_reducible exact Ext.refl _) | (with_reducible assumption) | (with_reducible refine Ext.alloc ?_ _) | (with_reducible refine Ext.set ?_ ?_ _) | (with_reducible refine Ext.drewN ?_ _) | (with_reducible refine Ext.drew ?_) | (with_reducible refine Ext.trans ?_ (by with_reducible assumption)) | go_size))))) (RdI.ext H1.out (by (repeat' (first | (with_reducible exact Ext.refl _) | (with_reducible assumption) | (with_reducible refine Ext.alloc ?_ _) | (with_reducible refine Ext.set ?_ ?_ _) | (with_reducible refine Ext.drewN ?_ _) | (with_reducible refine Ext.drew ?_) | (with_reducible refine Ext.trans ?_ (by with_reducible assumption)) | go_size)))) (heap2 _ _ _) HKL.out HMD.out (RI.ext HD.out (by (repeat' (first | (with_reducible exact Ext.refl _) | (with_reducible assumption) | (with_reducible refine Ext.alloc ?_ _) | (with_reducible refine Ext.set ?_ ?_ _) | (with_reducible refine Ext.drewN ?_ _) | (with_reducible refine Ext.drew ?_) | (with_reducible refine Ext.trans ?_ (by with_reducible assumption)) | go_size)))) (RI.ext HB.out (by (repeat' (first | (with_reducible exact Ext.refl _) | (with_reducible assumption) | (with_reducible refine Ext.alloc ?_ _) | (with_reducible refine Ext.set ?_ ?_ _) | (with_reducible refine Ext.drewN ?_ _) | (with_reducible refine Ext.drew ?_) | (with_reducible refine Ext.trans ?_ (by with_reducible assumption)) | go_size))))).mono ?_)
    rintro e w2 ⟨rfl, hE2⟩
    go_wp2
    go_ret
    exact ⟨ret_bool HR.out.symm, by (repeat' (first | (with_reducible exact Ext.refl _) | (with_reducible assumption) | (with_reducible refine Ext.alloc ?_ _) | (with_reducible refine Ext.set ?_ ?_ _) | (with_reducible refine Ext.drewN ?_ _) | (with_reducible refine Ext.drew ?_) | (with_reducible refine Ext.trans ?_ (by with_reducible assumption)) | go_size))⟩
  | true =>
    obtain ⟨V, hV⟩ : ∃ V, V = lpoA ar rk false s t := ⟨_, rfl⟩
    have HV := Lib.hid hV
    have HOK := Lib.hid hok
    have HR := Lib.hid (show mpoLessV ar rk s t = decide (0 < V) by unfold mpoLessV; rw [hok, hV]; rfl)
    clear hok hV
    go_enter Try.func20, Try.ntmps20
    go_wp2_with fail
    (with_reducible refine (c_rankOk2 HOK.out (RdSig.mk (RI.ext HA.out (by (repeat' (first | (with_reducible exact Ext.refl _) | (with_reducible assumption) | (with_reducible refine Ext.alloc ?_ _) | (with_reducible refine Ext.set ?_ ?_ _) | (with_reducible refine Ext.drewN ?_ _) | (with_reducible refine Ext.drew ?_) | (with_reducible refine Ext.trans ?_ (by with_reducible assumption)) | go_size))))) (RdI.ext H1.out (by (repeat' (first | (with_reducible exact Ext.refl _) | (with_reducible assumption) | (with_reducible refine Ext.alloc ?_ _) | (with_reducible refine Ext.set ?_ ?_ _) | (with_reducible refine Ext.drewN ?_ _) | (with_reducible refine Ext.drew ?_) | (with_reducible refine Ext.trans ?_ (by with_reducible assumption)) | go_size)))) (heap2 _ _ _) HKL.out HMD.out (RI.ext HD.out (by (repeat' (first | (with_reducible exact Ext.refl _) | (with_reducible assumption) | (with_reducible refine Ext.alloc ?_ _) | (with_reducible refine Ext.set ?_ ?_ _) | (with_reducible refine Ext.drewN ?_ _) | (with_reducible refine Ext.drew ?_) | (with_reducible refine Ext.trans ?_ (by with_reducible assumption)) | go_size)))) (RI.ext HB.out (by (repeat' (first | (with_reducible exact Ext.refl _) | (with_reducible assumption) | (with_reducible refine Ext.alloc ?_ _) | (with_reducible refine Ext.set ?_ ?_ _) | (with_reducible refine Ext.drewN ?_ _) | (with_reducible refine Ext.drew ?_) | (with_reducible refine Ext.trans ?_ (by with_reducible assumption)) | go_size))))).mono ?_)
    rintro e w2 ⟨rfl, hE2⟩
    have hb0 : w2.cell? ⟨w.heap.size, 0, none⟩ = some (.slice A n c) := Ext.keep hE2 (by simp [go_sem])
    go_wp2_with fail
    (with_reducible refine (c_pathWhy' (lex := false) (T := 81) (if_neg (by decide)) HOK.out HV.out (RdSig.mk (RI.ext HA.out (by (repeat' (first | (with_reducible exact Ext.refl _) | (with_reducible assumption) | (with_reducible refine Ext.alloc ?_ _) | (with_reducible refine Ext.set ?_ ?_ _) | (with_reducible refine Ext.drewN ?_ _) | (with_reducible refine Ext.drew ?_) | (with_reducible refine Ext.trans ?_ (by with_reducible assumption)) | go_size))))) (RdI.ext H1.out (by (repeat' (first | (with_reducible exact Ext.refl _) | (with_reducible assumption) | (with_reducible refine Ext.alloc ?_ _) | (with_reducible refine Ext.set ?_ ?_ _) | (with_reducible refine Ext.drewN ?_ _) | (with_reducible refine Ext.drew ?_) | (with_reducible refine Ext.trans ?_ (by with_reducible assumption)) | go_size)))) (RdIc.mk HKL.out (RI.ext HD.out (by (repeat' (first | (with_reducible exact Ext.refl _) | (with_reducible assumption) | (with_reducible refine Ext.alloc ?_ _) | (with_reducible refine Ext.set ?_ ?_ _) | (with_reducible refine Ext.drewN ?_ _) | (with_reducible refine Ext.drew ?_) | (with_reducible refine Ext.trans ?_ (by with_reducible assumption)) | go_size))))) (RdIc.mk HMD.out (RI.ext HB.out (by (repeat' (first | (with_reducible exact Ext.refl _) | (with_reducible assumption) | (with_reducible refine Ext.alloc ?_ _) | (with_reducible refine Ext.set ?_ ?_ _) | (with_reducible refine Ext.drewN ?_ _) | (with_reducible refine Ext.drew ?_) | (with_reducible refine Ext.trans ?_ (by with_reducible assumption)) | go_size)))))).mono ?_)
    rintro e w3 ⟨rfl, hE3⟩
    go_wp2
    go_ret
    exact ⟨ret_bool HR.out.symm, by (repeat' (first | (with_reducible exact Ext.refl _) | (with_reducible assumption) | (with_reducible refine Ext.alloc ?_ _) | (with_reducible refine Ext.set ?_ ?_ _) | (with_reducible refine Ext.drewN ?_ _) | (with_reducible refine Ext.drew ?_) | (with_reducible refine Ext.trans ?_ (by with_reducible assumption)) | go_size))⟩
theorem lpoArgs_comm (ar rk s t : List Int) : lpoArgs ar rk t s = lpoArgs ar rk s t := by unfold lpoArgs; rw [Bool.and_comm (termOk ar t)]
theorem c_slicesEqual2 {v0 v1 : Value} {xs ys : List Int} {b : Bool} {w : World} (hb : (xs == ys) = b) (h0 : RdI w v0 xs) (h1 : RdI w v1 ys) :
    Calls Try.prog 61 #[v0, v1] w fun e w' => e = .returned (.bool b) ∧ Ext w w' := by subst hb; exact c_slicesEqual h0 h1
set_option maxRecDepth 100000 in
set_option maxHeartbeats 2000000 in
theorem c_iLpoCompare {v0 v1 v2 v3 : Value} {ar rk s t : List Int} {w : World} (h0 : RdSig w v0 ar) (h1 : RdI w v1 rk) (h2 : RdIc w v2 s) (h3 : RdIc w v3 t) :
    Calls Try.prog 26 #[v0, v1, v2, v3] w fun e w' => e = .returned (.int .i64 (lpoCmpV ar rk s t)) ∧ Ext w w' := by
  obtain ⟨A, n, c, rfl, ha⟩ := h0
  obtain ⟨D, k, l, rfl, hkl, hd⟩ := h2
  obtain ⟨B, m, d, rfl, hmd, hb⟩ := h3
  have HA := Lib.hid ha
  have H1 := Lib.hid h1
  have HD := Lib.hid hd
  have HB := Lib.hid hb
  have HKL := Lib.hid hkl
  have HMD := Lib.hid hmd
  clear ha h1 hd hb hkl hmd
  cases hok : lpoArgs ar rk s t with
  | false =>
    have HOK := Lib.hid hok
    have HR := Lib.hid (show lpoCmpV ar rk s t = 2 by unfold lpoCmpV; rw [if_neg (by rw [hok]; decide)])
    clear hok
    go_enter Try.func26, Try.ntmps26
    go_wp2_with fail
    (with_reducible refine (c_rankOk2 HOK.out (RdSig.mk (RI.ext HA.out (by (repeat' (first | (with_reducible exact Ext.refl _) | (with_reducible assumption) | (with_reducible refine Ext.alloc ?_ _) | (with_reducible refine Ext.set ?_ ?_ _) | (with_reducible refine Ext.drewN ?_ _) | (with_reducible refine Ext.drew ?_) | (with_reducible refine Ext.trans ?_ (by with_reducible assumption)) | go_size))))) (RdI.ext H1.out (by (repeat' (first | (with_reducible exact Ext.refl _) | (with_reducible assumption) | (with_reducible refine Ext.alloc ?_ _) | (with_reducible refine Ext.set ?_ ?_ _) | (with_reducible refine Ext.drewN ?_ _) | (with_reducible refine Ext.drew ?_) | (with_reducible refine Ext.trans ?_ (by with_reducible assumption)) | go_size)))) (heap2 _ _ _) HKL.out HMD.out (RI.ext HD.out (by (repeat' (first | (with_reducible exact Ext.refl _) | (with_reducible assumption) | (with_reducible refine Ext.alloc ?_ _) | (with_reducible refine Ext.set ?_ ?_ _) | (with_reducible refine Ext.drewN ?_ _) | (with_reducible refine Ext.drew ?_) | (with_reducible refine Ext.trans ?_ (by with_reducible assumption)) | go_size)))) (RI.ext HB.out (by (repeat' (first | (with_reducible exact Ext.refl _) | (with_reducible assumption) | (with_reducible refine Ext.alloc ?_ _) | (with_reducible refine Ext.set ?_ ?_ _) | (with_reducible refine Ext.drewN ?_ _) | (with_reducible refine Ext.drew ?_) | (with_reducible refine Ext.trans ?_ (by with_reducible assumption)) | go_size))))).mono ?_)
    rintro e w2 ⟨rfl, hE2⟩
    go_wp2
    go_ret
    exact ⟨ret_int HR.out.symm, by (repeat' (first | (with_reducible exact Ext.refl _) | (with_reducible assumption) | (with_reducible refine Ext.alloc ?_ _) | (with_reducible refine Ext.set ?_ ?_ _) | (with_reducible refine Ext.drewN ?_ _) | (with_reducible refine Ext.drew ?_) | (with_reducible refine Ext.trans ?_ (by with_reducible assumption)) | go_size))⟩
  | true =>
    have HOK2 := Lib.hid ((lpoArgs_comm ar rk s t).trans hok)
    have HOK := Lib.hid hok
    have HR := Lib.hid (show lpoCmpV ar rk s t = (if s = t then 0 else if 0 < lpoA ar rk true s t then -1 else if 0 < lpoA ar rk true t s then 1 else 2) by unfold lpoCmpV; rw [if_pos hok])
    clear hok
    obtain ⟨b0, hb0⟩ : ∃ b, (s == t) = b := ⟨_, rfl⟩
    obtain ⟨b1, hb1⟩ : ∃ b, decide (0 < lpoA ar rk true s t) = b := ⟨_, rfl⟩
    obtain ⟨b2, hb2⟩ : ∃ b, decide (0 < lpoA ar rk true t s) = b := ⟨_, rfl⟩
    have HR2 := Lib.hid (show lpoCmpV ar rk s t = (if b0 = true then 0 else if b1 = true then -1 else if b2 = true then 1 else 2) by
      rw [HR.out]
      subst hb0 hb1 hb2
      simp only [beq_iff_eq, decide_eq_true_eq])
    have HB0 := Lib.hid hb0
    have HB1 := Lib.hid hb1
    have HB2 := Lib.hid hb2
    clear hb0 hb1 hb2 HR
    go_enter Try.func26, Try.ntmps26
    go_wp2_with fail
    (with_reducible refine (c_rankOk2 HOK.out (RdSig.mk (RI.ext HA.out (by (repeat' (first | (with_reducible exact Ext.refl _) | (with_reducible assumption) | (with_reducible refine Ext.alloc ?_ _) | (with_reducible refine Ext.set ?_ ?_ _) | (with_reducible refine Ext.drewN ?_ _) | (with_reducible refine Ext.drew ?_) | (with_reducible refine Ext.trans ?_ (by with_reducible assumption)) | go_size))))) (RdI.ext H1.out (by (repeat' (first | (with_reducible exact Ext.refl _) | (with_reducible assumption) | (with_reducible refine Ext.alloc ?_ _) | (with_reducible refine Ext.set ?_ ?_ _) | (with_reducible refine Ext.drewN ?_ _) | (with_reducible refine Ext.drew ?_) | (with_reducible refine Ext.trans ?_ (by with_reducible assumption)) | go_size)))) (heap2 _ _ _) HKL.out HMD.out (RI.ext HD.out (by (repeat' (first | (with_reducible exact Ext.refl _) | (with_reducible assumption) | (with_reducible refine Ext.alloc ?_ _) | (with_reducible refine Ext.set ?_ ?_ _) | (with_reducible refine Ext.drewN ?_ _) | (with_reducible refine Ext.drew ?_) | (with_reducible refine Ext.trans ?_ (by with_reducible assumption)) | go_size)))) (RI.ext HB.out (by (repeat' (first | (with_reducible exact Ext.refl _) | (with_reducible assumption) | (with_reducible refine Ext.alloc ?_ _) | (with_reducible refine Ext.set ?_ ?_ _) | (with_reducible refine Ext.drewN ?_ _) | (with_reducible refine Ext.drew ?_) | (with_reducible refine Ext.trans ?_ (by with_reducible assumption)) | go_size))))).mono ?_)
    rintro e w2 ⟨rfl, hE2⟩
    have hb0 : w2.cell? ⟨w.heap.size, 0, none⟩ = some (.slice A n c) := Ext.keep hE2 (by simp [go_sem])
    go_wp2_with fail
    (with_reducible refine (c_slicesEqual2 HB0.out (RdI.mk (RI.ext HD.out (by (repeat' (first | (with_reducible exact Ext.refl _) | (with_reducible assumption) | (with_reducible refine Ext.alloc ?_ _) | (with_reducible refine Ext.set ?_ ?_ _) | (with_reducible refine Ext.drewN ?_ _) | (with_reducible refine Ext.drew ?_) | (with_reducible refine Ext.trans ?_ (by with_reducible assumption)) | go_size))))) (RdI.mk (RI.ext HB.out (by (repeat' (first | (with_reducible exact Ext.refl _) | (with_reducible assumption) | (with_reducible refine Ext.alloc ?_ _) | (with_reducible refine Ext.set ?_ ?_ _) | (with_reducible refine Ext.drewN ?_ _) | (with_reducible refine Ext.drew ?_) | (with_reducible refine Ext.trans ?_ (by with_reducible assumption)) | go_size)))))).mono ?_)
    rintro e w3 ⟨rfl, hE3⟩
    have hb03 := Ext.keep hE3 hb0
    cases b0 with
    | true =>
      go_wp2
      go_ret
      exact ⟨ret_int (by rw [HR2.out]; rfl), by (repeat' (first | (with_reducible exact Ext.refl _) | (with_reducible assumption) | (with_reducible refine Ext.alloc ?_ _) | (with_reducible refine Ext.set ?_ ?_ _) | (with_reducible refine Ext.drewN ?_ _) | (with_reducible refine Ext.drew ?_) | (with_reducible refine Ext.trans ?_ (by with_reducible assumption)) | go_size))⟩
    | false =>
      go_wp2_with fail
      (with_reducible refine (c_lpoLess HOK.out HB1.out (RdSig.mk (RI.ext HA.out (by (repeat' (first | (with_reducible exact Ext.refl _) | (with_reducible assumption) | (with_reducible refine Ext.alloc ?_ _) | (with_reducible refine Ext.set ?_ ?_ _) | (with_reducible refine Ext.drewN ?_ _) | (with_reducible refine Ext.drew ?_) | (with_reducible refine Ext.trans ?_ (by with_reducible assumption)) | go_size))))) (RdI.ext H1.out (by (repeat' (first | (with_reducible exact Ext.refl _) | (with_reducible assumption) | (with_reducible refine Ext.alloc ?_ _) | (with_reducible refine Ext.set ?_ ?_ _) | (with_reducible refine Ext.drewN ?_ _) | (with_reducible refine Ext.drew ?_) | (with_reducible refine Ext.trans ?_ (by with_reducible assumption)) | go_size)))) (RdIc.mk HKL.out (RI.ext HD.out (by (repeat' (first | (with_reducible exact Ext.refl _) | (with_reducible assumption) | (with_reducible refine Ext.alloc ?_ _) | (with_reducible refine Ext.set ?_ ?_ _) | (with_reducible refine Ext.drewN ?_ _) | (with_reducible refine Ext.drew ?_) | (with_reducible refine Ext.trans ?_ (by with_reducible assumption)) | go_size))))) (RdIc.mk HMD.out (RI.ext HB.out (by (repeat' (first | (with_reducible exact Ext.refl _) | (with_reducible assumption) | (with_reducible refine Ext.alloc ?_ _) | (with_reducible refine Ext.set ?_ ?_ _) | (with_reducible refine Ext.drewN ?_ _) | (with_reducible refine Ext.drew ?_) | (with_reducible refine Ext.trans ?_ (by with_reducible assumption)) | go_size)))))).mono ?_)
      rintro e w4 ⟨rfl, hE4⟩
      have hb04 := Ext.keep hE4 hb03
      cases b1 with
      | true =>
        go_wp2
        go_ret
        exact ⟨ret_int (by rw [HR2.out]; rfl), by (repeat' (first | (with_reducible exact Ext.refl _) | (with_reducible assumption) | (with_reducible refine Ext.alloc ?_ _) | (with_reducible refine Ext.set ?_ ?_ _) | (with_reducible refine Ext.drewN ?_ _) | (with_reducible refine Ext.drew ?_) | (with_reducible refine Ext.trans ?_ (by with_reducible assumption)) | go_size))⟩
      | false =>
        go_wp2_with fail
        (with_reducible refine (c_lpoLess HOK2.out HB2.out (RdSig.mk (RI.ext HA.out (by (repeat' (first | (with_reducible exact Ext.refl _) | (with_reducible assumption) | (with_reducible refine Ext.alloc ?_ _) | (with_reducible refine Ext.set ?_ ?_ _) | (with_reducible refine Ext.drewN ?_ _) | (with_reducible refine Ext.drew ?_) | (with_reducible refine Ext.trans ?_ (by with_reducible assumption)) | go_size))))) (RdI.ext H1.out (by (repeat' (first | (with_reducible exact Ext.refl _) | (with_reducible assumption) | (with_reducible refine Ext.alloc ?_ _) | (with_reducible refine Ext.set ?_ ?_ _) | (with_reducible refine Ext.drewN ?_ _) | (with_reducible refine Ext.drew ?_) | (with_reducible refine Ext.trans ?_ (by with_reducible assumption)) | go_size)))) (RdIc.mk HMD.out (RI.ext HB.out (by (repeat' (first | (with_reducible exact Ext.refl _) | (with_reducible assumption) | (with_reducible refine Ext.alloc ?_ _) | (with_reducible refine Ext.set ?_ ?_ _) | (with_reducible refine Ext.drewN ?_ _) | (with_reducible refine Ext.drew ?_) | (with_reducible refine Ext.trans ?_ (by with_reducible assumption)) | go_size))))) (RdIc.mk HKL.out (RI.ext HD.out (by (repeat' (first | (with_reducible exact Ext.refl _) | (with_reducible assumption) | (with_reducible refine Ext.alloc ?_ _) | (with_reducible refine Ext.set ?_ ?_ _) | (with_reducible refine Ext.drewN ?_ _) | (with_reducible refine Ext.drew ?_) | (with_reducible refine Ext.trans ?_ (by with_reducible assumption)) | go_size)))))).mono ?_)
        rintro e w5 ⟨rfl, hE5⟩
        cases b2 with
        | true =>
          go_wp2
          go_ret
          exact ⟨ret_int (by rw [HR2.out]; rfl), by (repeat' (first | (with_reducible exact Ext.refl _) | (with_reducible assumption) | (with_reducible refine Ext.alloc ?_ _) | (with_reducible refine Ext.set ?_ ?_ _) | (with_reducible refine Ext.drewN ?_ _) | (with_reducible refine Ext.drew ?_) | (with_reducible refine Ext.trans ?_ (by with_reducible assumption)) | go_size))⟩
        | false =>
          go_wp2
          go_ret
          exact ⟨ret_int (by rw [HR2.out]; rfl), by (repeat' (first | (with_reducible exact Ext.refl _) | (with_reducible assumption) | (with_reducible refine Ext.alloc ?_ _) | (with_reducible refine Ext.set ?_ ?_ _) | (with_reducible refine Ext.drewN ?_ _) | (with_reducible refine Ext.drew ?_) | (with_reducible refine Ext.trans ?_ (by with_reducible assumption)) | go_size))⟩

end Go.Proofs.Ytejmlbcafemieaa
