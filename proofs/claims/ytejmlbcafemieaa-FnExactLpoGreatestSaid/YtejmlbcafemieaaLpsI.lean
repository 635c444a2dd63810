/- LpoWhy, LpoLess, MpoLess, LpoCompare of the reference. -/
import Derived.Test.YtejmlbcafemieaaLpsB
import Derived.Test.YtejmlbcafemieaaLpoI
namespace Go.Proofs.Ytejmlbcafemieaa
open Go.RowKit
set_option linter.unusedSimpArgs false
set_option linter.unusedVariables false

theorem c_sRankOk2 {v0 v1 : Value} {ar rk : List Int} {b : Bool} {w : World} (hb : rankOk ar rk = b) (h0 : RdSig w v0 ar) (h1 : RdI w v1 rk) :
    Calls Try.prog 50 #[v0, v1] w fun e w' => e = .returned (.bool b) ∧ Ext w w' := by subst hb; exact c_sRankOk h0 h1
theorem c_sTermOk2 {v0 v1 : Value} {ar t : List Int} {b : Bool} {w : World} (hb : termOk ar t = b) (h0 : RdSig w v0 ar) (h1 : RdI w v1 t) :
    Calls Try.prog 51 #[v0, v1] w fun e w' => e = .returned (.bool b) ∧ Ext w w' := by subst hb; exact c_sTermOk h0 h1
theorem c_SameTermB {v0 v1 : Value} {xs ys : List Int} {b : Bool} {w : World} (hb : (xs == ys) = b) (h0 : RdI w v0 xs) (h1 : RdI w v1 ys) :
    Calls Try.prog 117 #[v0, v1] w fun e w' => e = .returned (.bool b) ∧ Ext w w' := by subst hb; exact c_SameTerm h0 h1
set_option maxRecDepth 100000 in
set_option maxHeartbeats 1000000 in
theorem c_l13Right {v0 v1 v2 v3 : Value} {ar rk s t : List Int} {b : Bool} {w : World} (hb : lpoArgs ar rk s t = b) (h0 : RdSig w v0 ar) (h1 : RdI w v1 rk) (h2 : RdI w v2 s) (h3 : RdI w v3 t) :
    Calls Try.prog 57 #[v0, v1, v2, v3] w fun e w' => e = .returned (.bool b) ∧ Ext w w' := by
  obtain ⟨A, n, c, rfl, ha⟩ := h0
  obtain ⟨x, hx⟩ : ∃ x, rankOk ar rk = x := ⟨_, rfl⟩
  obtain ⟨y, hy⟩ : ∃ y, termOk ar s = y := ⟨_, rfl⟩
  obtain ⟨z, hz⟩ : ∃ z, termOk ar t = z := ⟨_, rfl⟩
  have HR := Lib.hid (show b = ((y && z) && x) by rw [← hb]; unfold lpoArgs; rw [hx, hy, hz])
  have HX := Lib.hid hx
  have HY := Lib.hid hy
  have HZ := Lib.hid hz
  have HA := Lib.hid ha
  have H1 := Lib.hid h1
  have H2 := Lib.hid h2
  have H3 := Lib.hid h3
  clear ha h1 h2 h3 hb hx hy hz
  go_enter Try.func57, Try.ntmps57
  go_wp2_with fail
  (with_reducible refine (c_sRankOk2 HX.out (RdSig.mk (RI.ext HA.out (by (repeat' (first | (with_reducible exact Ext.refl _) | (with_reducible assumption) | (with_reducible refine Ext.alloc ?_ _) | (with_reducible refine Ext.set ?_ ?_ _) | (with_reducible refine Ext.drewN ?_ _) | (with_reducible refine Ext.drew ?_) | (with_reducible refine Ext.trans ?_ (by with_reducible assumption)) | go_size))))) (RdI.ext H1.out (by (repeat' (first | (with_reducible exact Ext.refl _) | (with_reducible assumption) | (with_reducible refine Ext.alloc ?_ _) | (with_reducible refine Ext.set ?_ ?_ _) | (with_reducible refine Ext.drewN ?_ _) | (with_reducible refine Ext.drew ?_) | (with_reducible refine Ext.trans ?_ (by with_reducible assumption)) | go_size))))).mono ?_)
  rintro e w1 ⟨rfl, hE1⟩
  have hb1 : w1.cell? ⟨w.heap.size, 0, none⟩ = some (.slice A n c) := Ext.keep hE1 (by simp [go_sem])
  cases x with
  | false =>
    go_wp2
    go_ret
    exact ⟨ret_bool (by rw [HR.out]; simp), by (repeat' (first | (with_reducible exact Ext.refl _) | (with_reducible assumption) | (with_reducible refine Ext.alloc ?_ _) | (with_reducible refine Ext.set ?_ ?_ _) | (with_reducible refine Ext.drewN ?_ _) | (with_reducible refine Ext.drew ?_) | (with_reducible refine Ext.trans ?_ (by with_reducible assumption)) | go_size))⟩
  | true =>
    go_wp2_with fail
    (with_reducible refine (c_sTermOk2 HY.out (RdSig.mk (RI.ext HA.out (by (repeat' (first | (with_reducible exact Ext.refl _) | (with_reducible assumption) | (with_reducible refine Ext.alloc ?_ _) | (with_reducible refine Ext.set ?_ ?_ _) | (with_reducible refine Ext.drewN ?_ _) | (with_reducible refine Ext.drew ?_) | (with_reducible refine Ext.trans ?_ (by with_reducible assumption)) | go_size))))) (RdI.ext H2.out (by (repeat' (first | (with_reducible exact Ext.refl _) | (with_reducible assumption) | (with_reducible refine Ext.alloc ?_ _) | (with_reducible refine Ext.set ?_ ?_ _) | (with_reducible refine Ext.drewN ?_ _) | (with_reducible refine Ext.drew ?_) | (with_reducible refine Ext.trans ?_ (by with_reducible assumption)) | go_size))))).mono ?_)
    rintro e w2 ⟨rfl, hE2⟩
    have hb2 := Ext.keep hE2 hb1
    cases y with
    | false =>
      go_wp2
      go_ret
      exact ⟨ret_bool (by rw [HR.out]; simp), by (repeat' (first | (with_reducible exact Ext.refl _) | (with_reducible assumption) | (with_reducible refine Ext.alloc ?_ _) | (with_reducible refine Ext.set ?_ ?_ _) | (with_reducible refine Ext.drewN ?_ _) | (with_reducible refine Ext.drew ?_) | (with_reducible refine Ext.trans ?_ (by with_reducible assumption)) | go_size))⟩
    | true =>
      go_wp2_with fail
      (with_reducible refine (c_sTermOk2 HZ.out (RdSig.mk (RI.ext HA.out (by (repeat' (first | (with_reducible exact Ext.refl _) | (with_reducible assumption) | (with_reducible refine Ext.alloc ?_ _) | (with_reducible refine Ext.set ?_ ?_ _) | (with_reducible refine Ext.drewN ?_ _) | (with_reducible refine Ext.drew ?_) | (with_reducible refine Ext.trans ?_ (by with_reducible assumption)) | go_size))))) (RdI.ext H3.out (by (repeat' (first | (with_reducible exact Ext.refl _) | (with_reducible assumption) | (with_reducible refine Ext.alloc ?_ _) | (with_reducible refine Ext.set ?_ ?_ _) | (with_reducible refine Ext.drewN ?_ _) | (with_reducible refine Ext.drew ?_) | (with_reducible refine Ext.trans ?_ (by with_reducible assumption)) | go_size))))).mono ?_)
      rintro e w3 ⟨rfl, hE3⟩
      go_wp2
      go_ret
      exact ⟨ret_bool (by rw [HR.out]; simp), by (repeat' (first | (with_reducible exact Ext.refl _) | (with_reducible assumption) | (with_reducible refine Ext.alloc ?_ _) | (with_reducible refine Ext.set ?_ ?_ _) | (with_reducible refine Ext.drewN ?_ _) | (with_reducible refine Ext.drew ?_) | (with_reducible refine Ext.trans ?_ (by with_reducible assumption)) | go_size))⟩
theorem c_l13Why' {v0 v1 v2 v3 : Value} {ar rk s t : List Int} {V : Nat} {w : World} (hok : lpoArgs ar rk s t = true) (hV : V = lpoA ar rk true s t) (h0 : RdSig w v0 ar) (h1 : RdI w v1 rk) (h2 : RdIc w v2 s) (h3 : RdIc w v3 t) :
    Calls Try.prog 52 #[v0, v1, v2, v3] w fun e w' => e = .returned (.int .i64 (V : Int)) ∧ Ext w w' := by
  obtain ⟨A, n, c, rfl, ha⟩ := h0
  obtain ⟨R, rn, rc, rfl, hr⟩ := h1
  obtain ⟨D, k, l, rfl, hkl, hd⟩ := h2
  obtain ⟨B, m, d, rfl, hmd, hb⟩ := h3
  obtain ⟨⟨g1, g2⟩, g3, g4, g5⟩ := lpoArgs_iff.1 hok
  subst hV
  exact c_l13Why g3 g4 g2 g1 ha hr hb hd hmd hkl
theorem c_l13Bag' {v0 v1 v2 v3 : Value} {ar rk s t : List Int} {b : Bool} {w : World} (hok : lpoArgs ar rk s t = true) (hb : decide (0 < lpoA ar rk false s t) = b) (h0 : RdSig w v0 ar) (h1 : RdI w v1 rk) (h2 : RdIc w v2 s) (h3 : RdIc w v3 t) :
    Calls Try.prog 58 #[v0, v1, v2, v3] w fun e w' => e = .returned (.bool b) ∧ Ext w w' := by
  obtain ⟨A, n, c, rfl, ha⟩ := h0
  obtain ⟨R, rn, rc, rfl, hr⟩ := h1
  obtain ⟨D, k, l, rfl, hkl, hd⟩ := h2
  obtain ⟨B, m, d, rfl, hmd, hbb⟩ := h3
  obtain ⟨⟨g1, g2⟩, g3, g4, g5⟩ := lpoArgs_iff.1 hok
  subst hb
  exact c_l13Bag g3 g4 g2 g1 ha hr hbb hd hmd hkl
set_option maxRecDepth 100000 in
set_option maxHeartbeats 2000000 in
theorem c_sMpoLess {v0 v1 v2 v3 : Value} {ar rk s t : List Int} {w : World} (h0 : RdSig w v0 ar) (h1 : RdI w v1 rk) (h2 : RdIc w v2 s) (h3 : RdIc w v3 t) :
    Calls Try.prog 19 #[v0, v1, v2, v3] w fun e w' => e = .returned (.bool (mpoLessV ar rk s t)) ∧ Ext w w' := by
  obtain ⟨A, n, c, rfl, ha⟩ := h0
  have HA := Lib.hid ha
  have H1 := Lib.hid h1
  have H2 := Lib.hid h2
  have H3 := Lib.hid h3
  clear ha h1 h2 h3
  cases hok : lpoArgs ar rk s t with
  | false =>
    have HOK := Lib.hid hok
    have HR := Lib.hid (show mpoLessV ar rk s t = false by unfold mpoLessV; rw [hok]; rfl)
    clear hok
    go_enter Try.func19, Try.ntmps19
    go_wp2_with fail
    (with_reducible refine (c_l13Right HOK.out (RdSig.mk (RI.ext HA.out (by (repeat' (first | (with_reducible exact Ext.refl _) | (with_reducible assumption) | (with_reducible refine Ext.alloc ?_ _) | (with_reducible refine Ext.set ?_ ?_ _) | (with_reducible refine Ext.drewN ?_ _) | (with_reducible refine Ext.drew ?_) | (with_reducible refine Ext.trans ?_ (by with_reducible assumption)) | go_size))))) (RdI.ext H1.out (by (repeat' (first | (with_reducible exact Ext.refl _) | (with_reducible assumption) | (with_reducible refine Ext.alloc ?_ _) | (with_reducible refine Ext.set ?_ ?_ _) | (with_reducible refine Ext.drewN ?_ _) | (with_reducible refine Ext.drew ?_) | (with_reducible refine Ext.trans ?_ (by with_reducible assumption)) | go_size)))) (RdI.ext (RdIc.rd H2.out) (by (repeat' (first | (with_reducible exact Ext.refl _) | (with_reducible assumption) | (with_reducible refine Ext.alloc ?_ _) | (with_reducible refine Ext.set ?_ ?_ _) | (with_reducible refine Ext.drewN ?_ _) | (with_reducible refine Ext.drew ?_) | (with_reducible refine Ext.trans ?_ (by with_reducible assumption)) | go_size)))) (RdI.ext (RdIc.rd H3.out) (by (repeat' (first | (with_reducible exact Ext.refl _) | (with_reducible assumption) | (with_reducible refine Ext.alloc ?_ _) | (with_reducible refine Ext.set ?_ ?_ _) | (with_reducible refine Ext.drewN ?_ _) | (with_reducible refine Ext.drew ?_) | (with_reducible refine Ext.trans ?_ (by with_reducible assumption)) | go_size))))).mono ?_)
    rintro e w2 ⟨rfl, hE2⟩
    have hb0 : w2.cell? ⟨w.heap.size, 0, none⟩ = some (.slice A n c) := Ext.keep hE2 (by simp [go_sem])
    go_wp2
    go_ret
    exact ⟨ret_bool HR.out.symm, by (repeat' (first | (with_reducible exact Ext.refl _) | (with_reducible assumption) | (with_reducible refine Ext.alloc ?_ _) | (with_reducible refine Ext.set ?_ ?_ _) | (with_reducible refine Ext.drewN ?_ _) | (with_reducible refine Ext.drew ?_) | (with_reducible refine Ext.trans ?_ (by with_reducible assumption)) | go_size))⟩
  | true =>
    have HOK := Lib.hid hok
    have HR := Lib.hid (show mpoLessV ar rk s t = decide (0 < lpoA ar rk false s t) by unfold mpoLessV; rw [hok]; rfl)
    clear hok
    obtain ⟨b, hb⟩ : ∃ b, decide (0 < lpoA ar rk false s t) = b := ⟨_, rfl⟩
    rw [hb] at HR
    have HBB := Lib.hid hb
    clear hb
    go_enter Try.func19, Try.ntmps19
    go_wp2_with fail
    (with_reducible refine (c_l13Right HOK.out (RdSig.mk (RI.ext HA.out (by (repeat' (first | (with_reducible exact Ext.refl _) | (with_reducible assumption) | (with_reducible refine Ext.alloc ?_ _) | (with_reducible refine Ext.set ?_ ?_ _) | (with_reducible refine Ext.drewN ?_ _) | (with_reducible refine Ext.drew ?_) | (with_reducible refine Ext.trans ?_ (by with_reducible assumption)) | go_size))))) (RdI.ext H1.out (by (repeat' (first | (with_reducible exact Ext.refl _) | (with_reducible assumption) | (with_reducible refine Ext.alloc ?_ _) | (with_reducible refine Ext.set ?_ ?_ _) | (with_reducible refine Ext.drewN ?_ _) | (with_reducible refine Ext.drew ?_) | (with_reducible refine Ext.trans ?_ (by with_reducible assumption)) | go_size)))) (RdI.ext (RdIc.rd H2.out) (by (repeat' (first | (with_reducible exact Ext.refl _) | (with_reducible assumption) | (with_reducible refine Ext.alloc ?_ _) | (with_reducible refine Ext.set ?_ ?_ _) | (with_reducible refine Ext.drewN ?_ _) | (with_reducible refine Ext.drew ?_) | (with_reducible refine Ext.trans ?_ (by with_reducible assumption)) | go_size)))) (RdI.ext (RdIc.rd H3.out) (by (repeat' (first | (with_reducible exact Ext.refl _) | (with_reducible assumption) | (with_reducible refine Ext.alloc ?_ _) | (with_reducible refine Ext.set ?_ ?_ _) | (with_reducible refine Ext.drewN ?_ _) | (with_reducible refine Ext.drew ?_) | (with_reducible refine Ext.trans ?_ (by with_reducible assumption)) | go_size))))).mono ?_)
    rintro e w2 ⟨rfl, hE2⟩
    have hb0 : w2.cell? ⟨w.heap.size, 0, none⟩ = some (.slice A n c) := Ext.keep hE2 (by simp [go_sem])
    go_wp2_with fail
    (with_reducible refine (c_l13Bag' HOK.out HBB.out (RdSig.mk (RI.ext HA.out (by (repeat' (first | (with_reducible exact Ext.refl _) | (with_reducible assumption) | (with_reducible refine Ext.alloc ?_ _) | (with_reducible refine Ext.set ?_ ?_ _) | (with_reducible refine Ext.drewN ?_ _) | (with_reducible refine Ext.drew ?_) | (with_reducible refine Ext.trans ?_ (by with_reducible assumption)) | go_size))))) (RdI.ext H1.out (by (repeat' (first | (with_reducible exact Ext.refl _) | (with_reducible assumption) | (with_reducible refine Ext.alloc ?_ _) | (with_reducible refine Ext.set ?_ ?_ _) | (with_reducible refine Ext.drewN ?_ _) | (with_reducible refine Ext.drew ?_) | (with_reducible refine Ext.trans ?_ (by with_reducible assumption)) | go_size)))) (RdIc.ext H2.out (by (repeat' (first | (with_reducible exact Ext.refl _) | (with_reducible assumption) | (with_reducible refine Ext.alloc ?_ _) | (with_reducible refine Ext.set ?_ ?_ _) | (with_reducible refine Ext.drewN ?_ _) | (with_reducible refine Ext.drew ?_) | (with_reducible refine Ext.trans ?_ (by with_reducible assumption)) | go_size)))) (RdIc.ext H3.out (by (repeat' (first | (with_reducible exact Ext.refl _) | (with_reducible assumption) | (with_reducible refine Ext.alloc ?_ _) | (with_reducible refine Ext.set ?_ ?_ _) | (with_reducible refine Ext.drewN ?_ _) | (with_reducible refine Ext.drew ?_) | (with_reducible refine Ext.trans ?_ (by with_reducible assumption)) | go_size))))).mono ?_)
    rintro e w3 ⟨rfl, hE3⟩
    go_wp2
    go_ret
    exact ⟨ret_bool HR.out.symm, by (repeat' (first | (with_reducible exact Ext.refl _) | (with_reducible assumption) | (with_reducible refine Ext.alloc ?_ _) | (with_reducible refine Ext.set ?_ ?_ _) | (with_reducible refine Ext.drewN ?_ _) | (with_reducible refine Ext.drew ?_) | (with_reducible refine Ext.trans ?_ (by with_reducible assumption)) | go_size))⟩

end Go.Proofs.Ytejmlbcafemieaa
