/- The reference: parts of terms, and where arguments begin. -/
import Derived.Test.YtlcneilmnbnedaaStp
namespace Go.Proofs.Ytlcneilmnbnedaa
open Go.RowKit
set_option linter.unusedSimpArgs false
set_option linter.unusedVariables false

theorem c_l1ThereA {v : Value} {t : List Int} {x : Int} {w : World} (hx : 0 ≤ x ∧ x < t.length) (h1 : RdI w v t) :
    Calls Try.prog 38 #[v, .int .i64 x] w fun e w' => e = .returned (.bool true) ∧ Ext w w' := by
  obtain ⟨A, n, c, rfl, ha⟩ := h1
  have hn := ha.le
  have hl := ha.len
  have h : 0 ≤ x ∧ x ≤ (n : Int) - 1 := by omega
  go_enter Try.func38, Try.ntmps38
  go_wp2_with fail
  (with_reducible refine (q_l1In_t h).mono ?_)
  rintro e w2 ⟨rfl, rfl⟩
  go_wp2
  go_ret
  exact ⟨rfl, Ext.refl _⟩
theorem c_sTermOkA {v0 v1 : Value} {ar t : List Int} {w : World} (ht : TermP ar t) (h0 : RdSig w v0 ar) (h1 : RdI w v1 t) :
    Calls Try.prog 37 #[v0, v1] w fun e w' => e = .returned (.bool true) ∧ Ext w w' := by rw [← termOk_iff.2 ht]; exact c_sTermOk h0 h1
set_option maxRecDepth 100000 in
set_option maxHeartbeats 2000000 in
theorem c_SubAtA {v0 : Value} {ar t us : List Int} {p : Nat} {A : Option Addr} {n c : Nat} {w : World} (hu : us = (subT ar t p).flat) (h0 : RdSig w v0 ar) (h1 : RI w A n t) (hc : n ≤ c ∧ c ≤ 9223372036854775807) (ht : TermP ar t) (hp : p < t.length) :
    Calls Try.prog 11 #[v0, .slice A n c, .int .i64 (p : Int)] w (NewI w us) := by
  subst hu
  obtain ⟨D, q, l, rfl, hd⟩ := h0
  have HD := Lib.hid hd
  have HA := Lib.hid h1
  have HT := Lib.hid ht
  have HP := Lib.hid hp
  have HX := Lib.hid (show (0 : Int) ≤ (p : Int) ∧ (p : Int) < t.length by omega)
  clear hd h1 ht hp
  go_enter Try.func11, Try.ntmps11
  go_wp2_with fail
  (with_reducible refine (c_sTermOkA HT.out (RdSig.mk (RI.ext HD.out (by exact extX))) (RdI.mk (RI.ext HA.out (by exact extX)))).mono ?_)
  rintro e w2 ⟨rfl, hE2⟩
  go_wp2_with fail
  (with_reducible refine (c_l1ThereA HX.out (RdI.mk (RI.ext HA.out (by exact extX)))).mono ?_)
  rintro e w3 ⟨rfl, hE3⟩
  have hb3 : w3.cell? ⟨w.heap.size, 0, none⟩ = some (.slice D q l) := Ext.keep hE3 (Ext.keep hE2 (by simp [go_sem]))
  go_wp2_with fail
  (with_reducible refine (c_l1SubT (RdSig.mk (RI.ext HD.out (by exact extX))) (RI.ext HA.out (by exact extX)) hc HT.out HP.out).mono ?_)
  rintro e w4 ⟨A4, n4, c4, rfl, hO4, hE4⟩
  have hs2 := hE2.size
  have hs3 := hE3.size
  simp only [World.size_alloc] at hs2
  have HO4 := Lib.hid (hO4.lower (B' := w.heap.size) (by omega))
  clear hO4
  go_wp2
  go_ret
  exact ⟨_, _, _, rfl, HO4.out, by exact extX⟩
theorem flatL_lenA : ∀ (us : List Tm), us.length ≤ (flatL us).length
  | [] => Nat.zero_le _
  | a :: us => by rw [flatL_cons, List.length_cons, List.length_append]; have := flat_pos a; have := flatL_lenA us; omega

end Go.Proofs.Ytlcneilmnbnedaa
