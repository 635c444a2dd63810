/- A variable inside of symbols without weight; subterms. -/
import Derived.Test.YtempekmenkeigaaParts
import Derived.Test.YtempekmenkeigaaWeigh
-- rd: RdWt
namespace Go.Proofs.Ytempekmenkeigaa
open Go.RowKit
set_option linter.unusedSimpArgs false
set_option linter.unusedVariables false

set_option maxHeartbeats 1000000 in
theorem c_subAt {v0 v1 : Value} {ar t rest : List Int} {p : Nat} {u : Tm} {w : World} (h0 : RdSig w v0 ar) (h1 : RdIc w v1 t) (hs : SigP ar) (hu : u.Ok ar) (hd : t.drop p = u.flat ++ rest) :
    Calls Try.prog 84 #[v0, v1, .int .i64 (p : Int)] w fun e w' => ∃ A n c, e = .returned (.slice A n c) ∧ (n ≤ c ∧ c ≤ 9223372036854775807) ∧ RI w' A n u.flat ∧ Ext w w' := by
  obtain ⟨A, n, c, rfl, ha⟩ := h0
  obtain ⟨B, m, d, rfl, ⟨hmd, hd0⟩, hb⟩ := h1
  have hm := hb.le
  have hml := hb.len
  have hpl := drop_lt hd (flat_pos u)
  have hul := flat_pos u
  obtain ⟨b, o, x, rfl, hx, hcx⟩ := RI.at_ hb (show 0 < m by omega)
  have HSUB := Lib.hid (RI.sub hb hd)
  have HA := Lib.hid ha
  have HB := Lib.hid hb
  have HS := Lib.hid hs
  have HU := Lib.hid hu
  have HD := Lib.hid hd
  have hpm : p + u.flat.length ≤ m := by omega
  clear ha hb hs hu hd hx
  go_enter Try.func84, Try.ntmps84
  go_wp2_with (go_at_call 88; (with_reducible refine (c_endAt_flat (u := u) (RdSig.mk (RI.ext HA.out (by exact extX))) (RdI.mk (RI.ext HB.out (by exact extX))) HS.out HU.out HD.out).mono ?_); rintro e w2 ⟨rfl, hE2⟩)
  go_ret
  exact ⟨_, _, _, rfl, ⟨by omega, by omega⟩, by rw [show p + u.flat.length - p = u.flat.length by omega]; exact RI.ext HSUB.out (by exact extX), by exact extX⟩
theorem c_subAt' {v0 v1 : Value} {ar t rest : List Int} {p : Nat} {P : Int} {u : Tm} {w : World} (h0 : RdSig w v0 ar) (h1 : RdIc w v1 t) (hs : SigP ar) (hu : u.Ok ar) (hd : t.drop p = u.flat ++ rest) (hP : P = (p : Int)) :
    Calls Try.prog 84 #[v0, v1, .int .i64 P] w fun e w' => ∃ A n c, e = .returned (.slice A n c) ∧ (n ≤ c ∧ c ≤ 9223372036854775807) ∧ RI w' A n u.flat ∧ Ext w w' := by
  subst hP; exact c_subAt h0 h1 hs hu hd

end Go.Proofs.Ytempekmenkeigaa
