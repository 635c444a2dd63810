/- CappedOf of both. -/
import Derived.Test.YthbfngobdnknjaaCapS
import Derived.Test.YthbfngobdnknjaaDepO
import Derived.Test.YthbfngobdnknjaaTermOk
-- rd: RdSyK
namespace Go.Proofs.Ythbfngobdnknjaa
open Go.RowKit
set_option linter.unusedSimpArgs false
set_option linter.unusedVariables false

theorem capV_t {s : Sy} {t : List Int} (h : capOk s t = true) : capV s t = capO s t := by unfold capV; rw [if_pos h]
theorem capV_f {s : Sy} {t : List Int} (h : capOk s t = false) : capV s t = [] := by unfold capV; rw [if_neg (by rw [h]; simp)]
theorem capGo_len (s : Sy) (t : List Int) : ∀ n p f, (capGo s t n p f).1.length ≤ n
  | 0, _, _ => Nat.le_refl _
  | n + 1, p, f => by
    cases hx : t[p]? with
    | none => unfold capGo; rw [hx]; simp
    | some x =>
      cases hf : freshAt s p x with
      | true => rw [capGo_fresh hx hf]; have := capGo_len s t n (p + (subT s.ar t p).flat.length) (f + 1); simp only [List.length_cons]; omega
      | false => rw [capGo_kept hx hf]; have := capGo_len s t n (p + 1) f; simp only [List.length_cons]; omega
theorem capO_len (s : Sy) (t : List Int) : (capO s t).length ≤ t.length := capGo_len s t _ _ _
theorem OwI.none_ (w : World) (D : Nat) : OwI w D none 0 0 [] := ⟨by omega, World.ownsRow_nil _ _ _ _⟩
theorem c_iTermOk' {v0 v1 : Value} {ar t : List Int} {w : World} {b : Bool} (hb : termOk ar t = b) (h0 : RdSig w v0 ar) (h1 : RdI w v1 t) :
    Calls Try.prog 78 #[v0, v1] w fun e w' => e = .returned (.bool b) ∧ Ext w w' :=
  (c_iTermOk h0 h1).mono fun _ _ ⟨he, hw⟩ => ⟨he.trans (ret_bool hb), hw⟩
theorem c_sTermOk' {v0 v1 : Value} {ar t : List Int} {w : World} {b : Bool} (hb : termOk ar t = b) (h0 : RdSig w v0 ar) (h1 : RdI w v1 t) :
    Calls Try.prog 59 #[v0, v1] w fun e w' => e = .returned (.bool b) ∧ Ext w w' :=
  (c_sTermOk h0 h1).mono fun _ _ ⟨he, hw⟩ => ⟨he.trans (ret_bool hb), hw⟩
def NewCp (w : World) (s : Sy) (t : List Int) (e : Ending) (w' : World) : Prop := ∃ A n c, e = .returned (.tuple #[.slice A n c, .bool (capOk s t)]) ∧ OwI w' w.heap.size A n c (capV s t) ∧ Ext w w'
def NewCq (w : World) (s : Sy) (t : List Int) (e : Ending) (w' : World) : Prop := ∃ A n c, e = .returned (.tuple #[.slice A n c, .bool (capOk s t)]) ∧ RI w' A n (capV s t) ∧ Ext w w'

end Go.Proofs.Ythbfngobdnknjaa
