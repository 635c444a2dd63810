/- Systems whose rules all go down in a path order. -/
import Derived.Test.YtleahogikppepaaMLpoA
import Derived.Test.YtleahogikppepaaMSys
namespace Go.Proofs.Ytleahogikppepaa

/-- All rules go down. -/
def LpAll (lex : Bool) (s : Sy) (rk : List Int) : Prop := ∀ (j : Nat) (r : Ru), s.rs[j]? = some r → lpoA s.ar rk lex r.r r.l ≠ 0
noncomputable def lpAll (lex : Bool) (s : Sy) (rk : List Int) : Bool := @decide (LpAll lex s rk) (Classical.propDecidable _)
theorem lpAll_f {lex : Bool} {s : Sy} {rk : List Int} {j : Nat} {r : Ru} (hr : s.rs[j]? = some r) (h : lpoA s.ar rk lex r.r r.l = 0) : lpAll lex s rk = false := by
  simp only [lpAll, decide_eq_false_iff_not]; exact fun a => a j r hr h
theorem lpAll_t {lex : Bool} {s : Sy} {rk : List Int} (h : ∀ (j : Nat) (r : Ru), j < s.rs.length → s.rs[j]? = some r → lpoA s.ar rk lex r.r r.l ≠ 0) : lpAll lex s rk = true := by
  simp only [lpAll, decide_eq_true_eq]; exact fun j r hr => h j r (List.getElem?_eq_some_iff.1 hr).1 hr
noncomputable def orientsV (lex : Bool) (s : Sy) (rk : List Int) : Bool := sysOk s && rankOk s.ar rk && lpAll lex s rk
theorem orientsV_sys {lex : Bool} {s : Sy} {rk : List Int} (h : sysOk s = false) : orientsV lex s rk = false := by unfold orientsV; rw [h]; rfl
theorem orientsV_rank {lex : Bool} {s : Sy} {rk : List Int} (h : sysOk s = true) (h2 : rankOk s.ar rk = false) : orientsV lex s rk = false := by unfold orientsV; rw [h, h2]; rfl
theorem orientsV_all {lex : Bool} {s : Sy} {rk : List Int} (h : sysOk s = true) (h2 : rankOk s.ar rk = true) : orientsV lex s rk = lpAll lex s rk := by unfold orientsV; rw [h, h2]; rfl
/-- The sides of a rule of a right system are right terms of a right precedence. -/
theorem lpoArgs_rule {s : Sy} {rk : List Int} {j : Nat} {r : Ru} (hs : SysP s) (hk : rankOk s.ar rk = true) (hr : s.rs[j]? = some r) : lpoArgs s.ar rk r.r r.l = true := by
  have h := hs.2.2 j r hr
  have h2 := rankOk_iff.1 hk
  exact lpoArgs_iff.2 ⟨⟨h.2.1, h.1⟩, hs.1, h2.2.1, hk⟩

end Go.Proofs.Ytleahogikppepaa
