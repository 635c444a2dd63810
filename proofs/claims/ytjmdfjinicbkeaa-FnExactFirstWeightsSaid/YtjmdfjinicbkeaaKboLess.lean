/- KboLess and KboWhy of the program. -/
import Derived.Test.YtjmdfjinicbkeaaKbo
-- rd: RdWt
namespace Go.Proofs.Ytjmdfjinicbkeaa
open Go.RowKit
set_option linter.unusedSimpArgs false
set_option linter.unusedVariables false

theorem c_whyN {ar : List Int} {W : Wt} (hs : SigP ar) (hW : WtP ar W) : ∀ (N : Nat) (u v : Tm), u.flat.length ≤ N → u.Ok ar → v.Ok ar → WhyI ar W u v
  | 0, u, v, h, _, _ => by have := flat_pos u; omega
  | N + 1, .node x us, .node y ts, h, hu, hv => c_why hs hW hu hv fun a ha b hb =>
      c_whyN hs hW N a b (by have := mem_flatL_len ha; rw [flat_node, List.length_cons] at h; omega) (OkL_iff.1 (Ok_node.1 hu).2 a ha) (OkL_iff.1 (Ok_node.1 hv).2 b hb)
theorem c_why_ok {v0 v1 v2 v3 : Value} {ar : List Int} {W : Wt} {s t : List Int} {w : World} (hs : SigP ar) (hW : WtP ar W) (ht1 : TermP ar s) (ht2 : TermP ar t) (h0 : RdWt w v0 W) (h1 : RdSig w v1 ar) (h2 : RdIc w v2 s) (h3 : RdIc w v3 t) :
    Calls Try.prog 101 #[v0, v1, v2, v3] w fun e w' => e = .returned (.int .i64 (kbo ar W (tmOf ar s) (tmOf ar t))) ∧ Ext w w' := by
  obtain ⟨a1, a2⟩ := tmOf_ok ht1
  obtain ⟨b1, b2⟩ := tmOf_ok ht2
  exact c_whyN hs hW _ (tmOf ar s) (tmOf ar t) (Nat.le_refl _) a1 b1 _ _ _ _ _ h0 h1 (by rw [a2]; exact h2) (by rw [b2]; exact h3)
noncomputable def kboArgs (ar : List Int) (W : Wt) (s t : List Int) : Bool := wtOk ar W && termOk ar s && termOk ar t
theorem kboArgs_iff {ar : List Int} {W : Wt} {s t : List Int} : kboArgs ar W s t = true ↔ wtOk ar W = true ∧ termOk ar s = true ∧ termOk ar t = true := by
  unfold kboArgs; rw [Bool.and_eq_true, Bool.and_eq_true, and_assoc]
theorem kboAns_f {ar : List Int} {W : Wt} {s t : List Int} (h : kboArgs ar W s t = false) : kboAns ar W s t = 0 := by
  unfold kboAns; rw [if_neg]; intro h2; rw [kboArgs_iff.2 h2] at h; cases h
theorem kboAns_t {ar : List Int} {W : Wt} {s t : List Int} (h : kboArgs ar W s t = true) : kboAns ar W s t = kbo ar W (tmOf ar s) (tmOf ar t) := by
  unfold kboAns; rw [if_pos (kboArgs_iff.1 h)]
noncomputable def kboLess (ar : List Int) (W : Wt) (s t : List Int) : Bool := decide (0 < kboAns ar W s t)

end Go.Proofs.Ytjmdfjinicbkeaa
