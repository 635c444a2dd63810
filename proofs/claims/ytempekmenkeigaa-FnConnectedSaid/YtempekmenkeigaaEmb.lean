/- The reference: where a term lies in another one; defined symbols. -/
import Derived.Test.YtempekmenkeigaaSubA
import Derived.Test.YtempekmenkeigaaDepS
namespace Go.Proofs.Ytempekmenkeigaa
open Go.RowKit
set_option linter.unusedSimpArgs false
set_option linter.unusedVariables false

theorem fill_self : ∀ (t : List Int), fill (fun x => [x]) t = t
  | [] => rfl
  | x :: t => by rw [fill_cons, fill_self t]; split <;> rfl
theorem inst_refl (ar t : List Int) : InstP ar t t := ⟨fun x => [x], fun x _ hx => ⟨.node x [], Ok_node.2 ⟨by rw [arI_var hx]; rfl, by simp [OkL]⟩, by rw [flat_node, flatL_nil]⟩, fill_self t⟩
/-- Places found so far. -/
structure EmbTo (ar P T : List Int) (k : Nat) (ys : List Int) : Prop where
  lt : ∀ y ∈ ys, ∃ j : Nat, y = (j : Int) ∧ j < k
  all : ∀ j : Nat, j < k → InstP ar P (subT ar T j).flat → (j : Int) ∈ ys
theorem EmbTo.no {ar P T ys : List Int} {k : Nat} (h : EmbTo ar P T k ys) (hn : ¬ InstP ar P (subT ar T k).flat) : EmbTo ar P T (k + 1) ys :=
  ⟨fun y hy => by obtain ⟨j, e, hj⟩ := h.lt y hy; exact ⟨j, e, by omega⟩, fun j hj hi => by
    rcases Nat.lt_or_ge j k with h1 | h1
    · exact h.all j h1 hi
    · obtain rfl : j = k := by omega
      exact absurd hi hn⟩
theorem EmbTo.yes {ar P T ys : List Int} {k : Nat} (h : EmbTo ar P T k ys) : EmbTo ar P T (k + 1) (ys ++ [(k : Int)]) :=
  ⟨fun y hy => by
    rcases List.mem_append.1 hy with hy | hy
    · obtain ⟨j, e, hj⟩ := h.lt y hy; exact ⟨j, e, by omega⟩
    · rw [List.mem_singleton] at hy; exact ⟨k, hy, by omega⟩, fun j hj hi => by
    rcases Nat.lt_or_ge j k with h1 | h1
    · exact List.mem_append_left _ (h.all j h1 hi)
    · obtain rfl : j = k := by omega
      exact List.mem_append_right _ (List.mem_singleton.2 rfl)⟩
def NewEm (w : World) (P T ar : List Int) (e : Ending) (w' : World) : Prop := ∃ (A : Option Addr) (n c : Nat) (ys : List Int), e = .returned (.slice A n c) ∧ RI w' A n ys ∧ n ≤ 60 ∧ EmbTo ar P T T.length ys ∧ Ext w w'

end Go.Proofs.Ytempekmenkeigaa
