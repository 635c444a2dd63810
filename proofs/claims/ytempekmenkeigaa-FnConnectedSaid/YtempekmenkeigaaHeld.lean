/- A region that draws its order, walked in one order. -/
import Derived.Test.YtempekmenkeigaaBase
import Derived.Deep.RegionHeld3
namespace Go.Proofs.Ytempekmenkeigaa
open Go.RowKit

/-- wpAnyH_take, the slot given. -/
theorem wpAnyH_take_dst {P : Program} {ops : Array Oper} {Q : Exit → Act → World → Prop} {md : Region.Mode} {S : World → Prop} {i : Nat} {oi : Oper} {v : Value} {d : Option Tmp} {fuel : Nat} {listed : Array Bool} {a : Act} {w : World} (hi : ops[i]? = some oi) (hd : oi.dst = d)
    (hs : Region.noSelect ops = true) (hf : Region.free md ops listed i = true) (hr : (Region.ready md ops listed).contains i = true)
    (hQ : ∀ c a w, Q (.panic c) (a.put d v) w → Q (.panic c) a w) (hy : YieldsIf P ops S oi v a) (hS : S w)
    (h : wpAnyH P md ops Q S fuel (listed.setIfInBounds i true) (a.put d v) w) : wpAnyH P md ops Q S (fuel + 1) listed a w := by
  subst hd; exact wpAnyH_take hi hs hf hr hQ hy hS h

/-- The code comes to its end, and there R holds. -/
def OnlyR (R : Act → World → Prop) : Exit → Act → World → Prop
  | .normal, a, w => R a w
  | _, _, _ => False
theorem wp_only {P : Program} {c : Code} {Q : Exit → Act → World → Prop} {R : Act → Act → World → Prop} {a : Act} {w : World} (h : c.wp P (OnlyR (R a)) a w) (hq : ∀ a' w', R a a' w' → Q .normal a' w') : c.wp P Q a w :=
  Code.wp_mono (fun e a' w' h => by cases e <;> first | exact hq a' w' h | exact h.elim) h

end Go.Proofs.Ytempekmenkeigaa
