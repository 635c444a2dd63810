/-
  No cell of these rows narrows 'for every input' (looked for: loops, veiled, ifaces, maps, wideKeys, modest, calm, conditions, laid).
  DERIVED. THE GIVEN ROWS OF THIS SEAT. 6 by the template 'for every input the law returns true; each argument reads behind the call as it read before'; 0 by the template 'total and deterministic' (their statements: YthbfngobdnknjaaTotals.lean).
  GIVEN WITH THE SEED: the statements are not yours to turn. If you find one false, say at which input.
  Laid BY PROGRAM, IN A SANDBOX (cutbox-rows.mjs): the forced cells as the released guide's own fill.sh prints them over the translation c78c8ccc37204644… (all of the seat's roots in one cut). By AI agents, Wed Nov 11 2026. No macro, syntax, notation, axiom, sorry.
-/
import Derived.Test.YthbfngobdnknjaaChecked
import GoSem.Claim
import GoSem.ClaimJoined
import GoSem.ClaimMapViews
import Derived.JoinedTies
import Derived.KernelRfl
namespace Go.Proofs.Ythbfngobdnknjaa
/- THE CELL 'sum', in the pinned program and in every row, IS THE sha256 OF THE DUMP (.gsa) THAT YthbfngobdnknjaaProg.lean LOADS. Nothing in Lean hashes anything: it is a label: what it is worth is what the hold of that sum in a sandbox is worth. -/
noncomputable def Try.pinned : Pinned := { name := "ythbfngobdnknjaa", sum := "c78c8ccc37204644a63940e70e78bc565a6ac0877c16cdea73525b488efa05fa", checked := Try.checked }
namespace Rows
def none {H : Type} : Left H := { results := [], args := [] }

/-- 'laws.FnExactNextRank': WHATEVER THE INPUT: true; the input reads as it did. -/
def fnExactNextRankSpec : ChangeSpec := { name := "fnExactNextRank", fn := fun _ => fun
  | [d] => { results := [.lit (.bool true)], args := [d] }
  | _ => none }
def fnExactNextRankRow : OpenClaim := { program := "ythbfngobdnknjaa", sum := "c78c8ccc37204644a63940e70e78bc565a6ac0877c16cdea73525b488efa05fa", func := "loop.example/g00895/laws.FnExactNextRank", spec := "fnExactNextRank", recurses := true, apart := false }
def FnExactNextRankSaid : Prop := fnExactNextRankRow.holds Try.pinned (OpenSpec.ofChange fnExactNextRankSpec)

/-- ITS FALSE NEIGHBOUR: 'it returns false'. Refute it at one input. -/
def fnExactNextRankWrong : ChangeSpec := { name := "fnExactNextRank", fn := fun _ => fun
  | [d] => { results := [.lit (.bool false)], args := [d] }
  | _ => none }
def FnExactNextRankWrongFalsely : Prop := fnExactNextRankRow.holds Try.pinned (OpenSpec.ofChange fnExactNextRankWrong)

/-- 'laws.FnExactLpoGreatest': WHATEVER THE INPUT: true; the input reads as it did. -/
def fnExactLpoGreatestSpec : ChangeSpec := { name := "fnExactLpoGreatest", fn := fun _ => fun
  | [d1, d2, d3] => { results := [.lit (.bool true)], args := [d1, d2, d3] }
  | _ => none }
def fnExactLpoGreatestRow : OpenClaim := { program := "ythbfngobdnknjaa", sum := "c78c8ccc37204644a63940e70e78bc565a6ac0877c16cdea73525b488efa05fa", func := "loop.example/g00895/laws.FnExactLpoGreatest", spec := "fnExactLpoGreatest", unfollowed := true, recurses := true, apart := false }
def FnExactLpoGreatestSaid : Prop := fnExactLpoGreatestRow.holds Try.pinned (OpenSpec.ofChange fnExactLpoGreatestSpec)

/-- ITS FALSE NEIGHBOUR: 'it returns false'. Refute it at one input. -/
def fnExactLpoGreatestWrong : ChangeSpec := { name := "fnExactLpoGreatest", fn := fun _ => fun
  | [d1, d2, d3] => { results := [.lit (.bool false)], args := [d1, d2, d3] }
  | _ => none }
def FnExactLpoGreatestWrongFalsely : Prop := fnExactLpoGreatestRow.holds Try.pinned (OpenSpec.ofChange fnExactLpoGreatestWrong)

/-- 'laws.FnExactPairsOf': WHATEVER THE INPUT: true; the input reads as it did. -/
def fnExactPairsOfSpec : ChangeSpec := { name := "fnExactPairsOf", fn := fun _ => fun
  | [d] => { results := [.lit (.bool true)], args := [d] }
  | _ => none }
def fnExactPairsOfRow : OpenClaim := { program := "ythbfngobdnknjaa", sum := "c78c8ccc37204644a63940e70e78bc565a6ac0877c16cdea73525b488efa05fa", func := "loop.example/g00895/laws.FnExactPairsOf", spec := "fnExactPairsOf", unfollowed := true, recurses := true, apart := false }
def FnExactPairsOfSaid : Prop := fnExactPairsOfRow.holds Try.pinned (OpenSpec.ofChange fnExactPairsOfSpec)

/-- ITS FALSE NEIGHBOUR: 'it returns false'. Refute it at one input. -/
def fnExactPairsOfWrong : ChangeSpec := { name := "fnExactPairsOf", fn := fun _ => fun
  | [d] => { results := [.lit (.bool false)], args := [d] }
  | _ => none }
def FnExactPairsOfWrongFalsely : Prop := fnExactPairsOfRow.holds Try.pinned (OpenSpec.ofChange fnExactPairsOfWrong)

/-- 'laws.FnKboTotal': WHATEVER THE INPUT: true; the input reads as it did. -/
def fnKboTotalSpec : ChangeSpec := { name := "fnKboTotal", fn := fun _ => fun
  | [d] => { results := [.lit (.bool true)], args := [d] }
  | _ => none }
def fnKboTotalRow : OpenClaim := { program := "ythbfngobdnknjaa", sum := "c78c8ccc37204644a63940e70e78bc565a6ac0877c16cdea73525b488efa05fa", func := "loop.example/g00895/laws.FnKboTotal", spec := "fnKboTotal", recurses := true, apart := false }
def FnKboTotalSaid : Prop := fnKboTotalRow.holds Try.pinned (OpenSpec.ofChange fnKboTotalSpec)

/-- ITS FALSE NEIGHBOUR: 'it returns false'. Refute it at one input. -/
def fnKboTotalWrong : ChangeSpec := { name := "fnKboTotal", fn := fun _ => fun
  | [d] => { results := [.lit (.bool false)], args := [d] }
  | _ => none }
def FnKboTotalWrongFalsely : Prop := fnKboTotalRow.holds Try.pinned (OpenSpec.ofChange fnKboTotalWrong)

/-- 'laws.FnLpoTotal': WHATEVER THE INPUT: true; the input reads as it did. -/
def fnLpoTotalSpec : ChangeSpec := { name := "fnLpoTotal", fn := fun _ => fun
  | [d] => { results := [.lit (.bool true)], args := [d] }
  | _ => none }
def fnLpoTotalRow : OpenClaim := { program := "ythbfngobdnknjaa", sum := "c78c8ccc37204644a63940e70e78bc565a6ac0877c16cdea73525b488efa05fa", func := "loop.example/g00895/laws.FnLpoTotal", spec := "fnLpoTotal", unfollowed := true, recurses := true, apart := false }
def FnLpoTotalSaid : Prop := fnLpoTotalRow.holds Try.pinned (OpenSpec.ofChange fnLpoTotalSpec)

/-- ITS FALSE NEIGHBOUR: 'it returns false'. Refute it at one input. -/
def fnLpoTotalWrong : ChangeSpec := { name := "fnLpoTotal", fn := fun _ => fun
  | [d] => { results := [.lit (.bool false)], args := [d] }
  | _ => none }
def FnLpoTotalWrongFalsely : Prop := fnLpoTotalRow.holds Try.pinned (OpenSpec.ofChange fnLpoTotalWrong)

/-- 'laws.FnExactProjectedBy': WHATEVER THE INPUT: true; the input reads as it did. -/
def fnExactProjectedBySpec : ChangeSpec := { name := "fnExactProjectedBy", fn := fun _ => fun
  | [d1, d2, d3] => { results := [.lit (.bool true)], args := [d1, d2, d3] }
  | _ => none }
def fnExactProjectedByRow : OpenClaim := { program := "ythbfngobdnknjaa", sum := "c78c8ccc37204644a63940e70e78bc565a6ac0877c16cdea73525b488efa05fa", func := "loop.example/g00895/laws.FnExactProjectedBy", spec := "fnExactProjectedBy", unfollowed := true, recurses := true, apart := false }
def FnExactProjectedBySaid : Prop := fnExactProjectedByRow.holds Try.pinned (OpenSpec.ofChange fnExactProjectedBySpec)

/-- ITS FALSE NEIGHBOUR: 'it returns false'. Refute it at one input. -/
def fnExactProjectedByWrong : ChangeSpec := { name := "fnExactProjectedBy", fn := fun _ => fun
  | [d1, d2, d3] => { results := [.lit (.bool false)], args := [d1, d2, d3] }
  | _ => none }
def FnExactProjectedByWrongFalsely : Prop := fnExactProjectedByRow.holds Try.pinned (OpenSpec.ofChange fnExactProjectedByWrong)

/- THE SECOND FORM. 'bulk': how many values and letters a reading holds, each counted each time it is reached (what is shared counts as often as it is met; a slice's spare places count too). A statement '..UptoSaid' is the law's where the arguments, and the package variables that the reading takes, are together of bulk at most 1048576: NARROWER than '..Said'. Prove '..Said' where nothing that the law and all that it calls make is longer than what came in: it says more and counts as full. Else prove '..UptoSaid'. A law counts once. -/
mutual
def uptoBulk {H : Type} : DataW H → Nat
  | .lit (.string bytes) => bytes.length + 1
  | .lit _ => 1
  | .nil => 1
  | .ptr d => uptoBulk d + 1
  | .slice elems spare => uptoBulkAll elems + uptoBulkAll spare + 1
  | .agg parts => uptoBulkAll parts + 1
  | .iface _ d => uptoBulk d + 1
  | .map entries => uptoBulkEntries entries + 1
  | .held _ => 1
def uptoBulkAll {H : Type} : List (DataW H) → Nat
  | [] => 0
  | d :: r => uptoBulk d + uptoBulkAll r
def uptoBulkEntries {H : Type} : List (Lit × DataW H) → Nat
  | [] => 0
  | x :: r => uptoBulkEntry x + uptoBulkEntries r
def uptoBulkEntry {H : Type} : Lit × DataW H → Nat
  | (.string bytes, d) => bytes.length + uptoBulk d + 1
  | (_, d) => uptoBulk d + 1
 end
def uptoSmall : (H : Type) → List (DataW H) → Bool := fun _ ds => decide (uptoBulkAll ds ≤ 1048576)
def OpenSpec.upto (s : _root_.Go.ChangeSpec) : _root_.Go.OpenSpec := { _root_.Go.OpenSpec.ofChange s with cond := some uptoSmall }

/-- 'laws.FnExactNextRank', WHERE WHAT IT READS IS OF BULK AT MOST 1048576: true; the input reads as it did. -/
def fnExactNextRankUptoRow : OpenClaim := { program := "ythbfngobdnknjaa", sum := "c78c8ccc37204644a63940e70e78bc565a6ac0877c16cdea73525b488efa05fa", func := "loop.example/g00895/laws.FnExactNextRank", spec := "fnExactNextRank", recurses := true, apart := false, narrowed := true }
def FnExactNextRankUptoSaid : Prop := fnExactNextRankUptoRow.holds Try.pinned (OpenSpec.upto fnExactNextRankSpec)

/-- 'laws.FnExactLpoGreatest', WHERE WHAT IT READS IS OF BULK AT MOST 1048576: true; the input reads as it did. -/
def fnExactLpoGreatestUptoRow : OpenClaim := { program := "ythbfngobdnknjaa", sum := "c78c8ccc37204644a63940e70e78bc565a6ac0877c16cdea73525b488efa05fa", func := "loop.example/g00895/laws.FnExactLpoGreatest", spec := "fnExactLpoGreatest", unfollowed := true, recurses := true, apart := false, narrowed := true }
def FnExactLpoGreatestUptoSaid : Prop := fnExactLpoGreatestUptoRow.holds Try.pinned (OpenSpec.upto fnExactLpoGreatestSpec)

/-- 'laws.FnExactPairsOf', WHERE WHAT IT READS IS OF BULK AT MOST 1048576: true; the input reads as it did. -/
def fnExactPairsOfUptoRow : OpenClaim := { program := "ythbfngobdnknjaa", sum := "c78c8ccc37204644a63940e70e78bc565a6ac0877c16cdea73525b488efa05fa", func := "loop.example/g00895/laws.FnExactPairsOf", spec := "fnExactPairsOf", unfollowed := true, recurses := true, apart := false, narrowed := true }
def FnExactPairsOfUptoSaid : Prop := fnExactPairsOfUptoRow.holds Try.pinned (OpenSpec.upto fnExactPairsOfSpec)

/-- 'laws.FnKboTotal', WHERE WHAT IT READS IS OF BULK AT MOST 1048576: true; the input reads as it did. -/
def fnKboTotalUptoRow : OpenClaim := { program := "ythbfngobdnknjaa", sum := "c78c8ccc37204644a63940e70e78bc565a6ac0877c16cdea73525b488efa05fa", func := "loop.example/g00895/laws.FnKboTotal", spec := "fnKboTotal", recurses := true, apart := false, narrowed := true }
def FnKboTotalUptoSaid : Prop := fnKboTotalUptoRow.holds Try.pinned (OpenSpec.upto fnKboTotalSpec)

/-- 'laws.FnLpoTotal', WHERE WHAT IT READS IS OF BULK AT MOST 1048576: true; the input reads as it did. -/
def fnLpoTotalUptoRow : OpenClaim := { program := "ythbfngobdnknjaa", sum := "c78c8ccc37204644a63940e70e78bc565a6ac0877c16cdea73525b488efa05fa", func := "loop.example/g00895/laws.FnLpoTotal", spec := "fnLpoTotal", unfollowed := true, recurses := true, apart := false, narrowed := true }
def FnLpoTotalUptoSaid : Prop := fnLpoTotalUptoRow.holds Try.pinned (OpenSpec.upto fnLpoTotalSpec)

/-- 'laws.FnExactProjectedBy', WHERE WHAT IT READS IS OF BULK AT MOST 1048576: true; the input reads as it did. -/
def fnExactProjectedByUptoRow : OpenClaim := { program := "ythbfngobdnknjaa", sum := "c78c8ccc37204644a63940e70e78bc565a6ac0877c16cdea73525b488efa05fa", func := "loop.example/g00895/laws.FnExactProjectedBy", spec := "fnExactProjectedBy", unfollowed := true, recurses := true, apart := false, narrowed := true }
def FnExactProjectedByUptoSaid : Prop := fnExactProjectedByUptoRow.holds Try.pinned (OpenSpec.upto fnExactProjectedBySpec)

end Rows
end Go.Proofs.Ythbfngobdnknjaa
