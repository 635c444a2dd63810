/-
  No cell of these rows narrows 'for every input' (looked for: loops, veiled, ifaces, maps, wideKeys, modest, calm, conditions, laid).
  DERIVED. THE GIVEN ROWS OF THIS SEAT. 5 by the template 'for every input the law returns true; each argument reads behind the call as it read before'; 0 by the template 'total and deterministic' (their statements: YtjmdfjinicbkeaaTotals.lean).
  GIVEN WITH THE SEED: the statements are not yours to turn. If you find one false, say at which input.
  Laid BY PROGRAM, IN A SANDBOX (cutbox-rows.mjs): the forced cells as the released guide's own fill.sh prints them over the translation 03aaf5cd445fe794… (all of the seat's roots in one cut). By AI agents, Wed Nov 11 2026. No macro, syntax, notation, axiom, sorry.
-/
import Derived.Test.YtjmdfjinicbkeaaChecked
import GoSem.Claim
import GoSem.ClaimJoined
import GoSem.ClaimMapViews
import Derived.JoinedTies
import Derived.KernelRfl
namespace Go.Proofs.Ytjmdfjinicbkeaa
/- THE CELL 'sum', in the pinned program and in every row, IS THE sha256 OF THE DUMP (.gsa) THAT YtjmdfjinicbkeaaProg.lean LOADS. Nothing in Lean hashes anything: it is a label: what it is worth is what the hold of that sum in a sandbox is worth. -/
noncomputable def Try.pinned : Pinned := { name := "ytjmdfjinicbkeaa", sum := "03aaf5cd445fe7948bc536f94b377adc800ac16b1a55971aaa077faa3288c80e", checked := Try.checked }
namespace Rows
def none {H : Type} : Left H := { results := [], args := [] }

/-- 'laws.FnExactFirstRank': WHATEVER THE INPUT: true; the input reads as it did. -/
def fnExactFirstRankSpec : ChangeSpec := { name := "fnExactFirstRank", fn := fun _ => fun
  | [d] => { results := [.lit (.bool true)], args := [d] }
  | _ => none }
def fnExactFirstRankRow : OpenClaim := { program := "ytjmdfjinicbkeaa", sum := "03aaf5cd445fe7948bc536f94b377adc800ac16b1a55971aaa077faa3288c80e", func := "loop.example/g00895/laws.FnExactFirstRank", spec := "fnExactFirstRank", unfollowed := true, recurses := true, leaving := true, apart := false }
def FnExactFirstRankSaid : Prop := fnExactFirstRankRow.holds Try.pinned (OpenSpec.ofChange fnExactFirstRankSpec)

/-- ITS FALSE NEIGHBOUR: 'it returns false'. Refute it at one input. -/
def fnExactFirstRankWrong : ChangeSpec := { name := "fnExactFirstRank", fn := fun _ => fun
  | [d] => { results := [.lit (.bool false)], args := [d] }
  | _ => none }
def FnExactFirstRankWrongFalsely : Prop := fnExactFirstRankRow.holds Try.pinned (OpenSpec.ofChange fnExactFirstRankWrong)

/-- 'laws.FnExactFirstBags': WHATEVER THE INPUT: true; the input reads as it did. -/
def fnExactFirstBagsSpec : ChangeSpec := { name := "fnExactFirstBags", fn := fun _ => fun
  | [d] => { results := [.lit (.bool true)], args := [d] }
  | _ => none }
def fnExactFirstBagsRow : OpenClaim := { program := "ytjmdfjinicbkeaa", sum := "03aaf5cd445fe7948bc536f94b377adc800ac16b1a55971aaa077faa3288c80e", func := "loop.example/g00895/laws.FnExactFirstBags", spec := "fnExactFirstBags", unfollowed := true, recurses := true, leaving := true, apart := false }
def FnExactFirstBagsSaid : Prop := fnExactFirstBagsRow.holds Try.pinned (OpenSpec.ofChange fnExactFirstBagsSpec)

/-- ITS FALSE NEIGHBOUR: 'it returns false'. Refute it at one input. -/
def fnExactFirstBagsWrong : ChangeSpec := { name := "fnExactFirstBags", fn := fun _ => fun
  | [d] => { results := [.lit (.bool false)], args := [d] }
  | _ => none }
def FnExactFirstBagsWrongFalsely : Prop := fnExactFirstBagsRow.holds Try.pinned (OpenSpec.ofChange fnExactFirstBagsWrong)

/-- 'laws.FnExactFirstPolys': WHATEVER THE INPUT: true; the input reads as it did. -/
def fnExactFirstPolysSpec : ChangeSpec := { name := "fnExactFirstPolys", fn := fun _ => fun
  | [d1, d2] => { results := [.lit (.bool true)], args := [d1, d2] }
  | _ => none }
def fnExactFirstPolysRow : OpenClaim := { program := "ytjmdfjinicbkeaa", sum := "03aaf5cd445fe7948bc536f94b377adc800ac16b1a55971aaa077faa3288c80e", func := "loop.example/g00895/laws.FnExactFirstPolys", spec := "fnExactFirstPolys", recurses := true, apart := false }
def FnExactFirstPolysSaid : Prop := fnExactFirstPolysRow.holds Try.pinned (OpenSpec.ofChange fnExactFirstPolysSpec)

/-- ITS FALSE NEIGHBOUR: 'it returns false'. Refute it at one input. -/
def fnExactFirstPolysWrong : ChangeSpec := { name := "fnExactFirstPolys", fn := fun _ => fun
  | [d1, d2] => { results := [.lit (.bool false)], args := [d1, d2] }
  | _ => none }
def FnExactFirstPolysWrongFalsely : Prop := fnExactFirstPolysRow.holds Try.pinned (OpenSpec.ofChange fnExactFirstPolysWrong)

/-- 'laws.FnExactFirstWeights': WHATEVER THE INPUT: true; the input reads as it did. -/
def fnExactFirstWeightsSpec : ChangeSpec := { name := "fnExactFirstWeights", fn := fun _ => fun
  | [d1, d2] => { results := [.lit (.bool true)], args := [d1, d2] }
  | _ => none }
def fnExactFirstWeightsRow : OpenClaim := { program := "ytjmdfjinicbkeaa", sum := "03aaf5cd445fe7948bc536f94b377adc800ac16b1a55971aaa077faa3288c80e", func := "loop.example/g00895/laws.FnExactFirstWeights", spec := "fnExactFirstWeights", recurses := true, apart := false }
def FnExactFirstWeightsSaid : Prop := fnExactFirstWeightsRow.holds Try.pinned (OpenSpec.ofChange fnExactFirstWeightsSpec)

/-- ITS FALSE NEIGHBOUR: 'it returns false'. Refute it at one input. -/
def fnExactFirstWeightsWrong : ChangeSpec := { name := "fnExactFirstWeights", fn := fun _ => fun
  | [d1, d2] => { results := [.lit (.bool false)], args := [d1, d2] }
  | _ => none }
def FnExactFirstWeightsWrongFalsely : Prop := fnExactFirstWeightsRow.holds Try.pinned (OpenSpec.ofChange fnExactFirstWeightsWrong)

/-- 'laws.FnFirstRank': WHATEVER THE INPUT: true; the input reads as it did. -/
def fnFirstRankSpec : ChangeSpec := { name := "fnFirstRank", fn := fun _ => fun
  | [d] => { results := [.lit (.bool true)], args := [d] }
  | _ => none }
def fnFirstRankRow : OpenClaim := { program := "ytjmdfjinicbkeaa", sum := "03aaf5cd445fe7948bc536f94b377adc800ac16b1a55971aaa077faa3288c80e", func := "loop.example/g00895/laws.FnFirstRank", spec := "fnFirstRank", unfollowed := true, recurses := true, leaving := true, apart := false }
def FnFirstRankSaid : Prop := fnFirstRankRow.holds Try.pinned (OpenSpec.ofChange fnFirstRankSpec)

/-- ITS FALSE NEIGHBOUR: 'it returns false'. Refute it at one input. -/
def fnFirstRankWrong : ChangeSpec := { name := "fnFirstRank", fn := fun _ => fun
  | [d] => { results := [.lit (.bool false)], args := [d] }
  | _ => none }
def FnFirstRankWrongFalsely : Prop := fnFirstRankRow.holds Try.pinned (OpenSpec.ofChange fnFirstRankWrong)

/- THE SECOND FORM. 'bulk': how many values and letters a reading holds, each counted each time it is reached (what is shared counts as often as it is met; a slice's spare places count too). A statement '..UptoSaid' is the law's where the arguments, and the package variables that the reading takes, are together of bulk at most 1048576: NARROWER than '..Said'. Prove '..Said' where nothing that the law and all that it calls make is longer than what came in: it says more and counts as full. Else prove '..UptoSaid'. A law counts once. -/
mutual
def uptoBulk {H : Type} : DataW H → Nat
  | .lit (.string bytes) => bytes.length + 1
  | .lit _ => 1
  | .nil => 1
  | .ptr d => uptoBulk d + 1
  | .slice elems spare => uptoBulkAll elems + uptoBulkAll spare + 1
  | .agg parts => uptoBulkAll parts + 1
  | .iface _ d => uptoBulk d + 1
  | .map entries => uptoBulkEntries entries + 1
  | .held _ => 1
def uptoBulkAll {H : Type} : List (DataW H) → Nat
  | [] => 0
  | d :: r => uptoBulk d + uptoBulkAll r
def uptoBulkEntries {H : Type} : List (Lit × DataW H) → Nat
  | [] => 0
  | x :: r => uptoBulkEntry x + uptoBulkEntries r
def uptoBulkEntry {H : Type} : Lit × DataW H → Nat
  | (.string bytes, d) => bytes.length + uptoBulk d + 1
  | (_, d) => uptoBulk d + 1
 end
def uptoSmall : (H : Type) → List (DataW H) → Bool := fun _ ds => decide (uptoBulkAll ds ≤ 1048576)
def OpenSpec.upto (s : _root_.Go.ChangeSpec) : _root_.Go.OpenSpec := { _root_.Go.OpenSpec.ofChange s with cond := some uptoSmall }

/-- 'laws.FnExactFirstRank', WHERE WHAT IT READS IS OF BULK AT MOST 1048576: true; the input reads as it did. -/
def fnExactFirstRankUptoRow : OpenClaim := { program := "ytjmdfjinicbkeaa", sum := "03aaf5cd445fe7948bc536f94b377adc800ac16b1a55971aaa077faa3288c80e", func := "loop.example/g00895/laws.FnExactFirstRank", spec := "fnExactFirstRank", unfollowed := true, recurses := true, leaving := true, apart := false, narrowed := true }
def FnExactFirstRankUptoSaid : Prop := fnExactFirstRankUptoRow.holds Try.pinned (OpenSpec.upto fnExactFirstRankSpec)

/-- 'laws.FnExactFirstBags', WHERE WHAT IT READS IS OF BULK AT MOST 1048576: true; the input reads as it did. -/
def fnExactFirstBagsUptoRow : OpenClaim := { program := "ytjmdfjinicbkeaa", sum := "03aaf5cd445fe7948bc536f94b377adc800ac16b1a55971aaa077faa3288c80e", func := "loop.example/g00895/laws.FnExactFirstBags", spec := "fnExactFirstBags", unfollowed := true, recurses := true, leaving := true, apart := false, narrowed := true }
def FnExactFirstBagsUptoSaid : Prop := fnExactFirstBagsUptoRow.holds Try.pinned (OpenSpec.upto fnExactFirstBagsSpec)

/-- 'laws.FnExactFirstPolys', WHERE WHAT IT READS IS OF BULK AT MOST 1048576: true; the input reads as it did. -/
def fnExactFirstPolysUptoRow : OpenClaim := { program := "ytjmdfjinicbkeaa", sum := "03aaf5cd445fe7948bc536f94b377adc800ac16b1a55971aaa077faa3288c80e", func := "loop.example/g00895/laws.FnExactFirstPolys", spec := "fnExactFirstPolys", recurses := true, apart := false, narrowed := true }
def FnExactFirstPolysUptoSaid : Prop := fnExactFirstPolysUptoRow.holds Try.pinned (OpenSpec.upto fnExactFirstPolysSpec)

/-- 'laws.FnExactFirstWeights', WHERE WHAT IT READS IS OF BULK AT MOST 1048576: true; the input reads as it did. -/
def fnExactFirstWeightsUptoRow : OpenClaim := { program := "ytjmdfjinicbkeaa", sum := "03aaf5cd445fe7948bc536f94b377adc800ac16b1a55971aaa077faa3288c80e", func := "loop.example/g00895/laws.FnExactFirstWeights", spec := "fnExactFirstWeights", recurses := true, apart := false, narrowed := true }
def FnExactFirstWeightsUptoSaid : Prop := fnExactFirstWeightsUptoRow.holds Try.pinned (OpenSpec.upto fnExactFirstWeightsSpec)

/-- 'laws.FnFirstRank', WHERE WHAT IT READS IS OF BULK AT MOST 1048576: true; the input reads as it did. -/
def fnFirstRankUptoRow : OpenClaim := { program := "ytjmdfjinicbkeaa", sum := "03aaf5cd445fe7948bc536f94b377adc800ac16b1a55971aaa077faa3288c80e", func := "loop.example/g00895/laws.FnFirstRank", spec := "fnFirstRank", unfollowed := true, recurses := true, leaving := true, apart := false, narrowed := true }
def FnFirstRankUptoSaid : Prop := fnFirstRankUptoRow.holds Try.pinned (OpenSpec.upto fnFirstRankSpec)

end Rows
end Go.Proofs.Ytjmdfjinicbkeaa
