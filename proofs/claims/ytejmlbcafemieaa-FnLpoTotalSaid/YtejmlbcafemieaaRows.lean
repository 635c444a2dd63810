/-
  No cell of these rows narrows 'for every input' (looked for: loops, veiled, ifaces, maps, wideKeys, modest, calm, conditions, laid).
  DERIVED. THE GIVEN ROWS OF THIS SEAT. 6 by the template 'for every input the law returns true; each argument reads behind the call as it read before'; 0 by the template 'total and deterministic' (their statements: YtejmlbcafemieaaTotals.lean).
  GIVEN WITH THE SEED: the statements are not yours to turn. If you find one false, say at which input.
  Laid BY PROGRAM, IN A SANDBOX (cutbox-rows.mjs): the forced cells as the released guide's own fill.sh prints them over the translation 271e9779cab7613f… (all of the seat's roots in one cut). By AI agents, Wed Nov 11 2026. No macro, syntax, notation, axiom, sorry.
-/
import Derived.Test.YtejmlbcafemieaaChecked
import GoSem.Claim
import GoSem.ClaimJoined
import GoSem.ClaimMapViews
import Derived.JoinedTies
import Derived.KernelRfl
namespace Go.Proofs.Ytejmlbcafemieaa
/- THE CELL 'sum', in the pinned program and in every row, IS THE sha256 OF THE DUMP (.gsa) THAT YtejmlbcafemieaaProg.lean LOADS. Nothing in Lean hashes anything: it is a label: what it is worth is what the hold of that sum in a sandbox is worth. -/
noncomputable def Try.pinned : Pinned := { name := "ytejmlbcafemieaa", sum := "271e9779cab7613f93cf98bf017cbc33530220d2d162f14d6c63c9d6efcc89d0", checked := Try.checked }
namespace Rows
def none {H : Type} : Left H := { results := [], args := [] }

/-- 'laws.FnExactLpoGreatest': WHATEVER THE INPUT: true; the input reads as it did. -/
def fnExactLpoGreatestSpec : ChangeSpec := { name := "fnExactLpoGreatest", fn := fun _ => fun
  | [d1, d2, d3] => { results := [.lit (.bool true)], args := [d1, d2, d3] }
  | _ => none }
def fnExactLpoGreatestRow : OpenClaim := { program := "ytejmlbcafemieaa", sum := "271e9779cab7613f93cf98bf017cbc33530220d2d162f14d6c63c9d6efcc89d0", func := "loop.example/g00895/laws.FnExactLpoGreatest", spec := "fnExactLpoGreatest", unfollowed := true, recurses := true, apart := false }
def FnExactLpoGreatestSaid : Prop := fnExactLpoGreatestRow.holds Try.pinned (OpenSpec.ofChange fnExactLpoGreatestSpec)

/-- ITS FALSE NEIGHBOUR: 'it returns false'. Refute it at one input. -/
def fnExactLpoGreatestWrong : ChangeSpec := { name := "fnExactLpoGreatest", fn := fun _ => fun
  | [d1, d2, d3] => { results := [.lit (.bool false)], args := [d1, d2, d3] }
  | _ => none }
def FnExactLpoGreatestWrongFalsely : Prop := fnExactLpoGreatestRow.holds Try.pinned (OpenSpec.ofChange fnExactLpoGreatestWrong)

/-- 'laws.FnExactMpoLess': WHATEVER THE INPUT: true; the input reads as it did. -/
def fnExactMpoLessSpec : ChangeSpec := { name := "fnExactMpoLess", fn := fun _ => fun
  | [d1, d2, d3, d4] => { results := [.lit (.bool true)], args := [d1, d2, d3, d4] }
  | _ => none }
def fnExactMpoLessRow : OpenClaim := { program := "ytejmlbcafemieaa", sum := "271e9779cab7613f93cf98bf017cbc33530220d2d162f14d6c63c9d6efcc89d0", func := "loop.example/g00895/laws.FnExactMpoLess", spec := "fnExactMpoLess", unfollowed := true, recurses := true, apart := false }
def FnExactMpoLessSaid : Prop := fnExactMpoLessRow.holds Try.pinned (OpenSpec.ofChange fnExactMpoLessSpec)

/-- ITS FALSE NEIGHBOUR: 'it returns false'. Refute it at one input. -/
def fnExactMpoLessWrong : ChangeSpec := { name := "fnExactMpoLess", fn := fun _ => fun
  | [d1, d2, d3, d4] => { results := [.lit (.bool false)], args := [d1, d2, d3, d4] }
  | _ => none }
def FnExactMpoLessWrongFalsely : Prop := fnExactMpoLessRow.holds Try.pinned (OpenSpec.ofChange fnExactMpoLessWrong)

/-- 'laws.FnLpoTotal': WHATEVER THE INPUT: true; the input reads as it did. -/
def fnLpoTotalSpec : ChangeSpec := { name := "fnLpoTotal", fn := fun _ => fun
  | [d] => { results := [.lit (.bool true)], args := [d] }
  | _ => none }
def fnLpoTotalRow : OpenClaim := { program := "ytejmlbcafemieaa", sum := "271e9779cab7613f93cf98bf017cbc33530220d2d162f14d6c63c9d6efcc89d0", func := "loop.example/g00895/laws.FnLpoTotal", spec := "fnLpoTotal", unfollowed := true, recurses := true, apart := false }
def FnLpoTotalSaid : Prop := fnLpoTotalRow.holds Try.pinned (OpenSpec.ofChange fnLpoTotalSpec)

/-- ITS FALSE NEIGHBOUR: 'it returns false'. Refute it at one input. -/
def fnLpoTotalWrong : ChangeSpec := { name := "fnLpoTotal", fn := fun _ => fun
  | [d] => { results := [.lit (.bool false)], args := [d] }
  | _ => none }
def FnLpoTotalWrongFalsely : Prop := fnLpoTotalRow.holds Try.pinned (OpenSpec.ofChange fnLpoTotalWrong)

/-- 'laws.FnExactFirstProj': WHATEVER THE INPUT: true; the input reads as it did. -/
def fnExactFirstProjSpec : ChangeSpec := { name := "fnExactFirstProj", fn := fun _ => fun
  | [d1, d2] => { results := [.lit (.bool true)], args := [d1, d2] }
  | _ => none }
def fnExactFirstProjRow : OpenClaim := { program := "ytejmlbcafemieaa", sum := "271e9779cab7613f93cf98bf017cbc33530220d2d162f14d6c63c9d6efcc89d0", func := "loop.example/g00895/laws.FnExactFirstProj", spec := "fnExactFirstProj", unfollowed := true, recurses := true, apart := false }
def FnExactFirstProjSaid : Prop := fnExactFirstProjRow.holds Try.pinned (OpenSpec.ofChange fnExactFirstProjSpec)

/-- ITS FALSE NEIGHBOUR: 'it returns false'. Refute it at one input. -/
def fnExactFirstProjWrong : ChangeSpec := { name := "fnExactFirstProj", fn := fun _ => fun
  | [d1, d2] => { results := [.lit (.bool false)], args := [d1, d2] }
  | _ => none }
def FnExactFirstProjWrongFalsely : Prop := fnExactFirstProjRow.holds Try.pinned (OpenSpec.ofChange fnExactFirstProjWrong)

/-- 'laws.FnExactFirstPolys': WHATEVER THE INPUT: true; the input reads as it did. -/
def fnExactFirstPolysSpec : ChangeSpec := { name := "fnExactFirstPolys", fn := fun _ => fun
  | [d1, d2] => { results := [.lit (.bool true)], args := [d1, d2] }
  | _ => none }
def fnExactFirstPolysRow : OpenClaim := { program := "ytejmlbcafemieaa", sum := "271e9779cab7613f93cf98bf017cbc33530220d2d162f14d6c63c9d6efcc89d0", func := "loop.example/g00895/laws.FnExactFirstPolys", spec := "fnExactFirstPolys", recurses := true, apart := false }
def FnExactFirstPolysSaid : Prop := fnExactFirstPolysRow.holds Try.pinned (OpenSpec.ofChange fnExactFirstPolysSpec)

/-- ITS FALSE NEIGHBOUR: 'it returns false'. Refute it at one input. -/
def fnExactFirstPolysWrong : ChangeSpec := { name := "fnExactFirstPolys", fn := fun _ => fun
  | [d1, d2] => { results := [.lit (.bool false)], args := [d1, d2] }
  | _ => none }
def FnExactFirstPolysWrongFalsely : Prop := fnExactFirstPolysRow.holds Try.pinned (OpenSpec.ofChange fnExactFirstPolysWrong)

/-- 'laws.FnExactFirstWeights': WHATEVER THE INPUT: true; the input reads as it did. -/
def fnExactFirstWeightsSpec : ChangeSpec := { name := "fnExactFirstWeights", fn := fun _ => fun
  | [d1, d2] => { results := [.lit (.bool true)], args := [d1, d2] }
  | _ => none }
def fnExactFirstWeightsRow : OpenClaim := { program := "ytejmlbcafemieaa", sum := "271e9779cab7613f93cf98bf017cbc33530220d2d162f14d6c63c9d6efcc89d0", func := "loop.example/g00895/laws.FnExactFirstWeights", spec := "fnExactFirstWeights", recurses := true, apart := false }
def FnExactFirstWeightsSaid : Prop := fnExactFirstWeightsRow.holds Try.pinned (OpenSpec.ofChange fnExactFirstWeightsSpec)

/-- ITS FALSE NEIGHBOUR: 'it returns false'. Refute it at one input. -/
def fnExactFirstWeightsWrong : ChangeSpec := { name := "fnExactFirstWeights", fn := fun _ => fun
  | [d1, d2] => { results := [.lit (.bool false)], args := [d1, d2] }
  | _ => none }
def FnExactFirstWeightsWrongFalsely : Prop := fnExactFirstWeightsRow.holds Try.pinned (OpenSpec.ofChange fnExactFirstWeightsWrong)

/- THE SECOND FORM. 'bulk': how many values and letters a reading holds, each counted each time it is reached (what is shared counts as often as it is met; a slice's spare places count too). A statement '..UptoSaid' is the law's where the arguments, and the package variables that the reading takes, are together of bulk at most 1048576: NARROWER than '..Said'. Prove '..Said' where nothing that the law and all that it calls make is longer than what came in: it says more and counts as full. Else prove '..UptoSaid'. A law counts once. -/
mutual
def uptoBulk {H : Type} : DataW H → Nat
  | .lit (.string bytes) => bytes.length + 1
  | .lit _ => 1
  | .nil => 1
  | .ptr d => uptoBulk d + 1
  | .slice elems spare => uptoBulkAll elems + uptoBulkAll spare + 1
  | .agg parts => uptoBulkAll parts + 1
  | .iface _ d => uptoBulk d + 1
  | .map entries => uptoBulkEntries entries + 1
  | .held _ => 1
def uptoBulkAll {H : Type} : List (DataW H) → Nat
  | [] => 0
  | d :: r => uptoBulk d + uptoBulkAll r
def uptoBulkEntries {H : Type} : List (Lit × DataW H) → Nat
  | [] => 0
  | x :: r => uptoBulkEntry x + uptoBulkEntries r
def uptoBulkEntry {H : Type} : Lit × DataW H → Nat
  | (.string bytes, d) => bytes.length + uptoBulk d + 1
  | (_, d) => uptoBulk d + 1
 end
def uptoSmall : (H : Type) → List (DataW H) → Bool := fun _ ds => decide (uptoBulkAll ds ≤ 1048576)
def OpenSpec.upto (s : _root_.Go.ChangeSpec) : _root_.Go.OpenSpec := { _root_.Go.OpenSpec.ofChange s with cond := some uptoSmall }

/-- 'laws.FnExactLpoGreatest', WHERE WHAT IT READS IS OF BULK AT MOST 1048576: true; the input reads as it did. -/
def fnExactLpoGreatestUptoRow : OpenClaim := { program := "ytejmlbcafemieaa", sum := "271e9779cab7613f93cf98bf017cbc33530220d2d162f14d6c63c9d6efcc89d0", func := "loop.example/g00895/laws.FnExactLpoGreatest", spec := "fnExactLpoGreatest", unfollowed := true, recurses := true, apart := false, narrowed := true }
def FnExactLpoGreatestUptoSaid : Prop := fnExactLpoGreatestUptoRow.holds Try.pinned (OpenSpec.upto fnExactLpoGreatestSpec)

/-- 'laws.FnExactMpoLess', WHERE WHAT IT READS IS OF BULK AT MOST 1048576: true; the input reads as it did. -/
def fnExactMpoLessUptoRow : OpenClaim := { program := "ytejmlbcafemieaa", sum := "271e9779cab7613f93cf98bf017cbc33530220d2d162f14d6c63c9d6efcc89d0", func := "loop.example/g00895/laws.FnExactMpoLess", spec := "fnExactMpoLess", unfollowed := true, recurses := true, apart := false, narrowed := true }
def FnExactMpoLessUptoSaid : Prop := fnExactMpoLessUptoRow.holds Try.pinned (OpenSpec.upto fnExactMpoLessSpec)

/-- 'laws.FnLpoTotal', WHERE WHAT IT READS IS OF BULK AT MOST 1048576: true; the input reads as it did. -/
def fnLpoTotalUptoRow : OpenClaim := { program := "ytejmlbcafemieaa", sum := "271e9779cab7613f93cf98bf017cbc33530220d2d162f14d6c63c9d6efcc89d0", func := "loop.example/g00895/laws.FnLpoTotal", spec := "fnLpoTotal", unfollowed := true, recurses := true, apart := false, narrowed := true }
def FnLpoTotalUptoSaid : Prop := fnLpoTotalUptoRow.holds Try.pinned (OpenSpec.upto fnLpoTotalSpec)

/-- 'laws.FnExactFirstProj', WHERE WHAT IT READS IS OF BULK AT MOST 1048576: true; the input reads as it did. -/
def fnExactFirstProjUptoRow : OpenClaim := { program := "ytejmlbcafemieaa", sum := "271e9779cab7613f93cf98bf017cbc33530220d2d162f14d6c63c9d6efcc89d0", func := "loop.example/g00895/laws.FnExactFirstProj", spec := "fnExactFirstProj", unfollowed := true, recurses := true, apart := false, narrowed := true }
def FnExactFirstProjUptoSaid : Prop := fnExactFirstProjUptoRow.holds Try.pinned (OpenSpec.upto fnExactFirstProjSpec)

/-- 'laws.FnExactFirstPolys', WHERE WHAT IT READS IS OF BULK AT MOST 1048576: true; the input reads as it did. -/
def fnExactFirstPolysUptoRow : OpenClaim := { program := "ytejmlbcafemieaa", sum := "271e9779cab7613f93cf98bf017cbc33530220d2d162f14d6c63c9d6efcc89d0", func := "loop.example/g00895/laws.FnExactFirstPolys", spec := "fnExactFirstPolys", recurses := true, apart := false, narrowed := true }
def FnExactFirstPolysUptoSaid : Prop := fnExactFirstPolysUptoRow.holds Try.pinned (OpenSpec.upto fnExactFirstPolysSpec)

/-- 'laws.FnExactFirstWeights', WHERE WHAT IT READS IS OF BULK AT MOST 1048576: true; the input reads as it did. -/
def fnExactFirstWeightsUptoRow : OpenClaim := { program := "ytejmlbcafemieaa", sum := "271e9779cab7613f93cf98bf017cbc33530220d2d162f14d6c63c9d6efcc89d0", func := "loop.example/g00895/laws.FnExactFirstWeights", spec := "fnExactFirstWeights", recurses := true, apart := false, narrowed := true }
def FnExactFirstWeightsUptoSaid : Prop := fnExactFirstWeightsUptoRow.holds Try.pinned (OpenSpec.upto fnExactFirstWeightsSpec)

end Rows
end Go.Proofs.Ytejmlbcafemieaa
