/-
  No cell of these rows narrows 'for every input' (looked for: loops, veiled, ifaces, maps, wideKeys, modest, calm, conditions, laid).
  DERIVED. THE GIVEN ROWS OF THIS SEAT. 12 by the template 'for every input the law returns true; each argument reads behind the call as it read before'; 0 by the template 'total and deterministic' (their statements: YtknjfeoijcelgaaTotals.lean).
  GIVEN WITH THE SEED: the statements are not yours to turn. If you find one false, say at which input.
  Laid BY PROGRAM, IN A SANDBOX (cutbox-rows.mjs): the forced cells as the released guide's own fill.sh prints them over the translation 08900ee9bb6c58f9… (all of the seat's roots in one cut). By AI agents, Wed Nov 11 2026. No macro, syntax, notation, axiom, sorry.
-/
import Derived.Test.YtknjfeoijcelgaaChecked
import GoSem.Claim
import GoSem.ClaimJoined
import GoSem.ClaimMapViews
import Derived.JoinedTies
import Derived.KernelRfl
namespace Go.Proofs.Ytknjfeoijcelgaa
/- THE CELL 'sum', in the pinned program and in every row, IS THE sha256 OF THE DUMP (.gsa) THAT YtknjfeoijcelgaaProg.lean LOADS. Nothing in Lean hashes anything: it is a label: what it is worth is what the hold of that sum in a sandbox is worth. -/
noncomputable def Try.pinned : Pinned := { name := "ytknjfeoijcelgaa", sum := "08900ee9bb6c58f911379690cce0405201a204dfa1281638d6c5c5b8ca786ba0", checked := Try.checked }
namespace Rows
def none {H : Type} : Left H := { results := [], args := [] }

/-- 'laws.FnExactSameDep': WHATEVER THE INPUT: true; the input reads as it did. -/
def fnExactSameDepSpec : ChangeSpec := { name := "fnExactSameDep", fn := fun _ => fun
  | [d1, d2] => { results := [.lit (.bool true)], args := [d1, d2] }
  | _ => none }
def fnExactSameDepRow : OpenClaim := { program := "ytknjfeoijcelgaa", sum := "08900ee9bb6c58f911379690cce0405201a204dfa1281638d6c5c5b8ca786ba0", func := "loop.example/g00895/laws.FnExactSameDep", spec := "fnExactSameDep", apart := false }
def FnExactSameDepSaid : Prop := fnExactSameDepRow.holds Try.pinned (OpenSpec.ofChange fnExactSameDepSpec)

/-- ITS FALSE NEIGHBOUR: 'it returns false'. Refute it at one input. -/
def fnExactSameDepWrong : ChangeSpec := { name := "fnExactSameDep", fn := fun _ => fun
  | [d1, d2] => { results := [.lit (.bool false)], args := [d1, d2] }
  | _ => none }
def FnExactSameDepWrongFalsely : Prop := fnExactSameDepRow.holds Try.pinned (OpenSpec.ofChange fnExactSameDepWrong)

/-- 'laws.FnExactProjOk': WHATEVER THE INPUT: true; the input reads as it did. -/
def fnExactProjOkSpec : ChangeSpec := { name := "fnExactProjOk", fn := fun _ => fun
  | [d1, d2] => { results := [.lit (.bool true)], args := [d1, d2] }
  | _ => none }
def fnExactProjOkRow : OpenClaim := { program := "ytknjfeoijcelgaa", sum := "08900ee9bb6c58f911379690cce0405201a204dfa1281638d6c5c5b8ca786ba0", func := "loop.example/g00895/laws.FnExactProjOk", spec := "fnExactProjOk", apart := false }
def FnExactProjOkSaid : Prop := fnExactProjOkRow.holds Try.pinned (OpenSpec.ofChange fnExactProjOkSpec)

/-- ITS FALSE NEIGHBOUR: 'it returns false'. Refute it at one input. -/
def fnExactProjOkWrong : ChangeSpec := { name := "fnExactProjOk", fn := fun _ => fun
  | [d1, d2] => { results := [.lit (.bool false)], args := [d1, d2] }
  | _ => none }
def FnExactProjOkWrongFalsely : Prop := fnExactProjOkRow.holds Try.pinned (OpenSpec.ofChange fnExactProjOkWrong)

/-- 'laws.FnExactTriesFor': WHATEVER THE INPUT: true; the input reads as it did. -/
def fnExactTriesForSpec : ChangeSpec := { name := "fnExactTriesFor", fn := fun _ => fun
  | [d1, d2] => { results := [.lit (.bool true)], args := [d1, d2] }
  | _ => none }
def fnExactTriesForRow : OpenClaim := { program := "ytknjfeoijcelgaa", sum := "08900ee9bb6c58f911379690cce0405201a204dfa1281638d6c5c5b8ca786ba0", func := "loop.example/g00895/laws.FnExactTriesFor", spec := "fnExactTriesFor", apart := false }
def FnExactTriesForSaid : Prop := fnExactTriesForRow.holds Try.pinned (OpenSpec.ofChange fnExactTriesForSpec)

/-- ITS FALSE NEIGHBOUR: 'it returns false'. Refute it at one input. -/
def fnExactTriesForWrong : ChangeSpec := { name := "fnExactTriesFor", fn := fun _ => fun
  | [d1, d2] => { results := [.lit (.bool false)], args := [d1, d2] }
  | _ => none }
def FnExactTriesForWrongFalsely : Prop := fnExactTriesForRow.holds Try.pinned (OpenSpec.ofChange fnExactTriesForWrong)

/-- 'laws.FnExactPlainWeights': WHATEVER THE INPUT: true; the input reads as it did. -/
def fnExactPlainWeightsSpec : ChangeSpec := { name := "fnExactPlainWeights", fn := fun _ => fun
  | [d] => { results := [.lit (.bool true)], args := [d] }
  | _ => none }
def fnExactPlainWeightsRow : OpenClaim := { program := "ytknjfeoijcelgaa", sum := "08900ee9bb6c58f911379690cce0405201a204dfa1281638d6c5c5b8ca786ba0", func := "loop.example/g00895/laws.FnExactPlainWeights", spec := "fnExactPlainWeights", apart := false }
def FnExactPlainWeightsSaid : Prop := fnExactPlainWeightsRow.holds Try.pinned (OpenSpec.ofChange fnExactPlainWeightsSpec)

/-- ITS FALSE NEIGHBOUR: 'it returns false'. Refute it at one input. -/
def fnExactPlainWeightsWrong : ChangeSpec := { name := "fnExactPlainWeights", fn := fun _ => fun
  | [d] => { results := [.lit (.bool false)], args := [d] }
  | _ => none }
def FnExactPlainWeightsWrongFalsely : Prop := fnExactPlainWeightsRow.holds Try.pinned (OpenSpec.ofChange fnExactPlainWeightsWrong)

/-- 'laws.FnExactSizePolys': WHATEVER THE INPUT: true; the input reads as it did. -/
def fnExactSizePolysSpec : ChangeSpec := { name := "fnExactSizePolys", fn := fun _ => fun
  | [d] => { results := [.lit (.bool true)], args := [d] }
  | _ => none }
def fnExactSizePolysRow : OpenClaim := { program := "ytknjfeoijcelgaa", sum := "08900ee9bb6c58f911379690cce0405201a204dfa1281638d6c5c5b8ca786ba0", func := "loop.example/g00895/laws.FnExactSizePolys", spec := "fnExactSizePolys", apart := false }
def FnExactSizePolysSaid : Prop := fnExactSizePolysRow.holds Try.pinned (OpenSpec.ofChange fnExactSizePolysSpec)

/-- ITS FALSE NEIGHBOUR: 'it returns false'. Refute it at one input. -/
def fnExactSizePolysWrong : ChangeSpec := { name := "fnExactSizePolys", fn := fun _ => fun
  | [d] => { results := [.lit (.bool false)], args := [d] }
  | _ => none }
def FnExactSizePolysWrongFalsely : Prop := fnExactSizePolysRow.holds Try.pinned (OpenSpec.ofChange fnExactSizePolysWrong)

/-- 'laws.FnExactPolysOk': WHATEVER THE INPUT: true; the input reads as it did. -/
def fnExactPolysOkSpec : ChangeSpec := { name := "fnExactPolysOk", fn := fun _ => fun
  | [d1, d2] => { results := [.lit (.bool true)], args := [d1, d2] }
  | _ => none }
def fnExactPolysOkRow : OpenClaim := { program := "ytknjfeoijcelgaa", sum := "08900ee9bb6c58f911379690cce0405201a204dfa1281638d6c5c5b8ca786ba0", func := "loop.example/g00895/laws.FnExactPolysOk", spec := "fnExactPolysOk", apart := false }
def FnExactPolysOkSaid : Prop := fnExactPolysOkRow.holds Try.pinned (OpenSpec.ofChange fnExactPolysOkSpec)

/-- ITS FALSE NEIGHBOUR: 'it returns false'. Refute it at one input. -/
def fnExactPolysOkWrong : ChangeSpec := { name := "fnExactPolysOk", fn := fun _ => fun
  | [d1, d2] => { results := [.lit (.bool false)], args := [d1, d2] }
  | _ => none }
def FnExactPolysOkWrongFalsely : Prop := fnExactPolysOkRow.holds Try.pinned (OpenSpec.ofChange fnExactPolysOkWrong)

/-- 'laws.FnExactWeightsOk': WHATEVER THE INPUT: true; the input reads as it did. -/
def fnExactWeightsOkSpec : ChangeSpec := { name := "fnExactWeightsOk", fn := fun _ => fun
  | [d1, d2] => { results := [.lit (.bool true)], args := [d1, d2] }
  | _ => none }
def fnExactWeightsOkRow : OpenClaim := { program := "ytknjfeoijcelgaa", sum := "08900ee9bb6c58f911379690cce0405201a204dfa1281638d6c5c5b8ca786ba0", func := "loop.example/g00895/laws.FnExactWeightsOk", spec := "fnExactWeightsOk", apart := false }
def FnExactWeightsOkSaid : Prop := fnExactWeightsOkRow.holds Try.pinned (OpenSpec.ofChange fnExactWeightsOkSpec)

/-- ITS FALSE NEIGHBOUR: 'it returns false'. Refute it at one input. -/
def fnExactWeightsOkWrong : ChangeSpec := { name := "fnExactWeightsOk", fn := fun _ => fun
  | [d1, d2] => { results := [.lit (.bool false)], args := [d1, d2] }
  | _ => none }
def FnExactWeightsOkWrongFalsely : Prop := fnExactWeightsOkRow.holds Try.pinned (OpenSpec.ofChange fnExactWeightsOkWrong)

/-- 'laws.FnExactMarkedOk': WHATEVER THE INPUT: true; the input reads as it did. -/
def fnExactMarkedOkSpec : ChangeSpec := { name := "fnExactMarkedOk", fn := fun _ => fun
  | [d1, d2] => { results := [.lit (.bool true)], args := [d1, d2] }
  | _ => none }
def fnExactMarkedOkRow : OpenClaim := { program := "ytknjfeoijcelgaa", sum := "08900ee9bb6c58f911379690cce0405201a204dfa1281638d6c5c5b8ca786ba0", func := "loop.example/g00895/laws.FnExactMarkedOk", spec := "fnExactMarkedOk", apart := false }
def FnExactMarkedOkSaid : Prop := fnExactMarkedOkRow.holds Try.pinned (OpenSpec.ofChange fnExactMarkedOkSpec)

/-- ITS FALSE NEIGHBOUR: 'it returns false'. Refute it at one input. -/
def fnExactMarkedOkWrong : ChangeSpec := { name := "fnExactMarkedOk", fn := fun _ => fun
  | [d1, d2] => { results := [.lit (.bool false)], args := [d1, d2] }
  | _ => none }
def FnExactMarkedOkWrongFalsely : Prop := fnExactMarkedOkRow.holds Try.pinned (OpenSpec.ofChange fnExactMarkedOkWrong)

/-- 'laws.FnExactOftenIn': WHATEVER THE INPUT: true; the input reads as it did. -/
def fnExactOftenInSpec : ChangeSpec := { name := "fnExactOftenIn", fn := fun _ => fun
  | [d1, d2, d3] => { results := [.lit (.bool true)], args := [d1, d2, d3] }
  | _ => none }
def fnExactOftenInRow : OpenClaim := { program := "ytknjfeoijcelgaa", sum := "08900ee9bb6c58f911379690cce0405201a204dfa1281638d6c5c5b8ca786ba0", func := "loop.example/g00895/laws.FnExactOftenIn", spec := "fnExactOftenIn", apart := false }
def FnExactOftenInSaid : Prop := fnExactOftenInRow.holds Try.pinned (OpenSpec.ofChange fnExactOftenInSpec)

/-- ITS FALSE NEIGHBOUR: 'it returns false'. Refute it at one input. -/
def fnExactOftenInWrong : ChangeSpec := { name := "fnExactOftenIn", fn := fun _ => fun
  | [d1, d2, d3] => { results := [.lit (.bool false)], args := [d1, d2, d3] }
  | _ => none }
def FnExactOftenInWrongFalsely : Prop := fnExactOftenInRow.holds Try.pinned (OpenSpec.ofChange fnExactOftenInWrong)

/-- 'laws.FnExactLightestOf': WHATEVER THE INPUT: true; the input reads as it did. -/
def fnExactLightestOfSpec : ChangeSpec := { name := "fnExactLightestOf", fn := fun _ => fun
  | [d1, d2] => { results := [.lit (.bool true)], args := [d1, d2] }
  | _ => none }
def fnExactLightestOfRow : OpenClaim := { program := "ytknjfeoijcelgaa", sum := "08900ee9bb6c58f911379690cce0405201a204dfa1281638d6c5c5b8ca786ba0", func := "loop.example/g00895/laws.FnExactLightestOf", spec := "fnExactLightestOf", apart := false }
def FnExactLightestOfSaid : Prop := fnExactLightestOfRow.holds Try.pinned (OpenSpec.ofChange fnExactLightestOfSpec)

/-- ITS FALSE NEIGHBOUR: 'it returns false'. Refute it at one input. -/
def fnExactLightestOfWrong : ChangeSpec := { name := "fnExactLightestOf", fn := fun _ => fun
  | [d1, d2] => { results := [.lit (.bool false)], args := [d1, d2] }
  | _ => none }
def FnExactLightestOfWrongFalsely : Prop := fnExactLightestOfRow.holds Try.pinned (OpenSpec.ofChange fnExactLightestOfWrong)

/-- 'laws.FnExactStrictIn': WHATEVER THE INPUT: true; the input reads as it did. -/
def fnExactStrictInSpec : ChangeSpec := { name := "fnExactStrictIn", fn := fun _ => fun
  | [d1, d2] => { results := [.lit (.bool true)], args := [d1, d2] }
  | _ => none }
def fnExactStrictInRow : OpenClaim := { program := "ytknjfeoijcelgaa", sum := "08900ee9bb6c58f911379690cce0405201a204dfa1281638d6c5c5b8ca786ba0", func := "loop.example/g00895/laws.FnExactStrictIn", spec := "fnExactStrictIn", unfollowed := true, recurses := true, apart := false }
def FnExactStrictInSaid : Prop := fnExactStrictInRow.holds Try.pinned (OpenSpec.ofChange fnExactStrictInSpec)

/-- ITS FALSE NEIGHBOUR: 'it returns false'. Refute it at one input. -/
def fnExactStrictInWrong : ChangeSpec := { name := "fnExactStrictIn", fn := fun _ => fun
  | [d1, d2] => { results := [.lit (.bool false)], args := [d1, d2] }
  | _ => none }
def FnExactStrictInWrongFalsely : Prop := fnExactStrictInRow.holds Try.pinned (OpenSpec.ofChange fnExactStrictInWrong)

/-- 'laws.FnPolyValues': WHATEVER THE INPUT: true; the input reads as it did. -/
def fnPolyValuesSpec : ChangeSpec := { name := "fnPolyValues", fn := fun _ => fun
  | [d] => { results := [.lit (.bool true)], args := [d] }
  | _ => none }
def fnPolyValuesRow : OpenClaim := { program := "ytknjfeoijcelgaa", sum := "08900ee9bb6c58f911379690cce0405201a204dfa1281638d6c5c5b8ca786ba0", func := "loop.example/g00895/laws.FnPolyValues", spec := "fnPolyValues", recurses := true, apart := false }
def FnPolyValuesSaid : Prop := fnPolyValuesRow.holds Try.pinned (OpenSpec.ofChange fnPolyValuesSpec)

/-- ITS FALSE NEIGHBOUR: 'it returns false'. Refute it at one input. -/
def fnPolyValuesWrong : ChangeSpec := { name := "fnPolyValues", fn := fun _ => fun
  | [d] => { results := [.lit (.bool false)], args := [d] }
  | _ => none }
def FnPolyValuesWrongFalsely : Prop := fnPolyValuesRow.holds Try.pinned (OpenSpec.ofChange fnPolyValuesWrong)

/- THE SECOND FORM. 'bulk': how many values and letters a reading holds, each counted each time it is reached (what is shared counts as often as it is met; a slice's spare places count too). A statement '..UptoSaid' is the law's where the arguments, and the package variables that the reading takes, are together of bulk at most 1048576: NARROWER than '..Said'. Prove '..Said' where nothing that the law and all that it calls make is longer than what came in: it says more and counts as full. Else prove '..UptoSaid'. A law counts once. -/
mutual
def uptoBulk {H : Type} : DataW H → Nat
  | .lit (.string bytes) => bytes.length + 1
  | .lit _ => 1
  | .nil => 1
  | .ptr d => uptoBulk d + 1
  | .slice elems spare => uptoBulkAll elems + uptoBulkAll spare + 1
  | .agg parts => uptoBulkAll parts + 1
  | .iface _ d => uptoBulk d + 1
  | .map entries => uptoBulkEntries entries + 1
  | .held _ => 1
def uptoBulkAll {H : Type} : List (DataW H) → Nat
  | [] => 0
  | d :: r => uptoBulk d + uptoBulkAll r
def uptoBulkEntries {H : Type} : List (Lit × DataW H) → Nat
  | [] => 0
  | x :: r => uptoBulkEntry x + uptoBulkEntries r
def uptoBulkEntry {H : Type} : Lit × DataW H → Nat
  | (.string bytes, d) => bytes.length + uptoBulk d + 1
  | (_, d) => uptoBulk d + 1
 end
def uptoSmall : (H : Type) → List (DataW H) → Bool := fun _ ds => decide (uptoBulkAll ds ≤ 1048576)
def OpenSpec.upto (s : _root_.Go.ChangeSpec) : _root_.Go.OpenSpec := { _root_.Go.OpenSpec.ofChange s with cond := some uptoSmall }

/-- 'laws.FnExactSameDep', WHERE WHAT IT READS IS OF BULK AT MOST 1048576: true; the input reads as it did. -/
def fnExactSameDepUptoRow : OpenClaim := { program := "ytknjfeoijcelgaa", sum := "08900ee9bb6c58f911379690cce0405201a204dfa1281638d6c5c5b8ca786ba0", func := "loop.example/g00895/laws.FnExactSameDep", spec := "fnExactSameDep", apart := false, narrowed := true }
def FnExactSameDepUptoSaid : Prop := fnExactSameDepUptoRow.holds Try.pinned (OpenSpec.upto fnExactSameDepSpec)

/-- 'laws.FnExactProjOk', WHERE WHAT IT READS IS OF BULK AT MOST 1048576: true; the input reads as it did. -/
def fnExactProjOkUptoRow : OpenClaim := { program := "ytknjfeoijcelgaa", sum := "08900ee9bb6c58f911379690cce0405201a204dfa1281638d6c5c5b8ca786ba0", func := "loop.example/g00895/laws.FnExactProjOk", spec := "fnExactProjOk", apart := false, narrowed := true }
def FnExactProjOkUptoSaid : Prop := fnExactProjOkUptoRow.holds Try.pinned (OpenSpec.upto fnExactProjOkSpec)

/-- 'laws.FnExactTriesFor', WHERE WHAT IT READS IS OF BULK AT MOST 1048576: true; the input reads as it did. -/
def fnExactTriesForUptoRow : OpenClaim := { program := "ytknjfeoijcelgaa", sum := "08900ee9bb6c58f911379690cce0405201a204dfa1281638d6c5c5b8ca786ba0", func := "loop.example/g00895/laws.FnExactTriesFor", spec := "fnExactTriesFor", apart := false, narrowed := true }
def FnExactTriesForUptoSaid : Prop := fnExactTriesForUptoRow.holds Try.pinned (OpenSpec.upto fnExactTriesForSpec)

/-- 'laws.FnExactPlainWeights', WHERE WHAT IT READS IS OF BULK AT MOST 1048576: true; the input reads as it did. -/
def fnExactPlainWeightsUptoRow : OpenClaim := { program := "ytknjfeoijcelgaa", sum := "08900ee9bb6c58f911379690cce0405201a204dfa1281638d6c5c5b8ca786ba0", func := "loop.example/g00895/laws.FnExactPlainWeights", spec := "fnExactPlainWeights", apart := false, narrowed := true }
def FnExactPlainWeightsUptoSaid : Prop := fnExactPlainWeightsUptoRow.holds Try.pinned (OpenSpec.upto fnExactPlainWeightsSpec)

/-- 'laws.FnExactSizePolys', WHERE WHAT IT READS IS OF BULK AT MOST 1048576: true; the input reads as it did. -/
def fnExactSizePolysUptoRow : OpenClaim := { program := "ytknjfeoijcelgaa", sum := "08900ee9bb6c58f911379690cce0405201a204dfa1281638d6c5c5b8ca786ba0", func := "loop.example/g00895/laws.FnExactSizePolys", spec := "fnExactSizePolys", apart := false, narrowed := true }
def FnExactSizePolysUptoSaid : Prop := fnExactSizePolysUptoRow.holds Try.pinned (OpenSpec.upto fnExactSizePolysSpec)

/-- 'laws.FnExactPolysOk', WHERE WHAT IT READS IS OF BULK AT MOST 1048576: true; the input reads as it did. -/
def fnExactPolysOkUptoRow : OpenClaim := { program := "ytknjfeoijcelgaa", sum := "08900ee9bb6c58f911379690cce0405201a204dfa1281638d6c5c5b8ca786ba0", func := "loop.example/g00895/laws.FnExactPolysOk", spec := "fnExactPolysOk", apart := false, narrowed := true }
def FnExactPolysOkUptoSaid : Prop := fnExactPolysOkUptoRow.holds Try.pinned (OpenSpec.upto fnExactPolysOkSpec)

/-- 'laws.FnExactWeightsOk', WHERE WHAT IT READS IS OF BULK AT MOST 1048576: true; the input reads as it did. -/
def fnExactWeightsOkUptoRow : OpenClaim := { program := "ytknjfeoijcelgaa", sum := "08900ee9bb6c58f911379690cce0405201a204dfa1281638d6c5c5b8ca786ba0", func := "loop.example/g00895/laws.FnExactWeightsOk", spec := "fnExactWeightsOk", apart := false, narrowed := true }
def FnExactWeightsOkUptoSaid : Prop := fnExactWeightsOkUptoRow.holds Try.pinned (OpenSpec.upto fnExactWeightsOkSpec)

/-- 'laws.FnExactMarkedOk', WHERE WHAT IT READS IS OF BULK AT MOST 1048576: true; the input reads as it did. -/
def fnExactMarkedOkUptoRow : OpenClaim := { program := "ytknjfeoijcelgaa", sum := "08900ee9bb6c58f911379690cce0405201a204dfa1281638d6c5c5b8ca786ba0", func := "loop.example/g00895/laws.FnExactMarkedOk", spec := "fnExactMarkedOk", apart := false, narrowed := true }
def FnExactMarkedOkUptoSaid : Prop := fnExactMarkedOkUptoRow.holds Try.pinned (OpenSpec.upto fnExactMarkedOkSpec)

/-- 'laws.FnExactOftenIn', WHERE WHAT IT READS IS OF BULK AT MOST 1048576: true; the input reads as it did. -/
def fnExactOftenInUptoRow : OpenClaim := { program := "ytknjfeoijcelgaa", sum := "08900ee9bb6c58f911379690cce0405201a204dfa1281638d6c5c5b8ca786ba0", func := "loop.example/g00895/laws.FnExactOftenIn", spec := "fnExactOftenIn", apart := false, narrowed := true }
def FnExactOftenInUptoSaid : Prop := fnExactOftenInUptoRow.holds Try.pinned (OpenSpec.upto fnExactOftenInSpec)

/-- 'laws.FnExactLightestOf', WHERE WHAT IT READS IS OF BULK AT MOST 1048576: true; the input reads as it did. -/
def fnExactLightestOfUptoRow : OpenClaim := { program := "ytknjfeoijcelgaa", sum := "08900ee9bb6c58f911379690cce0405201a204dfa1281638d6c5c5b8ca786ba0", func := "loop.example/g00895/laws.FnExactLightestOf", spec := "fnExactLightestOf", apart := false, narrowed := true }
def FnExactLightestOfUptoSaid : Prop := fnExactLightestOfUptoRow.holds Try.pinned (OpenSpec.upto fnExactLightestOfSpec)

/-- 'laws.FnExactStrictIn', WHERE WHAT IT READS IS OF BULK AT MOST 1048576: true; the input reads as it did. -/
def fnExactStrictInUptoRow : OpenClaim := { program := "ytknjfeoijcelgaa", sum := "08900ee9bb6c58f911379690cce0405201a204dfa1281638d6c5c5b8ca786ba0", func := "loop.example/g00895/laws.FnExactStrictIn", spec := "fnExactStrictIn", unfollowed := true, recurses := true, apart := false, narrowed := true }
def FnExactStrictInUptoSaid : Prop := fnExactStrictInUptoRow.holds Try.pinned (OpenSpec.upto fnExactStrictInSpec)

/-- 'laws.FnPolyValues', WHERE WHAT IT READS IS OF BULK AT MOST 1048576: true; the input reads as it did. -/
def fnPolyValuesUptoRow : OpenClaim := { program := "ytknjfeoijcelgaa", sum := "08900ee9bb6c58f911379690cce0405201a204dfa1281638d6c5c5b8ca786ba0", func := "loop.example/g00895/laws.FnPolyValues", spec := "fnPolyValues", recurses := true, apart := false, narrowed := true }
def FnPolyValuesUptoSaid : Prop := fnPolyValuesUptoRow.holds Try.pinned (OpenSpec.upto fnPolyValuesSpec)

end Rows
end Go.Proofs.Ytknjfeoijcelgaa
