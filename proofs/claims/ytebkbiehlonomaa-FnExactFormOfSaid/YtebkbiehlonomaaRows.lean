/-
  No cell of these rows narrows 'for every input' (looked for: loops, veiled, ifaces, maps, wideKeys, modest, calm, conditions, laid).
  DERIVED. THE GIVEN ROWS OF THIS SEAT. 6 by the template 'for every input the law returns true; each argument reads behind the call as it read before'; 0 by the template 'total and deterministic' (their statements: YtebkbiehlonomaaTotals.lean).
  GIVEN WITH THE SEED: the statements are not yours to turn. If you find one false, say at which input.
  Laid BY PROGRAM, IN A SANDBOX (cutbox-rows.mjs): the forced cells as the released guide's own fill.sh prints them over the translation 04dfa406673362f0… (all of the seat's roots in one cut). By AI agents, Wed Nov 11 2026. No macro, syntax, notation, axiom, sorry.
-/
import Derived.Test.YtebkbiehlonomaaChecked
import GoSem.Claim
import GoSem.ClaimJoined
import GoSem.ClaimMapViews
import Derived.JoinedTies
import Derived.KernelRfl
namespace Go.Proofs.Ytebkbiehlonomaa
/- THE CELL 'sum', in the pinned program and in every row, IS THE sha256 OF THE DUMP (.gsa) THAT YtebkbiehlonomaaProg.lean LOADS. Nothing in Lean hashes anything: it is a label: what it is worth is what the hold of that sum in a sandbox is worth. -/
noncomputable def Try.pinned : Pinned := { name := "ytebkbiehlonomaa", sum := "04dfa406673362f059dd55f7552993b8157c7b601ed9c76a66e21ce65392f560", checked := Try.checked }
namespace Rows
def none {H : Type} : Left H := { results := [], args := [] }

/-- 'laws.FnExactPolyLess': WHATEVER THE INPUT: true; the input reads as it did. -/
def fnExactPolyLessSpec : ChangeSpec := { name := "fnExactPolyLess", fn := fun _ => fun
  | [d1, d2, d3, d4] => { results := [.lit (.bool true)], args := [d1, d2, d3, d4] }
  | _ => none }
def fnExactPolyLessRow : OpenClaim := { program := "ytebkbiehlonomaa", sum := "04dfa406673362f059dd55f7552993b8157c7b601ed9c76a66e21ce65392f560", func := "loop.example/g00895/laws.FnExactPolyLess", spec := "fnExactPolyLess", recurses := true, apart := false }
def FnExactPolyLessSaid : Prop := fnExactPolyLessRow.holds Try.pinned (OpenSpec.ofChange fnExactPolyLessSpec)

/-- ITS FALSE NEIGHBOUR: 'it returns false'. Refute it at one input. -/
def fnExactPolyLessWrong : ChangeSpec := { name := "fnExactPolyLess", fn := fun _ => fun
  | [d1, d2, d3, d4] => { results := [.lit (.bool false)], args := [d1, d2, d3, d4] }
  | _ => none }
def FnExactPolyLessWrongFalsely : Prop := fnExactPolyLessRow.holds Try.pinned (OpenSpec.ofChange fnExactPolyLessWrong)

/-- 'laws.FnExactPolyAtMost': WHATEVER THE INPUT: true; the input reads as it did. -/
def fnExactPolyAtMostSpec : ChangeSpec := { name := "fnExactPolyAtMost", fn := fun _ => fun
  | [d1, d2, d3, d4] => { results := [.lit (.bool true)], args := [d1, d2, d3, d4] }
  | _ => none }
def fnExactPolyAtMostRow : OpenClaim := { program := "ytebkbiehlonomaa", sum := "04dfa406673362f059dd55f7552993b8157c7b601ed9c76a66e21ce65392f560", func := "loop.example/g00895/laws.FnExactPolyAtMost", spec := "fnExactPolyAtMost", recurses := true, apart := false }
def FnExactPolyAtMostSaid : Prop := fnExactPolyAtMostRow.holds Try.pinned (OpenSpec.ofChange fnExactPolyAtMostSpec)

/-- ITS FALSE NEIGHBOUR: 'it returns false'. Refute it at one input. -/
def fnExactPolyAtMostWrong : ChangeSpec := { name := "fnExactPolyAtMost", fn := fun _ => fun
  | [d1, d2, d3, d4] => { results := [.lit (.bool false)], args := [d1, d2, d3, d4] }
  | _ => none }
def FnExactPolyAtMostWrongFalsely : Prop := fnExactPolyAtMostRow.holds Try.pinned (OpenSpec.ofChange fnExactPolyAtMostWrong)

/-- 'laws.FnExactFormOf': WHATEVER THE INPUT: true; the input reads as it did. -/
def fnExactFormOfSpec : ChangeSpec := { name := "fnExactFormOf", fn := fun _ => fun
  | [d1, d2, d3] => { results := [.lit (.bool true)], args := [d1, d2, d3] }
  | _ => none }
def fnExactFormOfRow : OpenClaim := { program := "ytebkbiehlonomaa", sum := "04dfa406673362f059dd55f7552993b8157c7b601ed9c76a66e21ce65392f560", func := "loop.example/g00895/laws.FnExactFormOf", spec := "fnExactFormOf", recurses := true, apart := false }
def FnExactFormOfSaid : Prop := fnExactFormOfRow.holds Try.pinned (OpenSpec.ofChange fnExactFormOfSpec)

/-- ITS FALSE NEIGHBOUR: 'it returns false'. Refute it at one input. -/
def fnExactFormOfWrong : ChangeSpec := { name := "fnExactFormOf", fn := fun _ => fun
  | [d1, d2, d3] => { results := [.lit (.bool false)], args := [d1, d2, d3] }
  | _ => none }
def FnExactFormOfWrongFalsely : Prop := fnExactFormOfRow.holds Try.pinned (OpenSpec.ofChange fnExactFormOfWrong)

/-- 'laws.FnExactValueAt': WHATEVER THE INPUT: true; the input reads as it did. -/
def fnExactValueAtSpec : ChangeSpec := { name := "fnExactValueAt", fn := fun _ => fun
  | [d1, d2, d3, d4] => { results := [.lit (.bool true)], args := [d1, d2, d3, d4] }
  | _ => none }
def fnExactValueAtRow : OpenClaim := { program := "ytebkbiehlonomaa", sum := "04dfa406673362f059dd55f7552993b8157c7b601ed9c76a66e21ce65392f560", func := "loop.example/g00895/laws.FnExactValueAt", spec := "fnExactValueAt", recurses := true, apart := false }
def FnExactValueAtSaid : Prop := fnExactValueAtRow.holds Try.pinned (OpenSpec.ofChange fnExactValueAtSpec)

/-- ITS FALSE NEIGHBOUR: 'it returns false'. Refute it at one input. -/
def fnExactValueAtWrong : ChangeSpec := { name := "fnExactValueAt", fn := fun _ => fun
  | [d1, d2, d3, d4] => { results := [.lit (.bool false)], args := [d1, d2, d3, d4] }
  | _ => none }
def FnExactValueAtWrongFalsely : Prop := fnExactValueAtRow.holds Try.pinned (OpenSpec.ofChange fnExactValueAtWrong)

/-- 'laws.FnExactPairLess': WHATEVER THE INPUT: true; the input reads as it did. -/
def fnExactPairLessSpec : ChangeSpec := { name := "fnExactPairLess", fn := fun _ => fun
  | [d1, d2, d3] => { results := [.lit (.bool true)], args := [d1, d2, d3] }
  | _ => none }
def fnExactPairLessRow : OpenClaim := { program := "ytebkbiehlonomaa", sum := "04dfa406673362f059dd55f7552993b8157c7b601ed9c76a66e21ce65392f560", func := "loop.example/g00895/laws.FnExactPairLess", spec := "fnExactPairLess", recurses := true, apart := false }
def FnExactPairLessSaid : Prop := fnExactPairLessRow.holds Try.pinned (OpenSpec.ofChange fnExactPairLessSpec)

/-- ITS FALSE NEIGHBOUR: 'it returns false'. Refute it at one input. -/
def fnExactPairLessWrong : ChangeSpec := { name := "fnExactPairLess", fn := fun _ => fun
  | [d1, d2, d3] => { results := [.lit (.bool false)], args := [d1, d2, d3] }
  | _ => none }
def FnExactPairLessWrongFalsely : Prop := fnExactPairLessRow.holds Try.pinned (OpenSpec.ofChange fnExactPairLessWrong)

/-- 'laws.FnExactPairAtMost': WHATEVER THE INPUT: true; the input reads as it did. -/
def fnExactPairAtMostSpec : ChangeSpec := { name := "fnExactPairAtMost", fn := fun _ => fun
  | [d1, d2, d3] => { results := [.lit (.bool true)], args := [d1, d2, d3] }
  | _ => none }
def fnExactPairAtMostRow : OpenClaim := { program := "ytebkbiehlonomaa", sum := "04dfa406673362f059dd55f7552993b8157c7b601ed9c76a66e21ce65392f560", func := "loop.example/g00895/laws.FnExactPairAtMost", spec := "fnExactPairAtMost", recurses := true, apart := false }
def FnExactPairAtMostSaid : Prop := fnExactPairAtMostRow.holds Try.pinned (OpenSpec.ofChange fnExactPairAtMostSpec)

/-- ITS FALSE NEIGHBOUR: 'it returns false'. Refute it at one input. -/
def fnExactPairAtMostWrong : ChangeSpec := { name := "fnExactPairAtMost", fn := fun _ => fun
  | [d1, d2, d3] => { results := [.lit (.bool false)], args := [d1, d2, d3] }
  | _ => none }
def FnExactPairAtMostWrongFalsely : Prop := fnExactPairAtMostRow.holds Try.pinned (OpenSpec.ofChange fnExactPairAtMostWrong)

/- THE SECOND FORM. 'bulk': how many values and letters a reading holds, each counted each time it is reached (what is shared counts as often as it is met; a slice's spare places count too). A statement '..UptoSaid' is the law's where the arguments, and the package variables that the reading takes, are together of bulk at most 1048576: NARROWER than '..Said'. Prove '..Said' where nothing that the law and all that it calls make is longer than what came in: it says more and counts as full. Else prove '..UptoSaid'. A law counts once. -/
mutual
def uptoBulk {H : Type} : DataW H → Nat
  | .lit (.string bytes) => bytes.length + 1
  | .lit _ => 1
  | .nil => 1
  | .ptr d => uptoBulk d + 1
  | .slice elems spare => uptoBulkAll elems + uptoBulkAll spare + 1
  | .agg parts => uptoBulkAll parts + 1
  | .iface _ d => uptoBulk d + 1
  | .map entries => uptoBulkEntries entries + 1
  | .held _ => 1
def uptoBulkAll {H : Type} : List (DataW H) → Nat
  | [] => 0
  | d :: r => uptoBulk d + uptoBulkAll r
def uptoBulkEntries {H : Type} : List (Lit × DataW H) → Nat
  | [] => 0
  | x :: r => uptoBulkEntry x + uptoBulkEntries r
def uptoBulkEntry {H : Type} : Lit × DataW H → Nat
  | (.string bytes, d) => bytes.length + uptoBulk d + 1
  | (_, d) => uptoBulk d + 1
 end
def uptoSmall : (H : Type) → List (DataW H) → Bool := fun _ ds => decide (uptoBulkAll ds ≤ 1048576)
def OpenSpec.upto (s : _root_.Go.ChangeSpec) : _root_.Go.OpenSpec := { _root_.Go.OpenSpec.ofChange s with cond := some uptoSmall }

/-- 'laws.FnExactPolyLess', WHERE WHAT IT READS IS OF BULK AT MOST 1048576: true; the input reads as it did. -/
def fnExactPolyLessUptoRow : OpenClaim := { program := "ytebkbiehlonomaa", sum := "04dfa406673362f059dd55f7552993b8157c7b601ed9c76a66e21ce65392f560", func := "loop.example/g00895/laws.FnExactPolyLess", spec := "fnExactPolyLess", recurses := true, apart := false, narrowed := true }
def FnExactPolyLessUptoSaid : Prop := fnExactPolyLessUptoRow.holds Try.pinned (OpenSpec.upto fnExactPolyLessSpec)

/-- 'laws.FnExactPolyAtMost', WHERE WHAT IT READS IS OF BULK AT MOST 1048576: true; the input reads as it did. -/
def fnExactPolyAtMostUptoRow : OpenClaim := { program := "ytebkbiehlonomaa", sum := "04dfa406673362f059dd55f7552993b8157c7b601ed9c76a66e21ce65392f560", func := "loop.example/g00895/laws.FnExactPolyAtMost", spec := "fnExactPolyAtMost", recurses := true, apart := false, narrowed := true }
def FnExactPolyAtMostUptoSaid : Prop := fnExactPolyAtMostUptoRow.holds Try.pinned (OpenSpec.upto fnExactPolyAtMostSpec)

/-- 'laws.FnExactFormOf', WHERE WHAT IT READS IS OF BULK AT MOST 1048576: true; the input reads as it did. -/
def fnExactFormOfUptoRow : OpenClaim := { program := "ytebkbiehlonomaa", sum := "04dfa406673362f059dd55f7552993b8157c7b601ed9c76a66e21ce65392f560", func := "loop.example/g00895/laws.FnExactFormOf", spec := "fnExactFormOf", recurses := true, apart := false, narrowed := true }
def FnExactFormOfUptoSaid : Prop := fnExactFormOfUptoRow.holds Try.pinned (OpenSpec.upto fnExactFormOfSpec)

/-- 'laws.FnExactValueAt', WHERE WHAT IT READS IS OF BULK AT MOST 1048576: true; the input reads as it did. -/
def fnExactValueAtUptoRow : OpenClaim := { program := "ytebkbiehlonomaa", sum := "04dfa406673362f059dd55f7552993b8157c7b601ed9c76a66e21ce65392f560", func := "loop.example/g00895/laws.FnExactValueAt", spec := "fnExactValueAt", recurses := true, apart := false, narrowed := true }
def FnExactValueAtUptoSaid : Prop := fnExactValueAtUptoRow.holds Try.pinned (OpenSpec.upto fnExactValueAtSpec)

/-- 'laws.FnExactPairLess', WHERE WHAT IT READS IS OF BULK AT MOST 1048576: true; the input reads as it did. -/
def fnExactPairLessUptoRow : OpenClaim := { program := "ytebkbiehlonomaa", sum := "04dfa406673362f059dd55f7552993b8157c7b601ed9c76a66e21ce65392f560", func := "loop.example/g00895/laws.FnExactPairLess", spec := "fnExactPairLess", recurses := true, apart := false, narrowed := true }
def FnExactPairLessUptoSaid : Prop := fnExactPairLessUptoRow.holds Try.pinned (OpenSpec.upto fnExactPairLessSpec)

/-- 'laws.FnExactPairAtMost', WHERE WHAT IT READS IS OF BULK AT MOST 1048576: true; the input reads as it did. -/
def fnExactPairAtMostUptoRow : OpenClaim := { program := "ytebkbiehlonomaa", sum := "04dfa406673362f059dd55f7552993b8157c7b601ed9c76a66e21ce65392f560", func := "loop.example/g00895/laws.FnExactPairAtMost", spec := "fnExactPairAtMost", recurses := true, apart := false, narrowed := true }
def FnExactPairAtMostUptoSaid : Prop := fnExactPairAtMostUptoRow.holds Try.pinned (OpenSpec.upto fnExactPairAtMostSpec)

end Rows
end Go.Proofs.Ytebkbiehlonomaa
