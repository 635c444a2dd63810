/-
  No cell of these rows narrows 'for every input' (looked for: loops, veiled, ifaces, maps, wideKeys, modest, calm, conditions, laid).
  DERIVED. THE GIVEN ROWS OF THIS SEAT. 6 by the template 'for every input the law returns true; each argument reads behind the call as it read before'; 0 by the template 'total and deterministic' (their statements: YtpoollcdllagdaaTotals.lean).
  GIVEN WITH THE SEED: the statements are not yours to turn. If you find one false, say at which input.
  Laid BY PROGRAM, IN A SANDBOX (cutbox-rows.mjs): the forced cells as the released guide's own fill.sh prints them over the translation 9f9c3b38528481e6… (all of the seat's roots in one cut). By AI agents, Wed Nov 11 2026. No macro, syntax, notation, axiom, sorry.
-/
import Derived.Test.YtpoollcdllagdaaChecked
import GoSem.Claim
import GoSem.ClaimJoined
import GoSem.ClaimMapViews
import Derived.JoinedTies
import Derived.KernelRfl
namespace Go.Proofs.Ytpoollcdllagdaa
/- THE CELL 'sum', in the pinned program and in every row, IS THE sha256 OF THE DUMP (.gsa) THAT YtpoollcdllagdaaProg.lean LOADS. Nothing in Lean hashes anything: it is a label: what it is worth is what the hold of that sum in a sandbox is worth. -/
noncomputable def Try.pinned : Pinned := { name := "ytpoollcdllagdaa", sum := "9f9c3b38528481e6138b6fad967e6da19531b690285bd3476a8bc4a80333c1f7", checked := Try.checked }
namespace Rows
def none {H : Type} : Left H := { results := [], args := [] }

/-- 'laws.FnExactValueAt': WHATEVER THE INPUT: true; the input reads as it did. -/
def fnExactValueAtSpec : ChangeSpec := { name := "fnExactValueAt", fn := fun _ => fun
  | [d1, d2, d3, d4] => { results := [.lit (.bool true)], args := [d1, d2, d3, d4] }
  | _ => none }
def fnExactValueAtRow : OpenClaim := { program := "ytpoollcdllagdaa", sum := "9f9c3b38528481e6138b6fad967e6da19531b690285bd3476a8bc4a80333c1f7", func := "loop.example/g00895/laws.FnExactValueAt", spec := "fnExactValueAt", recurses := true, apart := false }
def FnExactValueAtSaid : Prop := fnExactValueAtRow.holds Try.pinned (OpenSpec.ofChange fnExactValueAtSpec)

/-- ITS FALSE NEIGHBOUR: 'it returns false'. Refute it at one input. -/
def fnExactValueAtWrong : ChangeSpec := { name := "fnExactValueAt", fn := fun _ => fun
  | [d1, d2, d3, d4] => { results := [.lit (.bool false)], args := [d1, d2, d3, d4] }
  | _ => none }
def FnExactValueAtWrongFalsely : Prop := fnExactValueAtRow.holds Try.pinned (OpenSpec.ofChange fnExactValueAtWrong)

/-- 'laws.FnExactPairLess': WHATEVER THE INPUT: true; the input reads as it did. -/
def fnExactPairLessSpec : ChangeSpec := { name := "fnExactPairLess", fn := fun _ => fun
  | [d1, d2, d3] => { results := [.lit (.bool true)], args := [d1, d2, d3] }
  | _ => none }
def fnExactPairLessRow : OpenClaim := { program := "ytpoollcdllagdaa", sum := "9f9c3b38528481e6138b6fad967e6da19531b690285bd3476a8bc4a80333c1f7", func := "loop.example/g00895/laws.FnExactPairLess", spec := "fnExactPairLess", recurses := true, apart := false }
def FnExactPairLessSaid : Prop := fnExactPairLessRow.holds Try.pinned (OpenSpec.ofChange fnExactPairLessSpec)

/-- ITS FALSE NEIGHBOUR: 'it returns false'. Refute it at one input. -/
def fnExactPairLessWrong : ChangeSpec := { name := "fnExactPairLess", fn := fun _ => fun
  | [d1, d2, d3] => { results := [.lit (.bool false)], args := [d1, d2, d3] }
  | _ => none }
def FnExactPairLessWrongFalsely : Prop := fnExactPairLessRow.holds Try.pinned (OpenSpec.ofChange fnExactPairLessWrong)

/-- 'laws.FnExactPairAtMost': WHATEVER THE INPUT: true; the input reads as it did. -/
def fnExactPairAtMostSpec : ChangeSpec := { name := "fnExactPairAtMost", fn := fun _ => fun
  | [d1, d2, d3] => { results := [.lit (.bool true)], args := [d1, d2, d3] }
  | _ => none }
def fnExactPairAtMostRow : OpenClaim := { program := "ytpoollcdllagdaa", sum := "9f9c3b38528481e6138b6fad967e6da19531b690285bd3476a8bc4a80333c1f7", func := "loop.example/g00895/laws.FnExactPairAtMost", spec := "fnExactPairAtMost", recurses := true, apart := false }
def FnExactPairAtMostSaid : Prop := fnExactPairAtMostRow.holds Try.pinned (OpenSpec.ofChange fnExactPairAtMostSpec)

/-- ITS FALSE NEIGHBOUR: 'it returns false'. Refute it at one input. -/
def fnExactPairAtMostWrong : ChangeSpec := { name := "fnExactPairAtMost", fn := fun _ => fun
  | [d1, d2, d3] => { results := [.lit (.bool false)], args := [d1, d2, d3] }
  | _ => none }
def FnExactPairAtMostWrongFalsely : Prop := fnExactPairAtMostRow.holds Try.pinned (OpenSpec.ofChange fnExactPairAtMostWrong)

/-- 'laws.FnExactHeadForm': WHATEVER THE INPUT: true; the input reads as it did. -/
def fnExactHeadFormSpec : ChangeSpec := { name := "fnExactHeadForm", fn := fun _ => fun
  | [d1, d2, d3] => { results := [.lit (.bool true)], args := [d1, d2, d3] }
  | _ => none }
def fnExactHeadFormRow : OpenClaim := { program := "ytpoollcdllagdaa", sum := "9f9c3b38528481e6138b6fad967e6da19531b690285bd3476a8bc4a80333c1f7", func := "loop.example/g00895/laws.FnExactHeadForm", spec := "fnExactHeadForm", recurses := true, apart := false }
def FnExactHeadFormSaid : Prop := fnExactHeadFormRow.holds Try.pinned (OpenSpec.ofChange fnExactHeadFormSpec)

/-- ITS FALSE NEIGHBOUR: 'it returns false'. Refute it at one input. -/
def fnExactHeadFormWrong : ChangeSpec := { name := "fnExactHeadForm", fn := fun _ => fun
  | [d1, d2, d3] => { results := [.lit (.bool false)], args := [d1, d2, d3] }
  | _ => none }
def FnExactHeadFormWrongFalsely : Prop := fnExactHeadFormRow.holds Try.pinned (OpenSpec.ofChange fnExactHeadFormWrong)

/-- 'laws.FnExactPolyOrients': WHATEVER THE INPUT: true; the input reads as it did. -/
def fnExactPolyOrientsSpec : ChangeSpec := { name := "fnExactPolyOrients", fn := fun _ => fun
  | [d1, d2] => { results := [.lit (.bool true)], args := [d1, d2] }
  | _ => none }
def fnExactPolyOrientsRow : OpenClaim := { program := "ytpoollcdllagdaa", sum := "9f9c3b38528481e6138b6fad967e6da19531b690285bd3476a8bc4a80333c1f7", func := "loop.example/g00895/laws.FnExactPolyOrients", spec := "fnExactPolyOrients", unfollowed := true, recurses := true, apart := false }
def FnExactPolyOrientsSaid : Prop := fnExactPolyOrientsRow.holds Try.pinned (OpenSpec.ofChange fnExactPolyOrientsSpec)

/-- ITS FALSE NEIGHBOUR: 'it returns false'. Refute it at one input. -/
def fnExactPolyOrientsWrong : ChangeSpec := { name := "fnExactPolyOrients", fn := fun _ => fun
  | [d1, d2] => { results := [.lit (.bool false)], args := [d1, d2] }
  | _ => none }
def FnExactPolyOrientsWrongFalsely : Prop := fnExactPolyOrientsRow.holds Try.pinned (OpenSpec.ofChange fnExactPolyOrientsWrong)

/-- 'laws.FnExactPolyAllows': WHATEVER THE INPUT: true; the input reads as it did. -/
def fnExactPolyAllowsSpec : ChangeSpec := { name := "fnExactPolyAllows", fn := fun _ => fun
  | [d1, d2] => { results := [.lit (.bool true)], args := [d1, d2] }
  | _ => none }
def fnExactPolyAllowsRow : OpenClaim := { program := "ytpoollcdllagdaa", sum := "9f9c3b38528481e6138b6fad967e6da19531b690285bd3476a8bc4a80333c1f7", func := "loop.example/g00895/laws.FnExactPolyAllows", spec := "fnExactPolyAllows", recurses := true, apart := false }
def FnExactPolyAllowsSaid : Prop := fnExactPolyAllowsRow.holds Try.pinned (OpenSpec.ofChange fnExactPolyAllowsSpec)

/-- ITS FALSE NEIGHBOUR: 'it returns false'. Refute it at one input. -/
def fnExactPolyAllowsWrong : ChangeSpec := { name := "fnExactPolyAllows", fn := fun _ => fun
  | [d1, d2] => { results := [.lit (.bool false)], args := [d1, d2] }
  | _ => none }
def FnExactPolyAllowsWrongFalsely : Prop := fnExactPolyAllowsRow.holds Try.pinned (OpenSpec.ofChange fnExactPolyAllowsWrong)

/- THE SECOND FORM. 'bulk': how many values and letters a reading holds, each counted each time it is reached (what is shared counts as often as it is met; a slice's spare places count too). A statement '..UptoSaid' is the law's where the arguments, and the package variables that the reading takes, are together of bulk at most 1048576: NARROWER than '..Said'. Prove '..Said' where nothing that the law and all that it calls make is longer than what came in: it says more and counts as full. Else prove '..UptoSaid'. A law counts once. -/
mutual
def uptoBulk {H : Type} : DataW H → Nat
  | .lit (.string bytes) => bytes.length + 1
  | .lit _ => 1
  | .nil => 1
  | .ptr d => uptoBulk d + 1
  | .slice elems spare => uptoBulkAll elems + uptoBulkAll spare + 1
  | .agg parts => uptoBulkAll parts + 1
  | .iface _ d => uptoBulk d + 1
  | .map entries => uptoBulkEntries entries + 1
  | .held _ => 1
def uptoBulkAll {H : Type} : List (DataW H) → Nat
  | [] => 0
  | d :: r => uptoBulk d + uptoBulkAll r
def uptoBulkEntries {H : Type} : List (Lit × DataW H) → Nat
  | [] => 0
  | x :: r => uptoBulkEntry x + uptoBulkEntries r
def uptoBulkEntry {H : Type} : Lit × DataW H → Nat
  | (.string bytes, d) => bytes.length + uptoBulk d + 1
  | (_, d) => uptoBulk d + 1
 end
def uptoSmall : (H : Type) → List (DataW H) → Bool := fun _ ds => decide (uptoBulkAll ds ≤ 1048576)
def OpenSpec.upto (s : _root_.Go.ChangeSpec) : _root_.Go.OpenSpec := { _root_.Go.OpenSpec.ofChange s with cond := some uptoSmall }

/-- 'laws.FnExactValueAt', WHERE WHAT IT READS IS OF BULK AT MOST 1048576: true; the input reads as it did. -/
def fnExactValueAtUptoRow : OpenClaim := { program := "ytpoollcdllagdaa", sum := "9f9c3b38528481e6138b6fad967e6da19531b690285bd3476a8bc4a80333c1f7", func := "loop.example/g00895/laws.FnExactValueAt", spec := "fnExactValueAt", recurses := true, apart := false, narrowed := true }
def FnExactValueAtUptoSaid : Prop := fnExactValueAtUptoRow.holds Try.pinned (OpenSpec.upto fnExactValueAtSpec)

/-- 'laws.FnExactPairLess', WHERE WHAT IT READS IS OF BULK AT MOST 1048576: true; the input reads as it did. -/
def fnExactPairLessUptoRow : OpenClaim := { program := "ytpoollcdllagdaa", sum := "9f9c3b38528481e6138b6fad967e6da19531b690285bd3476a8bc4a80333c1f7", func := "loop.example/g00895/laws.FnExactPairLess", spec := "fnExactPairLess", recurses := true, apart := false, narrowed := true }
def FnExactPairLessUptoSaid : Prop := fnExactPairLessUptoRow.holds Try.pinned (OpenSpec.upto fnExactPairLessSpec)

/-- 'laws.FnExactPairAtMost', WHERE WHAT IT READS IS OF BULK AT MOST 1048576: true; the input reads as it did. -/
def fnExactPairAtMostUptoRow : OpenClaim := { program := "ytpoollcdllagdaa", sum := "9f9c3b38528481e6138b6fad967e6da19531b690285bd3476a8bc4a80333c1f7", func := "loop.example/g00895/laws.FnExactPairAtMost", spec := "fnExactPairAtMost", recurses := true, apart := false, narrowed := true }
def FnExactPairAtMostUptoSaid : Prop := fnExactPairAtMostUptoRow.holds Try.pinned (OpenSpec.upto fnExactPairAtMostSpec)

/-- 'laws.FnExactHeadForm', WHERE WHAT IT READS IS OF BULK AT MOST 1048576: true; the input reads as it did. -/
def fnExactHeadFormUptoRow : OpenClaim := { program := "ytpoollcdllagdaa", sum := "9f9c3b38528481e6138b6fad967e6da19531b690285bd3476a8bc4a80333c1f7", func := "loop.example/g00895/laws.FnExactHeadForm", spec := "fnExactHeadForm", recurses := true, apart := false, narrowed := true }
def FnExactHeadFormUptoSaid : Prop := fnExactHeadFormUptoRow.holds Try.pinned (OpenSpec.upto fnExactHeadFormSpec)

/-- 'laws.FnExactPolyOrients', WHERE WHAT IT READS IS OF BULK AT MOST 1048576: true; the input reads as it did. -/
def fnExactPolyOrientsUptoRow : OpenClaim := { program := "ytpoollcdllagdaa", sum := "9f9c3b38528481e6138b6fad967e6da19531b690285bd3476a8bc4a80333c1f7", func := "loop.example/g00895/laws.FnExactPolyOrients", spec := "fnExactPolyOrients", unfollowed := true, recurses := true, apart := false, narrowed := true }
def FnExactPolyOrientsUptoSaid : Prop := fnExactPolyOrientsUptoRow.holds Try.pinned (OpenSpec.upto fnExactPolyOrientsSpec)

/-- 'laws.FnExactPolyAllows', WHERE WHAT IT READS IS OF BULK AT MOST 1048576: true; the input reads as it did. -/
def fnExactPolyAllowsUptoRow : OpenClaim := { program := "ytpoollcdllagdaa", sum := "9f9c3b38528481e6138b6fad967e6da19531b690285bd3476a8bc4a80333c1f7", func := "loop.example/g00895/laws.FnExactPolyAllows", spec := "fnExactPolyAllows", recurses := true, apart := false, narrowed := true }
def FnExactPolyAllowsUptoSaid : Prop := fnExactPolyAllowsUptoRow.holds Try.pinned (OpenSpec.upto fnExactPolyAllowsSpec)

end Rows
end Go.Proofs.Ytpoollcdllagdaa
