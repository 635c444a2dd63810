/-
  No cell of these rows narrows 'for every input' (looked for: loops, veiled, ifaces, maps, wideKeys, modest, calm, conditions, laid).
  DERIVED. THE GIVEN ROWS OF THIS SEAT. 6 by the template 'for every input the law returns true; each argument reads behind the call as it read before'; 0 by the template 'total and deterministic' (their statements: YtkdopciihhhdkaaTotals.lean).
  GIVEN WITH THE SEED: the statements are not yours to turn. If you find one false, say at which input.
  Laid BY PROGRAM, IN A SANDBOX (cutbox-rows.mjs): the forced cells as the released guide's own fill.sh prints them over the translation ed04f7695b22555e… (all of the seat's roots in one cut). By AI agents, Wed Nov 11 2026. No macro, syntax, notation, axiom, sorry.
-/
import Derived.Test.YtkdopciihhhdkaaChecked
import GoSem.Claim
import GoSem.ClaimJoined
import GoSem.ClaimMapViews
import Derived.JoinedTies
import Derived.KernelRfl
namespace Go.Proofs.Ytkdopciihhhdkaa
/- THE CELL 'sum', in the pinned program and in every row, IS THE sha256 OF THE DUMP (.gsa) THAT YtkdopciihhhdkaaProg.lean LOADS. Nothing in Lean hashes anything: it is a label: what it is worth is what the hold of that sum in a sandbox is worth. -/
noncomputable def Try.pinned : Pinned := { name := "ytkdopciihhhdkaa", sum := "ed04f7695b22555e78ee9d3e35923dd20a724471a7c5323caefce0f8de38ddaa", checked := Try.checked }
namespace Rows
def none {H : Type} : Left H := { results := [], args := [] }

/-- 'laws.FnExactUsableOf': WHATEVER THE INPUT: true; the input reads as it did. -/
def fnExactUsableOfSpec : ChangeSpec := { name := "fnExactUsableOf", fn := fun _ => fun
  | [d1, d2] => { results := [.lit (.bool true)], args := [d1, d2] }
  | _ => none }
def fnExactUsableOfRow : OpenClaim := { program := "ytkdopciihhhdkaa", sum := "ed04f7695b22555e78ee9d3e35923dd20a724471a7c5323caefce0f8de38ddaa", func := "loop.example/g00895/laws.FnExactUsableOf", spec := "fnExactUsableOf", apart := false }
def FnExactUsableOfSaid : Prop := fnExactUsableOfRow.holds Try.pinned (OpenSpec.ofChange fnExactUsableOfSpec)

/-- ITS FALSE NEIGHBOUR: 'it returns false'. Refute it at one input. -/
def fnExactUsableOfWrong : ChangeSpec := { name := "fnExactUsableOf", fn := fun _ => fun
  | [d1, d2] => { results := [.lit (.bool false)], args := [d1, d2] }
  | _ => none }
def FnExactUsableOfWrongFalsely : Prop := fnExactUsableOfRow.holds Try.pinned (OpenSpec.ofChange fnExactUsableOfWrong)

/-- 'laws.FnExactLpoWhy': WHATEVER THE INPUT: true; the input reads as it did. -/
def fnExactLpoWhySpec : ChangeSpec := { name := "fnExactLpoWhy", fn := fun _ => fun
  | [d1, d2, d3, d4] => { results := [.lit (.bool true)], args := [d1, d2, d3, d4] }
  | _ => none }
def fnExactLpoWhyRow : OpenClaim := { program := "ytkdopciihhhdkaa", sum := "ed04f7695b22555e78ee9d3e35923dd20a724471a7c5323caefce0f8de38ddaa", func := "loop.example/g00895/laws.FnExactLpoWhy", spec := "fnExactLpoWhy", unfollowed := true, recurses := true, apart := false }
def FnExactLpoWhySaid : Prop := fnExactLpoWhyRow.holds Try.pinned (OpenSpec.ofChange fnExactLpoWhySpec)

/-- ITS FALSE NEIGHBOUR: 'it returns false'. Refute it at one input. -/
def fnExactLpoWhyWrong : ChangeSpec := { name := "fnExactLpoWhy", fn := fun _ => fun
  | [d1, d2, d3, d4] => { results := [.lit (.bool false)], args := [d1, d2, d3, d4] }
  | _ => none }
def FnExactLpoWhyWrongFalsely : Prop := fnExactLpoWhyRow.holds Try.pinned (OpenSpec.ofChange fnExactLpoWhyWrong)

/-- 'laws.FnExactLpoLess': WHATEVER THE INPUT: true; the input reads as it did. -/
def fnExactLpoLessSpec : ChangeSpec := { name := "fnExactLpoLess", fn := fun _ => fun
  | [d1, d2, d3, d4] => { results := [.lit (.bool true)], args := [d1, d2, d3, d4] }
  | _ => none }
def fnExactLpoLessRow : OpenClaim := { program := "ytkdopciihhhdkaa", sum := "ed04f7695b22555e78ee9d3e35923dd20a724471a7c5323caefce0f8de38ddaa", func := "loop.example/g00895/laws.FnExactLpoLess", spec := "fnExactLpoLess", unfollowed := true, recurses := true, apart := false }
def FnExactLpoLessSaid : Prop := fnExactLpoLessRow.holds Try.pinned (OpenSpec.ofChange fnExactLpoLessSpec)

/-- ITS FALSE NEIGHBOUR: 'it returns false'. Refute it at one input. -/
def fnExactLpoLessWrong : ChangeSpec := { name := "fnExactLpoLess", fn := fun _ => fun
  | [d1, d2, d3, d4] => { results := [.lit (.bool false)], args := [d1, d2, d3, d4] }
  | _ => none }
def FnExactLpoLessWrongFalsely : Prop := fnExactLpoLessRow.holds Try.pinned (OpenSpec.ofChange fnExactLpoLessWrong)

/-- 'laws.FnExactMpoLess': WHATEVER THE INPUT: true; the input reads as it did. -/
def fnExactMpoLessSpec : ChangeSpec := { name := "fnExactMpoLess", fn := fun _ => fun
  | [d1, d2, d3, d4] => { results := [.lit (.bool true)], args := [d1, d2, d3, d4] }
  | _ => none }
def fnExactMpoLessRow : OpenClaim := { program := "ytkdopciihhhdkaa", sum := "ed04f7695b22555e78ee9d3e35923dd20a724471a7c5323caefce0f8de38ddaa", func := "loop.example/g00895/laws.FnExactMpoLess", spec := "fnExactMpoLess", unfollowed := true, recurses := true, apart := false }
def FnExactMpoLessSaid : Prop := fnExactMpoLessRow.holds Try.pinned (OpenSpec.ofChange fnExactMpoLessSpec)

/-- ITS FALSE NEIGHBOUR: 'it returns false'. Refute it at one input. -/
def fnExactMpoLessWrong : ChangeSpec := { name := "fnExactMpoLess", fn := fun _ => fun
  | [d1, d2, d3, d4] => { results := [.lit (.bool false)], args := [d1, d2, d3, d4] }
  | _ => none }
def FnExactMpoLessWrongFalsely : Prop := fnExactMpoLessRow.holds Try.pinned (OpenSpec.ofChange fnExactMpoLessWrong)

/-- 'laws.FnExactLpoCompare': WHATEVER THE INPUT: true; the input reads as it did. -/
def fnExactLpoCompareSpec : ChangeSpec := { name := "fnExactLpoCompare", fn := fun _ => fun
  | [d1, d2, d3, d4] => { results := [.lit (.bool true)], args := [d1, d2, d3, d4] }
  | _ => none }
def fnExactLpoCompareRow : OpenClaim := { program := "ytkdopciihhhdkaa", sum := "ed04f7695b22555e78ee9d3e35923dd20a724471a7c5323caefce0f8de38ddaa", func := "loop.example/g00895/laws.FnExactLpoCompare", spec := "fnExactLpoCompare", unfollowed := true, recurses := true, apart := false }
def FnExactLpoCompareSaid : Prop := fnExactLpoCompareRow.holds Try.pinned (OpenSpec.ofChange fnExactLpoCompareSpec)

/-- ITS FALSE NEIGHBOUR: 'it returns false'. Refute it at one input. -/
def fnExactLpoCompareWrong : ChangeSpec := { name := "fnExactLpoCompare", fn := fun _ => fun
  | [d1, d2, d3, d4] => { results := [.lit (.bool false)], args := [d1, d2, d3, d4] }
  | _ => none }
def FnExactLpoCompareWrongFalsely : Prop := fnExactLpoCompareRow.holds Try.pinned (OpenSpec.ofChange fnExactLpoCompareWrong)

/-- 'laws.FnExactLpoGreatest': WHATEVER THE INPUT: true; the input reads as it did. -/
def fnExactLpoGreatestSpec : ChangeSpec := { name := "fnExactLpoGreatest", fn := fun _ => fun
  | [d1, d2, d3] => { results := [.lit (.bool true)], args := [d1, d2, d3] }
  | _ => none }
def fnExactLpoGreatestRow : OpenClaim := { program := "ytkdopciihhhdkaa", sum := "ed04f7695b22555e78ee9d3e35923dd20a724471a7c5323caefce0f8de38ddaa", func := "loop.example/g00895/laws.FnExactLpoGreatest", spec := "fnExactLpoGreatest", unfollowed := true, recurses := true, apart := false }
def FnExactLpoGreatestSaid : Prop := fnExactLpoGreatestRow.holds Try.pinned (OpenSpec.ofChange fnExactLpoGreatestSpec)

/-- ITS FALSE NEIGHBOUR: 'it returns false'. Refute it at one input. -/
def fnExactLpoGreatestWrong : ChangeSpec := { name := "fnExactLpoGreatest", fn := fun _ => fun
  | [d1, d2, d3] => { results := [.lit (.bool false)], args := [d1, d2, d3] }
  | _ => none }
def FnExactLpoGreatestWrongFalsely : Prop := fnExactLpoGreatestRow.holds Try.pinned (OpenSpec.ofChange fnExactLpoGreatestWrong)

/- THE SECOND FORM. 'bulk': how many values and letters a reading holds, each counted each time it is reached (what is shared counts as often as it is met; a slice's spare places count too). A statement '..UptoSaid' is the law's where the arguments, and the package variables that the reading takes, are together of bulk at most 1048576: NARROWER than '..Said'. Prove '..Said' where nothing that the law and all that it calls make is longer than what came in: it says more and counts as full. Else prove '..UptoSaid'. A law counts once. -/
mutual
def uptoBulk {H : Type} : DataW H → Nat
  | .lit (.string bytes) => bytes.length + 1
  | .lit _ => 1
  | .nil => 1
  | .ptr d => uptoBulk d + 1
  | .slice elems spare => uptoBulkAll elems + uptoBulkAll spare + 1
  | .agg parts => uptoBulkAll parts + 1
  | .iface _ d => uptoBulk d + 1
  | .map entries => uptoBulkEntries entries + 1
  | .held _ => 1
def uptoBulkAll {H : Type} : List (DataW H) → Nat
  | [] => 0
  | d :: r => uptoBulk d + uptoBulkAll r
def uptoBulkEntries {H : Type} : List (Lit × DataW H) → Nat
  | [] => 0
  | x :: r => uptoBulkEntry x + uptoBulkEntries r
def uptoBulkEntry {H : Type} : Lit × DataW H → Nat
  | (.string bytes, d) => bytes.length + uptoBulk d + 1
  | (_, d) => uptoBulk d + 1
 end
def uptoSmall : (H : Type) → List (DataW H) → Bool := fun _ ds => decide (uptoBulkAll ds ≤ 1048576)
def OpenSpec.upto (s : _root_.Go.ChangeSpec) : _root_.Go.OpenSpec := { _root_.Go.OpenSpec.ofChange s with cond := some uptoSmall }

/-- 'laws.FnExactUsableOf', WHERE WHAT IT READS IS OF BULK AT MOST 1048576: true; the input reads as it did. -/
def fnExactUsableOfUptoRow : OpenClaim := { program := "ytkdopciihhhdkaa", sum := "ed04f7695b22555e78ee9d3e35923dd20a724471a7c5323caefce0f8de38ddaa", func := "loop.example/g00895/laws.FnExactUsableOf", spec := "fnExactUsableOf", apart := false, narrowed := true }
def FnExactUsableOfUptoSaid : Prop := fnExactUsableOfUptoRow.holds Try.pinned (OpenSpec.upto fnExactUsableOfSpec)

/-- 'laws.FnExactLpoWhy', WHERE WHAT IT READS IS OF BULK AT MOST 1048576: true; the input reads as it did. -/
def fnExactLpoWhyUptoRow : OpenClaim := { program := "ytkdopciihhhdkaa", sum := "ed04f7695b22555e78ee9d3e35923dd20a724471a7c5323caefce0f8de38ddaa", func := "loop.example/g00895/laws.FnExactLpoWhy", spec := "fnExactLpoWhy", unfollowed := true, recurses := true, apart := false, narrowed := true }
def FnExactLpoWhyUptoSaid : Prop := fnExactLpoWhyUptoRow.holds Try.pinned (OpenSpec.upto fnExactLpoWhySpec)

/-- 'laws.FnExactLpoLess', WHERE WHAT IT READS IS OF BULK AT MOST 1048576: true; the input reads as it did. -/
def fnExactLpoLessUptoRow : OpenClaim := { program := "ytkdopciihhhdkaa", sum := "ed04f7695b22555e78ee9d3e35923dd20a724471a7c5323caefce0f8de38ddaa", func := "loop.example/g00895/laws.FnExactLpoLess", spec := "fnExactLpoLess", unfollowed := true, recurses := true, apart := false, narrowed := true }
def FnExactLpoLessUptoSaid : Prop := fnExactLpoLessUptoRow.holds Try.pinned (OpenSpec.upto fnExactLpoLessSpec)

/-- 'laws.FnExactMpoLess', WHERE WHAT IT READS IS OF BULK AT MOST 1048576: true; the input reads as it did. -/
def fnExactMpoLessUptoRow : OpenClaim := { program := "ytkdopciihhhdkaa", sum := "ed04f7695b22555e78ee9d3e35923dd20a724471a7c5323caefce0f8de38ddaa", func := "loop.example/g00895/laws.FnExactMpoLess", spec := "fnExactMpoLess", unfollowed := true, recurses := true, apart := false, narrowed := true }
def FnExactMpoLessUptoSaid : Prop := fnExactMpoLessUptoRow.holds Try.pinned (OpenSpec.upto fnExactMpoLessSpec)

/-- 'laws.FnExactLpoCompare', WHERE WHAT IT READS IS OF BULK AT MOST 1048576: true; the input reads as it did. -/
def fnExactLpoCompareUptoRow : OpenClaim := { program := "ytkdopciihhhdkaa", sum := "ed04f7695b22555e78ee9d3e35923dd20a724471a7c5323caefce0f8de38ddaa", func := "loop.example/g00895/laws.FnExactLpoCompare", spec := "fnExactLpoCompare", unfollowed := true, recurses := true, apart := false, narrowed := true }
def FnExactLpoCompareUptoSaid : Prop := fnExactLpoCompareUptoRow.holds Try.pinned (OpenSpec.upto fnExactLpoCompareSpec)

/-- 'laws.FnExactLpoGreatest', WHERE WHAT IT READS IS OF BULK AT MOST 1048576: true; the input reads as it did. -/
def fnExactLpoGreatestUptoRow : OpenClaim := { program := "ytkdopciihhhdkaa", sum := "ed04f7695b22555e78ee9d3e35923dd20a724471a7c5323caefce0f8de38ddaa", func := "loop.example/g00895/laws.FnExactLpoGreatest", spec := "fnExactLpoGreatest", unfollowed := true, recurses := true, apart := false, narrowed := true }
def FnExactLpoGreatestUptoSaid : Prop := fnExactLpoGreatestUptoRow.holds Try.pinned (OpenSpec.upto fnExactLpoGreatestSpec)

end Rows
end Go.Proofs.Ytkdopciihhhdkaa
