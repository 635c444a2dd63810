/-
  No cell of these rows narrows 'for every input' (looked for: loops, veiled, ifaces, maps, wideKeys, modest, calm, conditions, laid).
  DERIVED. THE GIVEN ROWS OF THIS SEAT. 2 by the template 'for every input the law returns true; each argument reads behind the call as it read before'; 0 by the template 'total and deterministic' (their statements: YtgoaikpchhcpiaaTotals.lean).
  GIVEN WITH THE SEED: the statements are not yours to turn. If you find one false, say at which input.
  Laid BY PROGRAM, IN A SANDBOX (cutbox-rows.mjs): the forced cells as the released guide's own fill.sh prints them over the translation 7f29be5ce6780c50… (all of the seat's roots in one cut). By AI agents, Wed Nov 11 2026. No macro, syntax, notation, axiom, sorry.
-/
import Derived.Test.YtgoaikpchhcpiaaChecked
import GoSem.Claim
import GoSem.ClaimJoined
import GoSem.ClaimMapViews
import Derived.JoinedTies
import Derived.KernelRfl
namespace Go.Proofs.Ytgoaikpchhcpiaa
/- THE CELL 'sum', in the pinned program and in every row, IS THE sha256 OF THE DUMP (.gsa) THAT YtgoaikpchhcpiaaProg.lean LOADS. Nothing in Lean hashes anything: it is a label: what it is worth is what the hold of that sum in a sandbox is worth. -/
noncomputable def Try.pinned : Pinned := { name := "ytgoaikpchhcpiaa", sum := "7f29be5ce6780c5038e42c79273dbc40c9f7da773f6da27412c94193351d7917", checked := Try.checked }
namespace Rows
def none {H : Type} : Left H := { results := [], args := [] }

/-- 'laws.FnExactKboWhy': WHATEVER THE INPUT: true; the input reads as it did. -/
def fnExactKboWhySpec : ChangeSpec := { name := "fnExactKboWhy", fn := fun _ => fun
  | [d1, d2, d3, d4] => { results := [.lit (.bool true)], args := [d1, d2, d3, d4] }
  | _ => none }
def fnExactKboWhyRow : OpenClaim := { program := "ytgoaikpchhcpiaa", sum := "7f29be5ce6780c5038e42c79273dbc40c9f7da773f6da27412c94193351d7917", func := "loop.example/g00895/laws.FnExactKboWhy", spec := "fnExactKboWhy", recurses := true, apart := false }
def FnExactKboWhySaid : Prop := fnExactKboWhyRow.holds Try.pinned (OpenSpec.ofChange fnExactKboWhySpec)

/-- ITS FALSE NEIGHBOUR: 'it returns false'. Refute it at one input. -/
def fnExactKboWhyWrong : ChangeSpec := { name := "fnExactKboWhy", fn := fun _ => fun
  | [d1, d2, d3, d4] => { results := [.lit (.bool false)], args := [d1, d2, d3, d4] }
  | _ => none }
def FnExactKboWhyWrongFalsely : Prop := fnExactKboWhyRow.holds Try.pinned (OpenSpec.ofChange fnExactKboWhyWrong)

/-- 'laws.FnExactKboOrients': WHATEVER THE INPUT: true; the input reads as it did. -/
def fnExactKboOrientsSpec : ChangeSpec := { name := "fnExactKboOrients", fn := fun _ => fun
  | [d1, d2] => { results := [.lit (.bool true)], args := [d1, d2] }
  | _ => none }
def fnExactKboOrientsRow : OpenClaim := { program := "ytgoaikpchhcpiaa", sum := "7f29be5ce6780c5038e42c79273dbc40c9f7da773f6da27412c94193351d7917", func := "loop.example/g00895/laws.FnExactKboOrients", spec := "fnExactKboOrients", recurses := true, apart := false }
def FnExactKboOrientsSaid : Prop := fnExactKboOrientsRow.holds Try.pinned (OpenSpec.ofChange fnExactKboOrientsSpec)

/-- ITS FALSE NEIGHBOUR: 'it returns false'. Refute it at one input. -/
def fnExactKboOrientsWrong : ChangeSpec := { name := "fnExactKboOrients", fn := fun _ => fun
  | [d1, d2] => { results := [.lit (.bool false)], args := [d1, d2] }
  | _ => none }
def FnExactKboOrientsWrongFalsely : Prop := fnExactKboOrientsRow.holds Try.pinned (OpenSpec.ofChange fnExactKboOrientsWrong)

/- THE SECOND FORM. 'bulk': how many values and letters a reading holds, each counted each time it is reached (what is shared counts as often as it is met; a slice's spare places count too). A statement '..UptoSaid' is the law's where the arguments, and the package variables that the reading takes, are together of bulk at most 1048576: NARROWER than '..Said'. Prove '..Said' where nothing that the law and all that it calls make is longer than what came in: it says more and counts as full. Else prove '..UptoSaid'. A law counts once. -/
mutual
def uptoBulk {H : Type} : DataW H → Nat
  | .lit (.string bytes) => bytes.length + 1
  | .lit _ => 1
  | .nil => 1
  | .ptr d => uptoBulk d + 1
  | .slice elems spare => uptoBulkAll elems + uptoBulkAll spare + 1
  | .agg parts => uptoBulkAll parts + 1
  | .iface _ d => uptoBulk d + 1
  | .map entries => uptoBulkEntries entries + 1
  | .held _ => 1
def uptoBulkAll {H : Type} : List (DataW H) → Nat
  | [] => 0
  | d :: r => uptoBulk d + uptoBulkAll r
def uptoBulkEntries {H : Type} : List (Lit × DataW H) → Nat
  | [] => 0
  | x :: r => uptoBulkEntry x + uptoBulkEntries r
def uptoBulkEntry {H : Type} : Lit × DataW H → Nat
  | (.string bytes, d) => bytes.length + uptoBulk d + 1
  | (_, d) => uptoBulk d + 1
 end
def uptoSmall : (H : Type) → List (DataW H) → Bool := fun _ ds => decide (uptoBulkAll ds ≤ 1048576)
def OpenSpec.upto (s : _root_.Go.ChangeSpec) : _root_.Go.OpenSpec := { _root_.Go.OpenSpec.ofChange s with cond := some uptoSmall }

/-- 'laws.FnExactKboWhy', WHERE WHAT IT READS IS OF BULK AT MOST 1048576: true; the input reads as it did. -/
def fnExactKboWhyUptoRow : OpenClaim := { program := "ytgoaikpchhcpiaa", sum := "7f29be5ce6780c5038e42c79273dbc40c9f7da773f6da27412c94193351d7917", func := "loop.example/g00895/laws.FnExactKboWhy", spec := "fnExactKboWhy", recurses := true, apart := false, narrowed := true }
def FnExactKboWhyUptoSaid : Prop := fnExactKboWhyUptoRow.holds Try.pinned (OpenSpec.upto fnExactKboWhySpec)

/-- 'laws.FnExactKboOrients', WHERE WHAT IT READS IS OF BULK AT MOST 1048576: true; the input reads as it did. -/
def fnExactKboOrientsUptoRow : OpenClaim := { program := "ytgoaikpchhcpiaa", sum := "7f29be5ce6780c5038e42c79273dbc40c9f7da773f6da27412c94193351d7917", func := "loop.example/g00895/laws.FnExactKboOrients", spec := "fnExactKboOrients", recurses := true, apart := false, narrowed := true }
def FnExactKboOrientsUptoSaid : Prop := fnExactKboOrientsUptoRow.holds Try.pinned (OpenSpec.upto fnExactKboOrientsSpec)

end Rows
end Go.Proofs.Ytgoaikpchhcpiaa
