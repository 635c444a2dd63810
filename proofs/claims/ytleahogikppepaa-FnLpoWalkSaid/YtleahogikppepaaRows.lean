/-
  No cell of these rows narrows 'for every input' (looked for: loops, veiled, ifaces, maps, wideKeys, modest, calm, conditions, laid).
  DERIVED. THE GIVEN ROWS OF THIS SEAT. 6 by the template 'for every input the law returns true; each argument reads behind the call as it read before'; 0 by the template 'total and deterministic' (their statements: YtleahogikppepaaTotals.lean).
  GIVEN WITH THE SEED: the statements are not yours to turn. If you find one false, say at which input.
  Laid BY PROGRAM, IN A SANDBOX (cutbox-rows.mjs): the forced cells as the released guide's own fill.sh prints them over the translation 0b1aab5aaeee4fc3… (all of the seat's roots in one cut). By AI agents, Wed Nov 11 2026. No macro, syntax, notation, axiom, sorry.
-/
import Derived.Test.YtleahogikppepaaChecked
import GoSem.Claim
import GoSem.ClaimJoined
import GoSem.ClaimMapViews
import Derived.JoinedTies
import Derived.KernelRfl
namespace Go.Proofs.Ytleahogikppepaa
/- THE CELL 'sum', in the pinned program and in every row, IS THE sha256 OF THE DUMP (.gsa) THAT YtleahogikppepaaProg.lean LOADS. Nothing in Lean hashes anything: it is a label: what it is worth is what the hold of that sum in a sandbox is worth. -/
noncomputable def Try.pinned : Pinned := { name := "ytleahogikppepaa", sum := "0b1aab5aaeee4fc3aafa324795f735a03a3a78e5e57334be1f7a7881ad0d9692", checked := Try.checked }
namespace Rows
def none {H : Type} : Left H := { results := [], args := [] }

/-- 'laws.FnPolyForms': WHATEVER THE INPUT: true; the input reads as it did. -/
def fnPolyFormsSpec : ChangeSpec := { name := "fnPolyForms", fn := fun _ => fun
  | [d] => { results := [.lit (.bool true)], args := [d] }
  | _ => none }
def fnPolyFormsRow : OpenClaim := { program := "ytleahogikppepaa", sum := "0b1aab5aaeee4fc3aafa324795f735a03a3a78e5e57334be1f7a7881ad0d9692", func := "loop.example/g00895/laws.FnPolyForms", spec := "fnPolyForms", unfollowed := true, recurses := true, apart := false }
def FnPolyFormsSaid : Prop := fnPolyFormsRow.holds Try.pinned (OpenSpec.ofChange fnPolyFormsSpec)

/-- ITS FALSE NEIGHBOUR: 'it returns false'. Refute it at one input. -/
def fnPolyFormsWrong : ChangeSpec := { name := "fnPolyForms", fn := fun _ => fun
  | [d] => { results := [.lit (.bool false)], args := [d] }
  | _ => none }
def FnPolyFormsWrongFalsely : Prop := fnPolyFormsRow.holds Try.pinned (OpenSpec.ofChange fnPolyFormsWrong)

/-- 'laws.FnKboStable': WHATEVER THE INPUT: true; the input reads as it did. -/
def fnKboStableSpec : ChangeSpec := { name := "fnKboStable", fn := fun _ => fun
  | [d] => { results := [.lit (.bool true)], args := [d] }
  | _ => none }
def fnKboStableRow : OpenClaim := { program := "ytleahogikppepaa", sum := "0b1aab5aaeee4fc3aafa324795f735a03a3a78e5e57334be1f7a7881ad0d9692", func := "loop.example/g00895/laws.FnKboStable", spec := "fnKboStable", recurses := true, apart := false }
def FnKboStableSaid : Prop := fnKboStableRow.holds Try.pinned (OpenSpec.ofChange fnKboStableSpec)

/-- ITS FALSE NEIGHBOUR: 'it returns false'. Refute it at one input. -/
def fnKboStableWrong : ChangeSpec := { name := "fnKboStable", fn := fun _ => fun
  | [d] => { results := [.lit (.bool false)], args := [d] }
  | _ => none }
def FnKboStableWrongFalsely : Prop := fnKboStableRow.holds Try.pinned (OpenSpec.ofChange fnKboStableWrong)

/-- 'laws.FnHeadForms': WHATEVER THE INPUT: true; the input reads as it did. -/
def fnHeadFormsSpec : ChangeSpec := { name := "fnHeadForms", fn := fun _ => fun
  | [d] => { results := [.lit (.bool true)], args := [d] }
  | _ => none }
def fnHeadFormsRow : OpenClaim := { program := "ytleahogikppepaa", sum := "0b1aab5aaeee4fc3aafa324795f735a03a3a78e5e57334be1f7a7881ad0d9692", func := "loop.example/g00895/laws.FnHeadForms", spec := "fnHeadForms", recurses := true, apart := false }
def FnHeadFormsSaid : Prop := fnHeadFormsRow.holds Try.pinned (OpenSpec.ofChange fnHeadFormsSpec)

/-- ITS FALSE NEIGHBOUR: 'it returns false'. Refute it at one input. -/
def fnHeadFormsWrong : ChangeSpec := { name := "fnHeadForms", fn := fun _ => fun
  | [d] => { results := [.lit (.bool false)], args := [d] }
  | _ => none }
def FnHeadFormsWrongFalsely : Prop := fnHeadFormsRow.holds Try.pinned (OpenSpec.ofChange fnHeadFormsWrong)

/-- 'laws.FnKboWalk': WHATEVER THE INPUT: true; the input reads as it did. -/
def fnKboWalkSpec : ChangeSpec := { name := "fnKboWalk", fn := fun _ => fun
  | [d] => { results := [.lit (.bool true)], args := [d] }
  | _ => none }
def fnKboWalkRow : OpenClaim := { program := "ytleahogikppepaa", sum := "0b1aab5aaeee4fc3aafa324795f735a03a3a78e5e57334be1f7a7881ad0d9692", func := "loop.example/g00895/laws.FnKboWalk", spec := "fnKboWalk", recurses := true, apart := false }
def FnKboWalkSaid : Prop := fnKboWalkRow.holds Try.pinned (OpenSpec.ofChange fnKboWalkSpec)

/-- ITS FALSE NEIGHBOUR: 'it returns false'. Refute it at one input. -/
def fnKboWalkWrong : ChangeSpec := { name := "fnKboWalk", fn := fun _ => fun
  | [d] => { results := [.lit (.bool false)], args := [d] }
  | _ => none }
def FnKboWalkWrongFalsely : Prop := fnKboWalkRow.holds Try.pinned (OpenSpec.ofChange fnKboWalkWrong)

/-- 'laws.FnPolyWalk': WHATEVER THE INPUT: true; the input reads as it did. -/
def fnPolyWalkSpec : ChangeSpec := { name := "fnPolyWalk", fn := fun _ => fun
  | [d] => { results := [.lit (.bool true)], args := [d] }
  | _ => none }
def fnPolyWalkRow : OpenClaim := { program := "ytleahogikppepaa", sum := "0b1aab5aaeee4fc3aafa324795f735a03a3a78e5e57334be1f7a7881ad0d9692", func := "loop.example/g00895/laws.FnPolyWalk", spec := "fnPolyWalk", unfollowed := true, recurses := true, apart := false }
def FnPolyWalkSaid : Prop := fnPolyWalkRow.holds Try.pinned (OpenSpec.ofChange fnPolyWalkSpec)

/-- ITS FALSE NEIGHBOUR: 'it returns false'. Refute it at one input. -/
def fnPolyWalkWrong : ChangeSpec := { name := "fnPolyWalk", fn := fun _ => fun
  | [d] => { results := [.lit (.bool false)], args := [d] }
  | _ => none }
def FnPolyWalkWrongFalsely : Prop := fnPolyWalkRow.holds Try.pinned (OpenSpec.ofChange fnPolyWalkWrong)

/-- 'laws.FnLpoWalk': WHATEVER THE INPUT: true; the input reads as it did. -/
def fnLpoWalkSpec : ChangeSpec := { name := "fnLpoWalk", fn := fun _ => fun
  | [d] => { results := [.lit (.bool true)], args := [d] }
  | _ => none }
def fnLpoWalkRow : OpenClaim := { program := "ytleahogikppepaa", sum := "0b1aab5aaeee4fc3aafa324795f735a03a3a78e5e57334be1f7a7881ad0d9692", func := "loop.example/g00895/laws.FnLpoWalk", spec := "fnLpoWalk", unfollowed := true, recurses := true, apart := false }
def FnLpoWalkSaid : Prop := fnLpoWalkRow.holds Try.pinned (OpenSpec.ofChange fnLpoWalkSpec)

/-- ITS FALSE NEIGHBOUR: 'it returns false'. Refute it at one input. -/
def fnLpoWalkWrong : ChangeSpec := { name := "fnLpoWalk", fn := fun _ => fun
  | [d] => { results := [.lit (.bool false)], args := [d] }
  | _ => none }
def FnLpoWalkWrongFalsely : Prop := fnLpoWalkRow.holds Try.pinned (OpenSpec.ofChange fnLpoWalkWrong)

/- THE SECOND FORM. 'bulk': how many values and letters a reading holds, each counted each time it is reached (what is shared counts as often as it is met; a slice's spare places count too). A statement '..UptoSaid' is the law's where the arguments, and the package variables that the reading takes, are together of bulk at most 1048576: NARROWER than '..Said'. Prove '..Said' where nothing that the law and all that it calls make is longer than what came in: it says more and counts as full. Else prove '..UptoSaid'. A law counts once. -/
mutual
def uptoBulk {H : Type} : DataW H → Nat
  | .lit (.string bytes) => bytes.length + 1
  | .lit _ => 1
  | .nil => 1
  | .ptr d => uptoBulk d + 1
  | .slice elems spare => uptoBulkAll elems + uptoBulkAll spare + 1
  | .agg parts => uptoBulkAll parts + 1
  | .iface _ d => uptoBulk d + 1
  | .map entries => uptoBulkEntries entries + 1
  | .held _ => 1
def uptoBulkAll {H : Type} : List (DataW H) → Nat
  | [] => 0
  | d :: r => uptoBulk d + uptoBulkAll r
def uptoBulkEntries {H : Type} : List (Lit × DataW H) → Nat
  | [] => 0
  | x :: r => uptoBulkEntry x + uptoBulkEntries r
def uptoBulkEntry {H : Type} : Lit × DataW H → Nat
  | (.string bytes, d) => bytes.length + uptoBulk d + 1
  | (_, d) => uptoBulk d + 1
 end
def uptoSmall : (H : Type) → List (DataW H) → Bool := fun _ ds => decide (uptoBulkAll ds ≤ 1048576)
def OpenSpec.upto (s : _root_.Go.ChangeSpec) : _root_.Go.OpenSpec := { _root_.Go.OpenSpec.ofChange s with cond := some uptoSmall }

/-- 'laws.FnPolyForms', WHERE WHAT IT READS IS OF BULK AT MOST 1048576: true; the input reads as it did. -/
def fnPolyFormsUptoRow : OpenClaim := { program := "ytleahogikppepaa", sum := "0b1aab5aaeee4fc3aafa324795f735a03a3a78e5e57334be1f7a7881ad0d9692", func := "loop.example/g00895/laws.FnPolyForms", spec := "fnPolyForms", unfollowed := true, recurses := true, apart := false, narrowed := true }
def FnPolyFormsUptoSaid : Prop := fnPolyFormsUptoRow.holds Try.pinned (OpenSpec.upto fnPolyFormsSpec)

/-- 'laws.FnKboStable', WHERE WHAT IT READS IS OF BULK AT MOST 1048576: true; the input reads as it did. -/
def fnKboStableUptoRow : OpenClaim := { program := "ytleahogikppepaa", sum := "0b1aab5aaeee4fc3aafa324795f735a03a3a78e5e57334be1f7a7881ad0d9692", func := "loop.example/g00895/laws.FnKboStable", spec := "fnKboStable", recurses := true, apart := false, narrowed := true }
def FnKboStableUptoSaid : Prop := fnKboStableUptoRow.holds Try.pinned (OpenSpec.upto fnKboStableSpec)

/-- 'laws.FnHeadForms', WHERE WHAT IT READS IS OF BULK AT MOST 1048576: true; the input reads as it did. -/
def fnHeadFormsUptoRow : OpenClaim := { program := "ytleahogikppepaa", sum := "0b1aab5aaeee4fc3aafa324795f735a03a3a78e5e57334be1f7a7881ad0d9692", func := "loop.example/g00895/laws.FnHeadForms", spec := "fnHeadForms", recurses := true, apart := false, narrowed := true }
def FnHeadFormsUptoSaid : Prop := fnHeadFormsUptoRow.holds Try.pinned (OpenSpec.upto fnHeadFormsSpec)

/-- 'laws.FnKboWalk', WHERE WHAT IT READS IS OF BULK AT MOST 1048576: true; the input reads as it did. -/
def fnKboWalkUptoRow : OpenClaim := { program := "ytleahogikppepaa", sum := "0b1aab5aaeee4fc3aafa324795f735a03a3a78e5e57334be1f7a7881ad0d9692", func := "loop.example/g00895/laws.FnKboWalk", spec := "fnKboWalk", recurses := true, apart := false, narrowed := true }
def FnKboWalkUptoSaid : Prop := fnKboWalkUptoRow.holds Try.pinned (OpenSpec.upto fnKboWalkSpec)

/-- 'laws.FnPolyWalk', WHERE WHAT IT READS IS OF BULK AT MOST 1048576: true; the input reads as it did. -/
def fnPolyWalkUptoRow : OpenClaim := { program := "ytleahogikppepaa", sum := "0b1aab5aaeee4fc3aafa324795f735a03a3a78e5e57334be1f7a7881ad0d9692", func := "loop.example/g00895/laws.FnPolyWalk", spec := "fnPolyWalk", unfollowed := true, recurses := true, apart := false, narrowed := true }
def FnPolyWalkUptoSaid : Prop := fnPolyWalkUptoRow.holds Try.pinned (OpenSpec.upto fnPolyWalkSpec)

/-- 'laws.FnLpoWalk', WHERE WHAT IT READS IS OF BULK AT MOST 1048576: true; the input reads as it did. -/
def fnLpoWalkUptoRow : OpenClaim := { program := "ytleahogikppepaa", sum := "0b1aab5aaeee4fc3aafa324795f735a03a3a78e5e57334be1f7a7881ad0d9692", func := "loop.example/g00895/laws.FnLpoWalk", spec := "fnLpoWalk", unfollowed := true, recurses := true, apart := false, narrowed := true }
def FnLpoWalkUptoSaid : Prop := fnLpoWalkUptoRow.holds Try.pinned (OpenSpec.upto fnLpoWalkSpec)

end Rows
end Go.Proofs.Ytleahogikppepaa
