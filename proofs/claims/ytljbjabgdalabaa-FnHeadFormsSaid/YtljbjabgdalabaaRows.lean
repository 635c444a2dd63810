/-
  No cell of these rows narrows 'for every input' (looked for: loops, veiled, ifaces, maps, wideKeys, modest, calm, conditions, laid).
  DERIVED. THE GIVEN ROWS OF THIS SEAT. 3 by the template 'for every input the law returns true; each argument reads behind the call as it read before'; 0 by the template 'total and deterministic' (their statements: YtljbjabgdalabaaTotals.lean).
  GIVEN WITH THE SEED: the statements are not yours to turn. If you find one false, say at which input.
  Laid BY PROGRAM, IN A SANDBOX (cutbox-rows.mjs): the forced cells as the released guide's own fill.sh prints them over the translation 65ba62eebdcd5d5e… (all of the seat's roots in one cut). By AI agents, Wed Nov 11 2026. No macro, syntax, notation, axiom, sorry.
-/
import Derived.Test.YtljbjabgdalabaaChecked
import GoSem.Claim
import GoSem.ClaimJoined
import GoSem.ClaimMapViews
import Derived.JoinedTies
import Derived.KernelRfl
namespace Go.Proofs.Ytljbjabgdalabaa
/- THE CELL 'sum', in the pinned program and in every row, IS THE sha256 OF THE DUMP (.gsa) THAT YtljbjabgdalabaaProg.lean LOADS. Nothing in Lean hashes anything: it is a label: what it is worth is what the hold of that sum in a sandbox is worth. -/
noncomputable def Try.pinned : Pinned := { name := "ytljbjabgdalabaa", sum := "65ba62eebdcd5d5e5d25d1db59cafd1d95ef681e80a3c18bce6c16e1491ed49e", checked := Try.checked }
namespace Rows
def none {H : Type} : Left H := { results := [], args := [] }

/-- 'laws.FnPolyForms': WHATEVER THE INPUT: true; the input reads as it did. -/
def fnPolyFormsSpec : ChangeSpec := { name := "fnPolyForms", fn := fun _ => fun
  | [d] => { results := [.lit (.bool true)], args := [d] }
  | _ => none }
def fnPolyFormsRow : OpenClaim := { program := "ytljbjabgdalabaa", sum := "65ba62eebdcd5d5e5d25d1db59cafd1d95ef681e80a3c18bce6c16e1491ed49e", func := "loop.example/g00895/laws.FnPolyForms", spec := "fnPolyForms", unfollowed := true, recurses := true, apart := false }
def FnPolyFormsSaid : Prop := fnPolyFormsRow.holds Try.pinned (OpenSpec.ofChange fnPolyFormsSpec)

/-- ITS FALSE NEIGHBOUR: 'it returns false'. Refute it at one input. -/
def fnPolyFormsWrong : ChangeSpec := { name := "fnPolyForms", fn := fun _ => fun
  | [d] => { results := [.lit (.bool false)], args := [d] }
  | _ => none }
def FnPolyFormsWrongFalsely : Prop := fnPolyFormsRow.holds Try.pinned (OpenSpec.ofChange fnPolyFormsWrong)

/-- 'laws.FnHeadForms': WHATEVER THE INPUT: true; the input reads as it did. -/
def fnHeadFormsSpec : ChangeSpec := { name := "fnHeadForms", fn := fun _ => fun
  | [d] => { results := [.lit (.bool true)], args := [d] }
  | _ => none }
def fnHeadFormsRow : OpenClaim := { program := "ytljbjabgdalabaa", sum := "65ba62eebdcd5d5e5d25d1db59cafd1d95ef681e80a3c18bce6c16e1491ed49e", func := "loop.example/g00895/laws.FnHeadForms", spec := "fnHeadForms", recurses := true, apart := false }
def FnHeadFormsSaid : Prop := fnHeadFormsRow.holds Try.pinned (OpenSpec.ofChange fnHeadFormsSpec)

/-- ITS FALSE NEIGHBOUR: 'it returns false'. Refute it at one input. -/
def fnHeadFormsWrong : ChangeSpec := { name := "fnHeadForms", fn := fun _ => fun
  | [d] => { results := [.lit (.bool false)], args := [d] }
  | _ => none }
def FnHeadFormsWrongFalsely : Prop := fnHeadFormsRow.holds Try.pinned (OpenSpec.ofChange fnHeadFormsWrong)

/-- 'laws.FnPolyWalk': WHATEVER THE INPUT: true; the input reads as it did. -/
def fnPolyWalkSpec : ChangeSpec := { name := "fnPolyWalk", fn := fun _ => fun
  | [d] => { results := [.lit (.bool true)], args := [d] }
  | _ => none }
def fnPolyWalkRow : OpenClaim := { program := "ytljbjabgdalabaa", sum := "65ba62eebdcd5d5e5d25d1db59cafd1d95ef681e80a3c18bce6c16e1491ed49e", func := "loop.example/g00895/laws.FnPolyWalk", spec := "fnPolyWalk", unfollowed := true, recurses := true, apart := false }
def FnPolyWalkSaid : Prop := fnPolyWalkRow.holds Try.pinned (OpenSpec.ofChange fnPolyWalkSpec)

/-- ITS FALSE NEIGHBOUR: 'it returns false'. Refute it at one input. -/
def fnPolyWalkWrong : ChangeSpec := { name := "fnPolyWalk", fn := fun _ => fun
  | [d] => { results := [.lit (.bool false)], args := [d] }
  | _ => none }
def FnPolyWalkWrongFalsely : Prop := fnPolyWalkRow.holds Try.pinned (OpenSpec.ofChange fnPolyWalkWrong)

/- THE SECOND FORM. 'bulk': how many values and letters a reading holds, each counted each time it is reached (what is shared counts as often as it is met; a slice's spare places count too). A statement '..UptoSaid' is the law's where the arguments, and the package variables that the reading takes, are together of bulk at most 1048576: NARROWER than '..Said'. Prove '..Said' where nothing that the law and all that it calls make is longer than what came in: it says more and counts as full. Else prove '..UptoSaid'. A law counts once. -/
mutual
def uptoBulk {H : Type} : DataW H → Nat
  | .lit (.string bytes) => bytes.length + 1
  | .lit _ => 1
  | .nil => 1
  | .ptr d => uptoBulk d + 1
  | .slice elems spare => uptoBulkAll elems + uptoBulkAll spare + 1
  | .agg parts => uptoBulkAll parts + 1
  | .iface _ d => uptoBulk d + 1
  | .map entries => uptoBulkEntries entries + 1
  | .held _ => 1
def uptoBulkAll {H : Type} : List (DataW H) → Nat
  | [] => 0
  | d :: r => uptoBulk d + uptoBulkAll r
def uptoBulkEntries {H : Type} : List (Lit × DataW H) → Nat
  | [] => 0
  | x :: r => uptoBulkEntry x + uptoBulkEntries r
def uptoBulkEntry {H : Type} : Lit × DataW H → Nat
  | (.string bytes, d) => bytes.length + uptoBulk d + 1
  | (_, d) => uptoBulk d + 1
 end
def uptoSmall : (H : Type) → List (DataW H) → Bool := fun _ ds => decide (uptoBulkAll ds ≤ 1048576)
def OpenSpec.upto (s : _root_.Go.ChangeSpec) : _root_.Go.OpenSpec := { _root_.Go.OpenSpec.ofChange s with cond := some uptoSmall }

/-- 'laws.FnPolyForms', WHERE WHAT IT READS IS OF BULK AT MOST 1048576: true; the input reads as it did. -/
def fnPolyFormsUptoRow : OpenClaim := { program := "ytljbjabgdalabaa", sum := "65ba62eebdcd5d5e5d25d1db59cafd1d95ef681e80a3c18bce6c16e1491ed49e", func := "loop.example/g00895/laws.FnPolyForms", spec := "fnPolyForms", unfollowed := true, recurses := true, apart := false, narrowed := true }
def FnPolyFormsUptoSaid : Prop := fnPolyFormsUptoRow.holds Try.pinned (OpenSpec.upto fnPolyFormsSpec)

/-- 'laws.FnHeadForms', WHERE WHAT IT READS IS OF BULK AT MOST 1048576: true; the input reads as it did. -/
def fnHeadFormsUptoRow : OpenClaim := { program := "ytljbjabgdalabaa", sum := "65ba62eebdcd5d5e5d25d1db59cafd1d95ef681e80a3c18bce6c16e1491ed49e", func := "loop.example/g00895/laws.FnHeadForms", spec := "fnHeadForms", recurses := true, apart := false, narrowed := true }
def FnHeadFormsUptoSaid : Prop := fnHeadFormsUptoRow.holds Try.pinned (OpenSpec.upto fnHeadFormsSpec)

/-- 'laws.FnPolyWalk', WHERE WHAT IT READS IS OF BULK AT MOST 1048576: true; the input reads as it did. -/
def fnPolyWalkUptoRow : OpenClaim := { program := "ytljbjabgdalabaa", sum := "65ba62eebdcd5d5e5d25d1db59cafd1d95ef681e80a3c18bce6c16e1491ed49e", func := "loop.example/g00895/laws.FnPolyWalk", spec := "fnPolyWalk", unfollowed := true, recurses := true, apart := false, narrowed := true }
def FnPolyWalkUptoSaid : Prop := fnPolyWalkUptoRow.holds Try.pinned (OpenSpec.upto fnPolyWalkSpec)

end Rows
end Go.Proofs.Ytljbjabgdalabaa
