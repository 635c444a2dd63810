/-
  No cell of these rows narrows 'for every input' (looked for: loops, veiled, ifaces, maps, wideKeys, modest, calm, conditions, laid).
  DERIVED. THE GIVEN ROWS OF THIS SEAT. 2 by the template 'for every input the law returns true; each argument reads behind the call as it read before'; 0 by the template 'total and deterministic' (their statements: YtempekmenkeigaaTotals.lean).
  GIVEN WITH THE SEED: the statements are not yours to turn. If you find one false, say at which input.
  Laid BY PROGRAM, IN A SANDBOX (cutbox-rows.mjs): the forced cells as the released guide's own fill.sh prints them over the translation 62e46bfbd8e9163a… (all of the seat's roots in one cut). By AI agents, Wed Nov 11 2026. No macro, syntax, notation, axiom, sorry.
-/
import Derived.Test.YtempekmenkeigaaChecked
import GoSem.Claim
import GoSem.ClaimJoined
import GoSem.ClaimMapViews
import Derived.JoinedTies
import Derived.KernelRfl
namespace Go.Proofs.Ytempekmenkeigaa
/- THE CELL 'sum', in the pinned program and in every row, IS THE sha256 OF THE DUMP (.gsa) THAT YtempekmenkeigaaProg.lean LOADS. Nothing in Lean hashes anything: it is a label: what it is worth is what the hold of that sum in a sandbox is worth. -/
noncomputable def Try.pinned : Pinned := { name := "ytempekmenkeigaa", sum := "62e46bfbd8e9163a5af0c4eec87fbb362845620bccd331be7c88a92e2e8fd68f", checked := Try.checked }
namespace Rows
def none {H : Type} : Left H := { results := [], args := [] }

/-- 'laws.FnExactGraphOf': WHATEVER THE INPUT: true; the input reads as it did. -/
def fnExactGraphOfSpec : ChangeSpec := { name := "fnExactGraphOf", fn := fun _ => fun
  | [d] => { results := [.lit (.bool true)], args := [d] }
  | _ => none }
def fnExactGraphOfRow : OpenClaim := { program := "ytempekmenkeigaa", sum := "62e46bfbd8e9163a5af0c4eec87fbb362845620bccd331be7c88a92e2e8fd68f", func := "loop.example/g00895/laws.FnExactGraphOf", spec := "fnExactGraphOf", unfollowed := true, recurses := true, apart := false }
def FnExactGraphOfSaid : Prop := fnExactGraphOfRow.holds Try.pinned (OpenSpec.ofChange fnExactGraphOfSpec)

/-- ITS FALSE NEIGHBOUR: 'it returns false'. Refute it at one input. -/
def fnExactGraphOfWrong : ChangeSpec := { name := "fnExactGraphOf", fn := fun _ => fun
  | [d] => { results := [.lit (.bool false)], args := [d] }
  | _ => none }
def FnExactGraphOfWrongFalsely : Prop := fnExactGraphOfRow.holds Try.pinned (OpenSpec.ofChange fnExactGraphOfWrong)

/-- 'laws.FnConnected': WHATEVER THE INPUT: true; the input reads as it did. -/
def fnConnectedSpec : ChangeSpec := { name := "fnConnected", fn := fun _ => fun
  | [d] => { results := [.lit (.bool true)], args := [d] }
  | _ => none }
def fnConnectedRow : OpenClaim := { program := "ytempekmenkeigaa", sum := "62e46bfbd8e9163a5af0c4eec87fbb362845620bccd331be7c88a92e2e8fd68f", func := "loop.example/g00895/laws.FnConnected", spec := "fnConnected", unfollowed := true, recurses := true, apart := false }
def FnConnectedSaid : Prop := fnConnectedRow.holds Try.pinned (OpenSpec.ofChange fnConnectedSpec)

/-- ITS FALSE NEIGHBOUR: 'it returns false'. Refute it at one input. -/
def fnConnectedWrong : ChangeSpec := { name := "fnConnected", fn := fun _ => fun
  | [d] => { results := [.lit (.bool false)], args := [d] }
  | _ => none }
def FnConnectedWrongFalsely : Prop := fnConnectedRow.holds Try.pinned (OpenSpec.ofChange fnConnectedWrong)

/- THE SECOND FORM. 'bulk': how many values and letters a reading holds, each counted each time it is reached (what is shared counts as often as it is met; a slice's spare places count too). A statement '..UptoSaid' is the law's where the arguments, and the package variables that the reading takes, are together of bulk at most 1048576: NARROWER than '..Said'. Prove '..Said' where nothing that the law and all that it calls make is longer than what came in: it says more and counts as full. Else prove '..UptoSaid'. A law counts once. -/
mutual
def uptoBulk {H : Type} : DataW H → Nat
  | .lit (.string bytes) => bytes.length + 1
  | .lit _ => 1
  | .nil => 1
  | .ptr d => uptoBulk d + 1
  | .slice elems spare => uptoBulkAll elems + uptoBulkAll spare + 1
  | .agg parts => uptoBulkAll parts + 1
  | .iface _ d => uptoBulk d + 1
  | .map entries => uptoBulkEntries entries + 1
  | .held _ => 1
def uptoBulkAll {H : Type} : List (DataW H) → Nat
  | [] => 0
  | d :: r => uptoBulk d + uptoBulkAll r
def uptoBulkEntries {H : Type} : List (Lit × DataW H) → Nat
  | [] => 0
  | x :: r => uptoBulkEntry x + uptoBulkEntries r
def uptoBulkEntry {H : Type} : Lit × DataW H → Nat
  | (.string bytes, d) => bytes.length + uptoBulk d + 1
  | (_, d) => uptoBulk d + 1
 end
def uptoSmall : (H : Type) → List (DataW H) → Bool := fun _ ds => decide (uptoBulkAll ds ≤ 1048576)
def OpenSpec.upto (s : _root_.Go.ChangeSpec) : _root_.Go.OpenSpec := { _root_.Go.OpenSpec.ofChange s with cond := some uptoSmall }

/-- 'laws.FnExactGraphOf', WHERE WHAT IT READS IS OF BULK AT MOST 1048576: true; the input reads as it did. -/
def fnExactGraphOfUptoRow : OpenClaim := { program := "ytempekmenkeigaa", sum := "62e46bfbd8e9163a5af0c4eec87fbb362845620bccd331be7c88a92e2e8fd68f", func := "loop.example/g00895/laws.FnExactGraphOf", spec := "fnExactGraphOf", unfollowed := true, recurses := true, apart := false, narrowed := true }
def FnExactGraphOfUptoSaid : Prop := fnExactGraphOfUptoRow.holds Try.pinned (OpenSpec.upto fnExactGraphOfSpec)

/-- 'laws.FnConnected', WHERE WHAT IT READS IS OF BULK AT MOST 1048576: true; the input reads as it did. -/
def fnConnectedUptoRow : OpenClaim := { program := "ytempekmenkeigaa", sum := "62e46bfbd8e9163a5af0c4eec87fbb362845620bccd331be7c88a92e2e8fd68f", func := "loop.example/g00895/laws.FnConnected", spec := "fnConnected", unfollowed := true, recurses := true, apart := false, narrowed := true }
def FnConnectedUptoSaid : Prop := fnConnectedUptoRow.holds Try.pinned (OpenSpec.upto fnConnectedSpec)

end Rows
end Go.Proofs.Ytempekmenkeigaa
