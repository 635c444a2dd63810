/-
  No cell of these rows narrows 'for every input' (looked for: loops, veiled, ifaces, maps, wideKeys, modest, calm, conditions, laid).
  DERIVED. THE GIVEN ROWS OF THIS SEAT. 6 by the template 'for every input the law returns true; each argument reads behind the call as it read before'; 0 by the template 'total and deterministic' (their statements: YtccahngnnfohcaaTotals.lean).
  GIVEN WITH THE SEED: the statements are not yours to turn. If you find one false, say at which input.
  Laid BY PROGRAM, IN A SANDBOX (cutbox-rows.mjs): the forced cells as the released guide's own fill.sh prints them over the translation 2bf081fafc0a2865… (all of the seat's roots in one cut). By AI agents, Wed Nov 11 2026. No macro, syntax, notation, axiom, sorry.
-/
import Derived.Test.YtccahngnnfohcaaChecked
import GoSem.Claim
import GoSem.ClaimJoined
import GoSem.ClaimMapViews
import Derived.JoinedTies
import Derived.KernelRfl
namespace Go.Proofs.Ytccahngnnfohcaa
/- THE CELL 'sum', in the pinned program and in every row, IS THE sha256 OF THE DUMP (.gsa) THAT YtccahngnnfohcaaProg.lean LOADS. Nothing in Lean hashes anything: it is a label: what it is worth is what the hold of that sum in a sandbox is worth. -/
noncomputable def Try.pinned : Pinned := { name := "ytccahngnnfohcaa", sum := "2bf081fafc0a286595f8ee3ea53114fe84ce23bdad2aaa5556af0b27506954a0", checked := Try.checked }
namespace Rows
def none {H : Type} : Left H := { results := [], args := [] }

/-- 'laws.FnExactFirstProj': WHATEVER THE INPUT: true; the input reads as it did. -/
def fnExactFirstProjSpec : ChangeSpec := { name := "fnExactFirstProj", fn := fun _ => fun
  | [d1, d2] => { results := [.lit (.bool true)], args := [d1, d2] }
  | _ => none }
def fnExactFirstProjRow : OpenClaim := { program := "ytccahngnnfohcaa", sum := "2bf081fafc0a286595f8ee3ea53114fe84ce23bdad2aaa5556af0b27506954a0", func := "loop.example/g00895/laws.FnExactFirstProj", spec := "fnExactFirstProj", unfollowed := true, recurses := true, apart := false }
def FnExactFirstProjSaid : Prop := fnExactFirstProjRow.holds Try.pinned (OpenSpec.ofChange fnExactFirstProjSpec)

/-- ITS FALSE NEIGHBOUR: 'it returns false'. Refute it at one input. -/
def fnExactFirstProjWrong : ChangeSpec := { name := "fnExactFirstProj", fn := fun _ => fun
  | [d1, d2] => { results := [.lit (.bool false)], args := [d1, d2] }
  | _ => none }
def FnExactFirstProjWrongFalsely : Prop := fnExactFirstProjRow.holds Try.pinned (OpenSpec.ofChange fnExactFirstProjWrong)

/-- 'laws.FnExactConnectedIn': WHATEVER THE INPUT: true; the input reads as it did. -/
def fnExactConnectedInSpec : ChangeSpec := { name := "fnExactConnectedIn", fn := fun _ => fun
  | [d1, d2, d3] => { results := [.lit (.bool true)], args := [d1, d2, d3] }
  | _ => none }
def fnExactConnectedInRow : OpenClaim := { program := "ytccahngnnfohcaa", sum := "2bf081fafc0a286595f8ee3ea53114fe84ce23bdad2aaa5556af0b27506954a0", func := "loop.example/g00895/laws.FnExactConnectedIn", spec := "fnExactConnectedIn", unfollowed := true, recurses := true, apart := false }
def FnExactConnectedInSaid : Prop := fnExactConnectedInRow.holds Try.pinned (OpenSpec.ofChange fnExactConnectedInSpec)

/-- ITS FALSE NEIGHBOUR: 'it returns false'. Refute it at one input. -/
def fnExactConnectedInWrong : ChangeSpec := { name := "fnExactConnectedIn", fn := fun _ => fun
  | [d1, d2, d3] => { results := [.lit (.bool false)], args := [d1, d2, d3] }
  | _ => none }
def FnExactConnectedInWrongFalsely : Prop := fnExactConnectedInRow.holds Try.pinned (OpenSpec.ofChange fnExactConnectedInWrong)

/-- 'laws.FnExactGraphOf': WHATEVER THE INPUT: true; the input reads as it did. -/
def fnExactGraphOfSpec : ChangeSpec := { name := "fnExactGraphOf", fn := fun _ => fun
  | [d] => { results := [.lit (.bool true)], args := [d] }
  | _ => none }
def fnExactGraphOfRow : OpenClaim := { program := "ytccahngnnfohcaa", sum := "2bf081fafc0a286595f8ee3ea53114fe84ce23bdad2aaa5556af0b27506954a0", func := "loop.example/g00895/laws.FnExactGraphOf", spec := "fnExactGraphOf", unfollowed := true, recurses := true, apart := false }
def FnExactGraphOfSaid : Prop := fnExactGraphOfRow.holds Try.pinned (OpenSpec.ofChange fnExactGraphOfSpec)

/-- ITS FALSE NEIGHBOUR: 'it returns false'. Refute it at one input. -/
def fnExactGraphOfWrong : ChangeSpec := { name := "fnExactGraphOf", fn := fun _ => fun
  | [d] => { results := [.lit (.bool false)], args := [d] }
  | _ => none }
def FnExactGraphOfWrongFalsely : Prop := fnExactGraphOfRow.holds Try.pinned (OpenSpec.ofChange fnExactGraphOfWrong)

/-- 'laws.FnProjections': WHATEVER THE INPUT: true; the input reads as it did. -/
def fnProjectionsSpec : ChangeSpec := { name := "fnProjections", fn := fun _ => fun
  | [d] => { results := [.lit (.bool true)], args := [d] }
  | _ => none }
def fnProjectionsRow : OpenClaim := { program := "ytccahngnnfohcaa", sum := "2bf081fafc0a286595f8ee3ea53114fe84ce23bdad2aaa5556af0b27506954a0", func := "loop.example/g00895/laws.FnProjections", spec := "fnProjections", unfollowed := true, recurses := true, apart := false }
def FnProjectionsSaid : Prop := fnProjectionsRow.holds Try.pinned (OpenSpec.ofChange fnProjectionsSpec)

/-- ITS FALSE NEIGHBOUR: 'it returns false'. Refute it at one input. -/
def fnProjectionsWrong : ChangeSpec := { name := "fnProjections", fn := fun _ => fun
  | [d] => { results := [.lit (.bool false)], args := [d] }
  | _ => none }
def FnProjectionsWrongFalsely : Prop := fnProjectionsRow.holds Try.pinned (OpenSpec.ofChange fnProjectionsWrong)

/-- 'laws.FnPairs': WHATEVER THE INPUT: true; the input reads as it did. -/
def fnPairsSpec : ChangeSpec := { name := "fnPairs", fn := fun _ => fun
  | [d] => { results := [.lit (.bool true)], args := [d] }
  | _ => none }
def fnPairsRow : OpenClaim := { program := "ytccahngnnfohcaa", sum := "2bf081fafc0a286595f8ee3ea53114fe84ce23bdad2aaa5556af0b27506954a0", func := "loop.example/g00895/laws.FnPairs", spec := "fnPairs", unfollowed := true, recurses := true, apart := false }
def FnPairsSaid : Prop := fnPairsRow.holds Try.pinned (OpenSpec.ofChange fnPairsSpec)

/-- ITS FALSE NEIGHBOUR: 'it returns false'. Refute it at one input. -/
def fnPairsWrong : ChangeSpec := { name := "fnPairs", fn := fun _ => fun
  | [d] => { results := [.lit (.bool false)], args := [d] }
  | _ => none }
def FnPairsWrongFalsely : Prop := fnPairsRow.holds Try.pinned (OpenSpec.ofChange fnPairsWrong)

/-- 'laws.FnUsable': WHATEVER THE INPUT: true; the input reads as it did. -/
def fnUsableSpec : ChangeSpec := { name := "fnUsable", fn := fun _ => fun
  | [d] => { results := [.lit (.bool true)], args := [d] }
  | _ => none }
def fnUsableRow : OpenClaim := { program := "ytccahngnnfohcaa", sum := "2bf081fafc0a286595f8ee3ea53114fe84ce23bdad2aaa5556af0b27506954a0", func := "loop.example/g00895/laws.FnUsable", spec := "fnUsable", recurses := true, apart := false }
def FnUsableSaid : Prop := fnUsableRow.holds Try.pinned (OpenSpec.ofChange fnUsableSpec)

/-- ITS FALSE NEIGHBOUR: 'it returns false'. Refute it at one input. -/
def fnUsableWrong : ChangeSpec := { name := "fnUsable", fn := fun _ => fun
  | [d] => { results := [.lit (.bool false)], args := [d] }
  | _ => none }
def FnUsableWrongFalsely : Prop := fnUsableRow.holds Try.pinned (OpenSpec.ofChange fnUsableWrong)

/- THE SECOND FORM. 'bulk': how many values and letters a reading holds, each counted each time it is reached (what is shared counts as often as it is met; a slice's spare places count too). A statement '..UptoSaid' is the law's where the arguments, and the package variables that the reading takes, are together of bulk at most 1048576: NARROWER than '..Said'. Prove '..Said' where nothing that the law and all that it calls make is longer than what came in: it says more and counts as full. Else prove '..UptoSaid'. A law counts once. -/
mutual
def uptoBulk {H : Type} : DataW H → Nat
  | .lit (.string bytes) => bytes.length + 1
  | .lit _ => 1
  | .nil => 1
  | .ptr d => uptoBulk d + 1
  | .slice elems spare => uptoBulkAll elems + uptoBulkAll spare + 1
  | .agg parts => uptoBulkAll parts + 1
  | .iface _ d => uptoBulk d + 1
  | .map entries => uptoBulkEntries entries + 1
  | .held _ => 1
def uptoBulkAll {H : Type} : List (DataW H) → Nat
  | [] => 0
  | d :: r => uptoBulk d + uptoBulkAll r
def uptoBulkEntries {H : Type} : List (Lit × DataW H) → Nat
  | [] => 0
  | x :: r => uptoBulkEntry x + uptoBulkEntries r
def uptoBulkEntry {H : Type} : Lit × DataW H → Nat
  | (.string bytes, d) => bytes.length + uptoBulk d + 1
  | (_, d) => uptoBulk d + 1
 end
def uptoSmall : (H : Type) → List (DataW H) → Bool := fun _ ds => decide (uptoBulkAll ds ≤ 1048576)
def OpenSpec.upto (s : _root_.Go.ChangeSpec) : _root_.Go.OpenSpec := { _root_.Go.OpenSpec.ofChange s with cond := some uptoSmall }

/-- 'laws.FnExactFirstProj', WHERE WHAT IT READS IS OF BULK AT MOST 1048576: true; the input reads as it did. -/
def fnExactFirstProjUptoRow : OpenClaim := { program := "ytccahngnnfohcaa", sum := "2bf081fafc0a286595f8ee3ea53114fe84ce23bdad2aaa5556af0b27506954a0", func := "loop.example/g00895/laws.FnExactFirstProj", spec := "fnExactFirstProj", unfollowed := true, recurses := true, apart := false, narrowed := true }
def FnExactFirstProjUptoSaid : Prop := fnExactFirstProjUptoRow.holds Try.pinned (OpenSpec.upto fnExactFirstProjSpec)

/-- 'laws.FnExactConnectedIn', WHERE WHAT IT READS IS OF BULK AT MOST 1048576: true; the input reads as it did. -/
def fnExactConnectedInUptoRow : OpenClaim := { program := "ytccahngnnfohcaa", sum := "2bf081fafc0a286595f8ee3ea53114fe84ce23bdad2aaa5556af0b27506954a0", func := "loop.example/g00895/laws.FnExactConnectedIn", spec := "fnExactConnectedIn", unfollowed := true, recurses := true, apart := false, narrowed := true }
def FnExactConnectedInUptoSaid : Prop := fnExactConnectedInUptoRow.holds Try.pinned (OpenSpec.upto fnExactConnectedInSpec)

/-- 'laws.FnExactGraphOf', WHERE WHAT IT READS IS OF BULK AT MOST 1048576: true; the input reads as it did. -/
def fnExactGraphOfUptoRow : OpenClaim := { program := "ytccahngnnfohcaa", sum := "2bf081fafc0a286595f8ee3ea53114fe84ce23bdad2aaa5556af0b27506954a0", func := "loop.example/g00895/laws.FnExactGraphOf", spec := "fnExactGraphOf", unfollowed := true, recurses := true, apart := false, narrowed := true }
def FnExactGraphOfUptoSaid : Prop := fnExactGraphOfUptoRow.holds Try.pinned (OpenSpec.upto fnExactGraphOfSpec)

/-- 'laws.FnProjections', WHERE WHAT IT READS IS OF BULK AT MOST 1048576: true; the input reads as it did. -/
def fnProjectionsUptoRow : OpenClaim := { program := "ytccahngnnfohcaa", sum := "2bf081fafc0a286595f8ee3ea53114fe84ce23bdad2aaa5556af0b27506954a0", func := "loop.example/g00895/laws.FnProjections", spec := "fnProjections", unfollowed := true, recurses := true, apart := false, narrowed := true }
def FnProjectionsUptoSaid : Prop := fnProjectionsUptoRow.holds Try.pinned (OpenSpec.upto fnProjectionsSpec)

/-- 'laws.FnPairs', WHERE WHAT IT READS IS OF BULK AT MOST 1048576: true; the input reads as it did. -/
def fnPairsUptoRow : OpenClaim := { program := "ytccahngnnfohcaa", sum := "2bf081fafc0a286595f8ee3ea53114fe84ce23bdad2aaa5556af0b27506954a0", func := "loop.example/g00895/laws.FnPairs", spec := "fnPairs", unfollowed := true, recurses := true, apart := false, narrowed := true }
def FnPairsUptoSaid : Prop := fnPairsUptoRow.holds Try.pinned (OpenSpec.upto fnPairsSpec)

/-- 'laws.FnUsable', WHERE WHAT IT READS IS OF BULK AT MOST 1048576: true; the input reads as it did. -/
def fnUsableUptoRow : OpenClaim := { program := "ytccahngnnfohcaa", sum := "2bf081fafc0a286595f8ee3ea53114fe84ce23bdad2aaa5556af0b27506954a0", func := "loop.example/g00895/laws.FnUsable", spec := "fnUsable", recurses := true, apart := false, narrowed := true }
def FnUsableUptoSaid : Prop := fnUsableUptoRow.holds Try.pinned (OpenSpec.upto fnUsableSpec)

end Rows
end Go.Proofs.Ytccahngnnfohcaa
