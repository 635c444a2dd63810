/-
  No cell of these rows narrows 'for every input' (looked for: loops, veiled, ifaces, maps, wideKeys, modest, calm, conditions, laid).
  DERIVED. THE GIVEN ROWS OF THIS SEAT. 5 by the template 'for every input the law returns true; each argument reads behind the call as it read before'; 0 by the template 'total and deterministic' (their statements: YtafjlimmahcpmaaTotals.lean).
  GIVEN WITH THE SEED: the statements are not yours to turn. If you find one false, say at which input.
  Laid BY PROGRAM, IN A SANDBOX (cutbox-rows.mjs): the forced cells as the released guide's own fill.sh prints them over the translation e8cf274c03a86c60… (all of the seat's roots in one cut). By AI agents, Wed Nov 11 2026. No macro, syntax, notation, axiom, sorry.
-/
import Derived.Test.YtafjlimmahcpmaaChecked
import GoSem.Claim
import GoSem.ClaimJoined
import GoSem.ClaimMapViews
import Derived.JoinedTies
import Derived.KernelRfl
namespace Go.Proofs.Ytafjlimmahcpmaa
/- THE CELL 'sum', in the pinned program and in every row, IS THE sha256 OF THE DUMP (.gsa) THAT YtafjlimmahcpmaaProg.lean LOADS. Nothing in Lean hashes anything: it is a label: what it is worth is what the hold of that sum in a sandbox is worth. -/
noncomputable def Try.pinned : Pinned := { name := "ytafjlimmahcpmaa", sum := "e8cf274c03a86c60a37e1b7576eb120f1aae04a53e26bebaec89a993042dd05b", checked := Try.checked }
namespace Rows
def none {H : Type} : Left H := { results := [], args := [] }

/-- 'laws.FnPolyValues': WHATEVER THE INPUT: true; the input reads as it did. -/
def fnPolyValuesSpec : ChangeSpec := { name := "fnPolyValues", fn := fun _ => fun
  | [d] => { results := [.lit (.bool true)], args := [d] }
  | _ => none }
def fnPolyValuesRow : OpenClaim := { program := "ytafjlimmahcpmaa", sum := "e8cf274c03a86c60a37e1b7576eb120f1aae04a53e26bebaec89a993042dd05b", func := "loop.example/g00895/laws.FnPolyValues", spec := "fnPolyValues", recurses := true, apart := false }
def FnPolyValuesSaid : Prop := fnPolyValuesRow.holds Try.pinned (OpenSpec.ofChange fnPolyValuesSpec)

/-- ITS FALSE NEIGHBOUR: 'it returns false'. Refute it at one input. -/
def fnPolyValuesWrong : ChangeSpec := { name := "fnPolyValues", fn := fun _ => fun
  | [d] => { results := [.lit (.bool false)], args := [d] }
  | _ => none }
def FnPolyValuesWrongFalsely : Prop := fnPolyValuesRow.holds Try.pinned (OpenSpec.ofChange fnPolyValuesWrong)

/-- 'laws.FnHeadForms': WHATEVER THE INPUT: true; the input reads as it did. -/
def fnHeadFormsSpec : ChangeSpec := { name := "fnHeadForms", fn := fun _ => fun
  | [d] => { results := [.lit (.bool true)], args := [d] }
  | _ => none }
def fnHeadFormsRow : OpenClaim := { program := "ytafjlimmahcpmaa", sum := "e8cf274c03a86c60a37e1b7576eb120f1aae04a53e26bebaec89a993042dd05b", func := "loop.example/g00895/laws.FnHeadForms", spec := "fnHeadForms", recurses := true, apart := false }
def FnHeadFormsSaid : Prop := fnHeadFormsRow.holds Try.pinned (OpenSpec.ofChange fnHeadFormsSpec)

/-- ITS FALSE NEIGHBOUR: 'it returns false'. Refute it at one input. -/
def fnHeadFormsWrong : ChangeSpec := { name := "fnHeadForms", fn := fun _ => fun
  | [d] => { results := [.lit (.bool false)], args := [d] }
  | _ => none }
def FnHeadFormsWrongFalsely : Prop := fnHeadFormsRow.holds Try.pinned (OpenSpec.ofChange fnHeadFormsWrong)

/-- 'laws.FnPolyForms': WHATEVER THE INPUT: true; the input reads as it did. -/
def fnPolyFormsSpec : ChangeSpec := { name := "fnPolyForms", fn := fun _ => fun
  | [d] => { results := [.lit (.bool true)], args := [d] }
  | _ => none }
def fnPolyFormsRow : OpenClaim := { program := "ytafjlimmahcpmaa", sum := "e8cf274c03a86c60a37e1b7576eb120f1aae04a53e26bebaec89a993042dd05b", func := "loop.example/g00895/laws.FnPolyForms", spec := "fnPolyForms", unfollowed := true, recurses := true, apart := false }
def FnPolyFormsSaid : Prop := fnPolyFormsRow.holds Try.pinned (OpenSpec.ofChange fnPolyFormsSpec)

/-- ITS FALSE NEIGHBOUR: 'it returns false'. Refute it at one input. -/
def fnPolyFormsWrong : ChangeSpec := { name := "fnPolyForms", fn := fun _ => fun
  | [d] => { results := [.lit (.bool false)], args := [d] }
  | _ => none }
def FnPolyFormsWrongFalsely : Prop := fnPolyFormsRow.holds Try.pinned (OpenSpec.ofChange fnPolyFormsWrong)

/-- 'laws.FnKboStable': WHATEVER THE INPUT: true; the input reads as it did. -/
def fnKboStableSpec : ChangeSpec := { name := "fnKboStable", fn := fun _ => fun
  | [d] => { results := [.lit (.bool true)], args := [d] }
  | _ => none }
def fnKboStableRow : OpenClaim := { program := "ytafjlimmahcpmaa", sum := "e8cf274c03a86c60a37e1b7576eb120f1aae04a53e26bebaec89a993042dd05b", func := "loop.example/g00895/laws.FnKboStable", spec := "fnKboStable", recurses := true, apart := false }
def FnKboStableSaid : Prop := fnKboStableRow.holds Try.pinned (OpenSpec.ofChange fnKboStableSpec)

/-- ITS FALSE NEIGHBOUR: 'it returns false'. Refute it at one input. -/
def fnKboStableWrong : ChangeSpec := { name := "fnKboStable", fn := fun _ => fun
  | [d] => { results := [.lit (.bool false)], args := [d] }
  | _ => none }
def FnKboStableWrongFalsely : Prop := fnKboStableRow.holds Try.pinned (OpenSpec.ofChange fnKboStableWrong)

/-- 'laws.FnExactHeadForm': WHATEVER THE INPUT: true; the input reads as it did. -/
def fnExactHeadFormSpec : ChangeSpec := { name := "fnExactHeadForm", fn := fun _ => fun
  | [d1, d2, d3] => { results := [.lit (.bool true)], args := [d1, d2, d3] }
  | _ => none }
def fnExactHeadFormRow : OpenClaim := { program := "ytafjlimmahcpmaa", sum := "e8cf274c03a86c60a37e1b7576eb120f1aae04a53e26bebaec89a993042dd05b", func := "loop.example/g00895/laws.FnExactHeadForm", spec := "fnExactHeadForm", recurses := true, apart := false }
def FnExactHeadFormSaid : Prop := fnExactHeadFormRow.holds Try.pinned (OpenSpec.ofChange fnExactHeadFormSpec)

/-- ITS FALSE NEIGHBOUR: 'it returns false'. Refute it at one input. -/
def fnExactHeadFormWrong : ChangeSpec := { name := "fnExactHeadForm", fn := fun _ => fun
  | [d1, d2, d3] => { results := [.lit (.bool false)], args := [d1, d2, d3] }
  | _ => none }
def FnExactHeadFormWrongFalsely : Prop := fnExactHeadFormRow.holds Try.pinned (OpenSpec.ofChange fnExactHeadFormWrong)

/- THE SECOND FORM. 'bulk': how many values and letters a reading holds, each counted each time it is reached (what is shared counts as often as it is met; a slice's spare places count too). A statement '..UptoSaid' is the law's where the arguments, and the package variables that the reading takes, are together of bulk at most 1048576: NARROWER than '..Said'. Prove '..Said' where nothing that the law and all that it calls make is longer than what came in: it says more and counts as full. Else prove '..UptoSaid'. A law counts once. -/
mutual
def uptoBulk {H : Type} : DataW H → Nat
  | .lit (.string bytes) => bytes.length + 1
  | .lit _ => 1
  | .nil => 1
  | .ptr d => uptoBulk d + 1
  | .slice elems spare => uptoBulkAll elems + uptoBulkAll spare + 1
  | .agg parts => uptoBulkAll parts + 1
  | .iface _ d => uptoBulk d + 1
  | .map entries => uptoBulkEntries entries + 1
  | .held _ => 1
def uptoBulkAll {H : Type} : List (DataW H) → Nat
  | [] => 0
  | d :: r => uptoBulk d + uptoBulkAll r
def uptoBulkEntries {H : Type} : List (Lit × DataW H) → Nat
  | [] => 0
  | x :: r => uptoBulkEntry x + uptoBulkEntries r
def uptoBulkEntry {H : Type} : Lit × DataW H → Nat
  | (.string bytes, d) => bytes.length + uptoBulk d + 1
  | (_, d) => uptoBulk d + 1
 end
def uptoSmall : (H : Type) → List (DataW H) → Bool := fun _ ds => decide (uptoBulkAll ds ≤ 1048576)
def OpenSpec.upto (s : _root_.Go.ChangeSpec) : _root_.Go.OpenSpec := { _root_.Go.OpenSpec.ofChange s with cond := some uptoSmall }

/-- 'laws.FnPolyValues', WHERE WHAT IT READS IS OF BULK AT MOST 1048576: true; the input reads as it did. -/
def fnPolyValuesUptoRow : OpenClaim := { program := "ytafjlimmahcpmaa", sum := "e8cf274c03a86c60a37e1b7576eb120f1aae04a53e26bebaec89a993042dd05b", func := "loop.example/g00895/laws.FnPolyValues", spec := "fnPolyValues", recurses := true, apart := false, narrowed := true }
def FnPolyValuesUptoSaid : Prop := fnPolyValuesUptoRow.holds Try.pinned (OpenSpec.upto fnPolyValuesSpec)

/-- 'laws.FnHeadForms', WHERE WHAT IT READS IS OF BULK AT MOST 1048576: true; the input reads as it did. -/
def fnHeadFormsUptoRow : OpenClaim := { program := "ytafjlimmahcpmaa", sum := "e8cf274c03a86c60a37e1b7576eb120f1aae04a53e26bebaec89a993042dd05b", func := "loop.example/g00895/laws.FnHeadForms", spec := "fnHeadForms", recurses := true, apart := false, narrowed := true }
def FnHeadFormsUptoSaid : Prop := fnHeadFormsUptoRow.holds Try.pinned (OpenSpec.upto fnHeadFormsSpec)

/-- 'laws.FnPolyForms', WHERE WHAT IT READS IS OF BULK AT MOST 1048576: true; the input reads as it did. -/
def fnPolyFormsUptoRow : OpenClaim := { program := "ytafjlimmahcpmaa", sum := "e8cf274c03a86c60a37e1b7576eb120f1aae04a53e26bebaec89a993042dd05b", func := "loop.example/g00895/laws.FnPolyForms", spec := "fnPolyForms", unfollowed := true, recurses := true, apart := false, narrowed := true }
def FnPolyFormsUptoSaid : Prop := fnPolyFormsUptoRow.holds Try.pinned (OpenSpec.upto fnPolyFormsSpec)

/-- 'laws.FnKboStable', WHERE WHAT IT READS IS OF BULK AT MOST 1048576: true; the input reads as it did. -/
def fnKboStableUptoRow : OpenClaim := { program := "ytafjlimmahcpmaa", sum := "e8cf274c03a86c60a37e1b7576eb120f1aae04a53e26bebaec89a993042dd05b", func := "loop.example/g00895/laws.FnKboStable", spec := "fnKboStable", recurses := true, apart := false, narrowed := true }
def FnKboStableUptoSaid : Prop := fnKboStableUptoRow.holds Try.pinned (OpenSpec.upto fnKboStableSpec)

/-- 'laws.FnExactHeadForm', WHERE WHAT IT READS IS OF BULK AT MOST 1048576: true; the input reads as it did. -/
def fnExactHeadFormUptoRow : OpenClaim := { program := "ytafjlimmahcpmaa", sum := "e8cf274c03a86c60a37e1b7576eb120f1aae04a53e26bebaec89a993042dd05b", func := "loop.example/g00895/laws.FnExactHeadForm", spec := "fnExactHeadForm", recurses := true, apart := false, narrowed := true }
def FnExactHeadFormUptoSaid : Prop := fnExactHeadFormUptoRow.holds Try.pinned (OpenSpec.upto fnExactHeadFormSpec)

end Rows
end Go.Proofs.Ytafjlimmahcpmaa
