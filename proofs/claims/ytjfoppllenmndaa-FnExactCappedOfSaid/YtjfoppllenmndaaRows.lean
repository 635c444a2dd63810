/-
  No cell of these rows narrows 'for every input' (looked for: loops, veiled, ifaces, maps, wideKeys, modest, calm, conditions, laid).
  DERIVED. THE GIVEN ROWS OF THIS SEAT. 6 by the template 'for every input the law returns true; each argument reads behind the call as it read before'; 0 by the template 'total and deterministic' (their statements: YtjfoppllenmndaaTotals.lean).
  GIVEN WITH THE SEED: the statements are not yours to turn. If you find one false, say at which input.
  Laid BY PROGRAM, IN A SANDBOX (cutbox-rows.mjs): the forced cells as the released guide's own fill.sh prints them over the translation 693878a2dc952c56… (all of the seat's roots in one cut). By AI agents, Wed Nov 11 2026. No macro, syntax, notation, axiom, sorry.
-/
import Derived.Test.YtjfoppllenmndaaChecked
import GoSem.Claim
import GoSem.ClaimJoined
import GoSem.ClaimMapViews
import Derived.JoinedTies
import Derived.KernelRfl
namespace Go.Proofs.Ytjfoppllenmndaa
/- THE CELL 'sum', in the pinned program and in every row, IS THE sha256 OF THE DUMP (.gsa) THAT YtjfoppllenmndaaProg.lean LOADS. Nothing in Lean hashes anything: it is a label: what it is worth is what the hold of that sum in a sandbox is worth. -/
noncomputable def Try.pinned : Pinned := { name := "ytjfoppllenmndaa", sum := "693878a2dc952c561cad7ed6e0ff8c6b7b65bddb42b2deee72b8bf921c7fadbc", checked := Try.checked }
namespace Rows
def none {H : Type} : Left H := { results := [], args := [] }

/-- 'laws.FnExactDepOk': WHATEVER THE INPUT: true; the input reads as it did. -/
def fnExactDepOkSpec : ChangeSpec := { name := "fnExactDepOk", fn := fun _ => fun
  | [d1, d2] => { results := [.lit (.bool true)], args := [d1, d2] }
  | _ => none }
def fnExactDepOkRow : OpenClaim := { program := "ytjfoppllenmndaa", sum := "693878a2dc952c561cad7ed6e0ff8c6b7b65bddb42b2deee72b8bf921c7fadbc", func := "loop.example/g00895/laws.FnExactDepOk", spec := "fnExactDepOk", unfollowed := true, recurses := true, apart := false }
def FnExactDepOkSaid : Prop := fnExactDepOkRow.holds Try.pinned (OpenSpec.ofChange fnExactDepOkSpec)

/-- ITS FALSE NEIGHBOUR: 'it returns false'. Refute it at one input. -/
def fnExactDepOkWrong : ChangeSpec := { name := "fnExactDepOk", fn := fun _ => fun
  | [d1, d2] => { results := [.lit (.bool false)], args := [d1, d2] }
  | _ => none }
def FnExactDepOkWrongFalsely : Prop := fnExactDepOkRow.holds Try.pinned (OpenSpec.ofChange fnExactDepOkWrong)

/-- 'laws.FnExactPairsOf': WHATEVER THE INPUT: true; the input reads as it did. -/
def fnExactPairsOfSpec : ChangeSpec := { name := "fnExactPairsOf", fn := fun _ => fun
  | [d] => { results := [.lit (.bool true)], args := [d] }
  | _ => none }
def fnExactPairsOfRow : OpenClaim := { program := "ytjfoppllenmndaa", sum := "693878a2dc952c561cad7ed6e0ff8c6b7b65bddb42b2deee72b8bf921c7fadbc", func := "loop.example/g00895/laws.FnExactPairsOf", spec := "fnExactPairsOf", unfollowed := true, recurses := true, apart := false }
def FnExactPairsOfSaid : Prop := fnExactPairsOfRow.holds Try.pinned (OpenSpec.ofChange fnExactPairsOfSpec)

/-- ITS FALSE NEIGHBOUR: 'it returns false'. Refute it at one input. -/
def fnExactPairsOfWrong : ChangeSpec := { name := "fnExactPairsOf", fn := fun _ => fun
  | [d] => { results := [.lit (.bool false)], args := [d] }
  | _ => none }
def FnExactPairsOfWrongFalsely : Prop := fnExactPairsOfRow.holds Try.pinned (OpenSpec.ofChange fnExactPairsOfWrong)

/-- 'laws.FnExactUsableOf': WHATEVER THE INPUT: true; the input reads as it did. -/
def fnExactUsableOfSpec : ChangeSpec := { name := "fnExactUsableOf", fn := fun _ => fun
  | [d1, d2] => { results := [.lit (.bool true)], args := [d1, d2] }
  | _ => none }
def fnExactUsableOfRow : OpenClaim := { program := "ytjfoppllenmndaa", sum := "693878a2dc952c561cad7ed6e0ff8c6b7b65bddb42b2deee72b8bf921c7fadbc", func := "loop.example/g00895/laws.FnExactUsableOf", spec := "fnExactUsableOf", apart := false }
def FnExactUsableOfSaid : Prop := fnExactUsableOfRow.holds Try.pinned (OpenSpec.ofChange fnExactUsableOfSpec)

/-- ITS FALSE NEIGHBOUR: 'it returns false'. Refute it at one input. -/
def fnExactUsableOfWrong : ChangeSpec := { name := "fnExactUsableOf", fn := fun _ => fun
  | [d1, d2] => { results := [.lit (.bool false)], args := [d1, d2] }
  | _ => none }
def FnExactUsableOfWrongFalsely : Prop := fnExactUsableOfRow.holds Try.pinned (OpenSpec.ofChange fnExactUsableOfWrong)

/-- 'laws.FnExactCappedOf': WHATEVER THE INPUT: true; the input reads as it did. -/
def fnExactCappedOfSpec : ChangeSpec := { name := "fnExactCappedOf", fn := fun _ => fun
  | [d1, d2] => { results := [.lit (.bool true)], args := [d1, d2] }
  | _ => none }
def fnExactCappedOfRow : OpenClaim := { program := "ytjfoppllenmndaa", sum := "693878a2dc952c561cad7ed6e0ff8c6b7b65bddb42b2deee72b8bf921c7fadbc", func := "loop.example/g00895/laws.FnExactCappedOf", spec := "fnExactCappedOf", unfollowed := true, recurses := true, apart := false }
def FnExactCappedOfSaid : Prop := fnExactCappedOfRow.holds Try.pinned (OpenSpec.ofChange fnExactCappedOfSpec)

/-- ITS FALSE NEIGHBOUR: 'it returns false'. Refute it at one input. -/
def fnExactCappedOfWrong : ChangeSpec := { name := "fnExactCappedOf", fn := fun _ => fun
  | [d1, d2] => { results := [.lit (.bool false)], args := [d1, d2] }
  | _ => none }
def FnExactCappedOfWrongFalsely : Prop := fnExactCappedOfRow.holds Try.pinned (OpenSpec.ofChange fnExactCappedOfWrong)

/-- 'laws.FnExactSizePolys': WHATEVER THE INPUT: true; the input reads as it did. -/
def fnExactSizePolysSpec : ChangeSpec := { name := "fnExactSizePolys", fn := fun _ => fun
  | [d] => { results := [.lit (.bool true)], args := [d] }
  | _ => none }
def fnExactSizePolysRow : OpenClaim := { program := "ytjfoppllenmndaa", sum := "693878a2dc952c561cad7ed6e0ff8c6b7b65bddb42b2deee72b8bf921c7fadbc", func := "loop.example/g00895/laws.FnExactSizePolys", spec := "fnExactSizePolys", apart := false }
def FnExactSizePolysSaid : Prop := fnExactSizePolysRow.holds Try.pinned (OpenSpec.ofChange fnExactSizePolysSpec)

/-- ITS FALSE NEIGHBOUR: 'it returns false'. Refute it at one input. -/
def fnExactSizePolysWrong : ChangeSpec := { name := "fnExactSizePolys", fn := fun _ => fun
  | [d] => { results := [.lit (.bool false)], args := [d] }
  | _ => none }
def FnExactSizePolysWrongFalsely : Prop := fnExactSizePolysRow.holds Try.pinned (OpenSpec.ofChange fnExactSizePolysWrong)

/-- 'laws.FnExactNextRank': WHATEVER THE INPUT: true; the input reads as it did. -/
def fnExactNextRankSpec : ChangeSpec := { name := "fnExactNextRank", fn := fun _ => fun
  | [d] => { results := [.lit (.bool true)], args := [d] }
  | _ => none }
def fnExactNextRankRow : OpenClaim := { program := "ytjfoppllenmndaa", sum := "693878a2dc952c561cad7ed6e0ff8c6b7b65bddb42b2deee72b8bf921c7fadbc", func := "loop.example/g00895/laws.FnExactNextRank", spec := "fnExactNextRank", recurses := true, apart := false }
def FnExactNextRankSaid : Prop := fnExactNextRankRow.holds Try.pinned (OpenSpec.ofChange fnExactNextRankSpec)

/-- ITS FALSE NEIGHBOUR: 'it returns false'. Refute it at one input. -/
def fnExactNextRankWrong : ChangeSpec := { name := "fnExactNextRank", fn := fun _ => fun
  | [d] => { results := [.lit (.bool false)], args := [d] }
  | _ => none }
def FnExactNextRankWrongFalsely : Prop := fnExactNextRankRow.holds Try.pinned (OpenSpec.ofChange fnExactNextRankWrong)

/- THE SECOND FORM. 'bulk': how many values and letters a reading holds, each counted each time it is reached (what is shared counts as often as it is met; a slice's spare places count too). A statement '..UptoSaid' is the law's where the arguments, and the package variables that the reading takes, are together of bulk at most 1048576: NARROWER than '..Said'. Prove '..Said' where nothing that the law and all that it calls make is longer than what came in: it says more and counts as full. Else prove '..UptoSaid'. A law counts once. -/
mutual
def uptoBulk {H : Type} : DataW H → Nat
  | .lit (.string bytes) => bytes.length + 1
  | .lit _ => 1
  | .nil => 1
  | .ptr d => uptoBulk d + 1
  | .slice elems spare => uptoBulkAll elems + uptoBulkAll spare + 1
  | .agg parts => uptoBulkAll parts + 1
  | .iface _ d => uptoBulk d + 1
  | .map entries => uptoBulkEntries entries + 1
  | .held _ => 1
def uptoBulkAll {H : Type} : List (DataW H) → Nat
  | [] => 0
  | d :: r => uptoBulk d + uptoBulkAll r
def uptoBulkEntries {H : Type} : List (Lit × DataW H) → Nat
  | [] => 0
  | x :: r => uptoBulkEntry x + uptoBulkEntries r
def uptoBulkEntry {H : Type} : Lit × DataW H → Nat
  | (.string bytes, d) => bytes.length + uptoBulk d + 1
  | (_, d) => uptoBulk d + 1
 end
def uptoSmall : (H : Type) → List (DataW H) → Bool := fun _ ds => decide (uptoBulkAll ds ≤ 1048576)
def OpenSpec.upto (s : _root_.Go.ChangeSpec) : _root_.Go.OpenSpec := { _root_.Go.OpenSpec.ofChange s with cond := some uptoSmall }

/-- 'laws.FnExactDepOk', WHERE WHAT IT READS IS OF BULK AT MOST 1048576: true; the input reads as it did. -/
def fnExactDepOkUptoRow : OpenClaim := { program := "ytjfoppllenmndaa", sum := "693878a2dc952c561cad7ed6e0ff8c6b7b65bddb42b2deee72b8bf921c7fadbc", func := "loop.example/g00895/laws.FnExactDepOk", spec := "fnExactDepOk", unfollowed := true, recurses := true, apart := false, narrowed := true }
def FnExactDepOkUptoSaid : Prop := fnExactDepOkUptoRow.holds Try.pinned (OpenSpec.upto fnExactDepOkSpec)

/-- 'laws.FnExactPairsOf', WHERE WHAT IT READS IS OF BULK AT MOST 1048576: true; the input reads as it did. -/
def fnExactPairsOfUptoRow : OpenClaim := { program := "ytjfoppllenmndaa", sum := "693878a2dc952c561cad7ed6e0ff8c6b7b65bddb42b2deee72b8bf921c7fadbc", func := "loop.example/g00895/laws.FnExactPairsOf", spec := "fnExactPairsOf", unfollowed := true, recurses := true, apart := false, narrowed := true }
def FnExactPairsOfUptoSaid : Prop := fnExactPairsOfUptoRow.holds Try.pinned (OpenSpec.upto fnExactPairsOfSpec)

/-- 'laws.FnExactUsableOf', WHERE WHAT IT READS IS OF BULK AT MOST 1048576: true; the input reads as it did. -/
def fnExactUsableOfUptoRow : OpenClaim := { program := "ytjfoppllenmndaa", sum := "693878a2dc952c561cad7ed6e0ff8c6b7b65bddb42b2deee72b8bf921c7fadbc", func := "loop.example/g00895/laws.FnExactUsableOf", spec := "fnExactUsableOf", apart := false, narrowed := true }
def FnExactUsableOfUptoSaid : Prop := fnExactUsableOfUptoRow.holds Try.pinned (OpenSpec.upto fnExactUsableOfSpec)

/-- 'laws.FnExactCappedOf', WHERE WHAT IT READS IS OF BULK AT MOST 1048576: true; the input reads as it did. -/
def fnExactCappedOfUptoRow : OpenClaim := { program := "ytjfoppllenmndaa", sum := "693878a2dc952c561cad7ed6e0ff8c6b7b65bddb42b2deee72b8bf921c7fadbc", func := "loop.example/g00895/laws.FnExactCappedOf", spec := "fnExactCappedOf", unfollowed := true, recurses := true, apart := false, narrowed := true }
def FnExactCappedOfUptoSaid : Prop := fnExactCappedOfUptoRow.holds Try.pinned (OpenSpec.upto fnExactCappedOfSpec)

/-- 'laws.FnExactSizePolys', WHERE WHAT IT READS IS OF BULK AT MOST 1048576: true; the input reads as it did. -/
def fnExactSizePolysUptoRow : OpenClaim := { program := "ytjfoppllenmndaa", sum := "693878a2dc952c561cad7ed6e0ff8c6b7b65bddb42b2deee72b8bf921c7fadbc", func := "loop.example/g00895/laws.FnExactSizePolys", spec := "fnExactSizePolys", apart := false, narrowed := true }
def FnExactSizePolysUptoSaid : Prop := fnExactSizePolysUptoRow.holds Try.pinned (OpenSpec.upto fnExactSizePolysSpec)

/-- 'laws.FnExactNextRank', WHERE WHAT IT READS IS OF BULK AT MOST 1048576: true; the input reads as it did. -/
def fnExactNextRankUptoRow : OpenClaim := { program := "ytjfoppllenmndaa", sum := "693878a2dc952c561cad7ed6e0ff8c6b7b65bddb42b2deee72b8bf921c7fadbc", func := "loop.example/g00895/laws.FnExactNextRank", spec := "fnExactNextRank", recurses := true, apart := false, narrowed := true }
def FnExactNextRankUptoSaid : Prop := fnExactNextRankUptoRow.holds Try.pinned (OpenSpec.upto fnExactNextRankSpec)

end Rows
end Go.Proofs.Ytjfoppllenmndaa
