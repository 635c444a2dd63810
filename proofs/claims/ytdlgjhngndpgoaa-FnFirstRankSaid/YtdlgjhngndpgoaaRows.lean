/-
  No cell of these rows narrows 'for every input' (looked for: loops, veiled, ifaces, maps, wideKeys, modest, calm, conditions, laid).
  DERIVED. THE GIVEN ROWS OF THIS SEAT. 3 by the template 'for every input the law returns true; each argument reads behind the call as it read before'; 0 by the template 'total and deterministic' (their statements: YtdlgjhngndpgoaaTotals.lean).
  GIVEN WITH THE SEED: the statements are not yours to turn. If you find one false, say at which input.
  Laid BY PROGRAM, IN A SANDBOX (cutbox-rows.mjs): the forced cells as the released guide's own fill.sh prints them over the translation c64ebaf5fa09f71e… (all of the seat's roots in one cut). By AI agents, Wed Nov 11 2026. No macro, syntax, notation, axiom, sorry.
-/
import Derived.Test.YtdlgjhngndpgoaaChecked
import GoSem.Claim
import GoSem.ClaimJoined
import GoSem.ClaimMapViews
import Derived.JoinedTies
import Derived.KernelRfl
namespace Go.Proofs.Ytdlgjhngndpgoaa
/- THE CELL 'sum', in the pinned program and in every row, IS THE sha256 OF THE DUMP (.gsa) THAT YtdlgjhngndpgoaaProg.lean LOADS. Nothing in Lean hashes anything: it is a label: what it is worth is what the hold of that sum in a sandbox is worth. -/
noncomputable def Try.pinned : Pinned := { name := "ytdlgjhngndpgoaa", sum := "c64ebaf5fa09f71eee4577f825a3636d3e8b2914432f3e337c15007493369027", checked := Try.checked }
namespace Rows
def none {H : Type} : Left H := { results := [], args := [] }

/-- 'laws.FnFirstRank': WHATEVER THE INPUT: true; the input reads as it did. -/
def fnFirstRankSpec : ChangeSpec := { name := "fnFirstRank", fn := fun _ => fun
  | [d] => { results := [.lit (.bool true)], args := [d] }
  | _ => none }
def fnFirstRankRow : OpenClaim := { program := "ytdlgjhngndpgoaa", sum := "c64ebaf5fa09f71eee4577f825a3636d3e8b2914432f3e337c15007493369027", func := "loop.example/g00895/laws.FnFirstRank", spec := "fnFirstRank", unfollowed := true, recurses := true, leaving := true, apart := false }
def FnFirstRankSaid : Prop := fnFirstRankRow.holds Try.pinned (OpenSpec.ofChange fnFirstRankSpec)

/-- ITS FALSE NEIGHBOUR: 'it returns false'. Refute it at one input. -/
def fnFirstRankWrong : ChangeSpec := { name := "fnFirstRank", fn := fun _ => fun
  | [d] => { results := [.lit (.bool false)], args := [d] }
  | _ => none }
def FnFirstRankWrongFalsely : Prop := fnFirstRankRow.holds Try.pinned (OpenSpec.ofChange fnFirstRankWrong)

/-- 'laws.FnExactFirstRank': WHATEVER THE INPUT: true; the input reads as it did. -/
def fnExactFirstRankSpec : ChangeSpec := { name := "fnExactFirstRank", fn := fun _ => fun
  | [d] => { results := [.lit (.bool true)], args := [d] }
  | _ => none }
def fnExactFirstRankRow : OpenClaim := { program := "ytdlgjhngndpgoaa", sum := "c64ebaf5fa09f71eee4577f825a3636d3e8b2914432f3e337c15007493369027", func := "loop.example/g00895/laws.FnExactFirstRank", spec := "fnExactFirstRank", unfollowed := true, recurses := true, leaving := true, apart := false }
def FnExactFirstRankSaid : Prop := fnExactFirstRankRow.holds Try.pinned (OpenSpec.ofChange fnExactFirstRankSpec)

/-- ITS FALSE NEIGHBOUR: 'it returns false'. Refute it at one input. -/
def fnExactFirstRankWrong : ChangeSpec := { name := "fnExactFirstRank", fn := fun _ => fun
  | [d] => { results := [.lit (.bool false)], args := [d] }
  | _ => none }
def FnExactFirstRankWrongFalsely : Prop := fnExactFirstRankRow.holds Try.pinned (OpenSpec.ofChange fnExactFirstRankWrong)

/-- 'laws.FnExactFirstBags': WHATEVER THE INPUT: true; the input reads as it did. -/
def fnExactFirstBagsSpec : ChangeSpec := { name := "fnExactFirstBags", fn := fun _ => fun
  | [d] => { results := [.lit (.bool true)], args := [d] }
  | _ => none }
def fnExactFirstBagsRow : OpenClaim := { program := "ytdlgjhngndpgoaa", sum := "c64ebaf5fa09f71eee4577f825a3636d3e8b2914432f3e337c15007493369027", func := "loop.example/g00895/laws.FnExactFirstBags", spec := "fnExactFirstBags", unfollowed := true, recurses := true, leaving := true, apart := false }
def FnExactFirstBagsSaid : Prop := fnExactFirstBagsRow.holds Try.pinned (OpenSpec.ofChange fnExactFirstBagsSpec)

/-- ITS FALSE NEIGHBOUR: 'it returns false'. Refute it at one input. -/
def fnExactFirstBagsWrong : ChangeSpec := { name := "fnExactFirstBags", fn := fun _ => fun
  | [d] => { results := [.lit (.bool false)], args := [d] }
  | _ => none }
def FnExactFirstBagsWrongFalsely : Prop := fnExactFirstBagsRow.holds Try.pinned (OpenSpec.ofChange fnExactFirstBagsWrong)

/- THE SECOND FORM. 'bulk': how many values and letters a reading holds, each counted each time it is reached (what is shared counts as often as it is met; a slice's spare places count too). A statement '..UptoSaid' is the law's where the arguments, and the package variables that the reading takes, are together of bulk at most 1048576: NARROWER than '..Said'. Prove '..Said' where nothing that the law and all that it calls make is longer than what came in: it says more and counts as full. Else prove '..UptoSaid'. A law counts once. -/
mutual
def uptoBulk {H : Type} : DataW H → Nat
  | .lit (.string bytes) => bytes.length + 1
  | .lit _ => 1
  | .nil => 1
  | .ptr d => uptoBulk d + 1
  | .slice elems spare => uptoBulkAll elems + uptoBulkAll spare + 1
  | .agg parts => uptoBulkAll parts + 1
  | .iface _ d => uptoBulk d + 1
  | .map entries => uptoBulkEntries entries + 1
  | .held _ => 1
def uptoBulkAll {H : Type} : List (DataW H) → Nat
  | [] => 0
  | d :: r => uptoBulk d + uptoBulkAll r
def uptoBulkEntries {H : Type} : List (Lit × DataW H) → Nat
  | [] => 0
  | x :: r => uptoBulkEntry x + uptoBulkEntries r
def uptoBulkEntry {H : Type} : Lit × DataW H → Nat
  | (.string bytes, d) => bytes.length + uptoBulk d + 1
  | (_, d) => uptoBulk d + 1
 end
def uptoSmall : (H : Type) → List (DataW H) → Bool := fun _ ds => decide (uptoBulkAll ds ≤ 1048576)
def OpenSpec.upto (s : _root_.Go.ChangeSpec) : _root_.Go.OpenSpec := { _root_.Go.OpenSpec.ofChange s with cond := some uptoSmall }

/-- 'laws.FnFirstRank', WHERE WHAT IT READS IS OF BULK AT MOST 1048576: true; the input reads as it did. -/
def fnFirstRankUptoRow : OpenClaim := { program := "ytdlgjhngndpgoaa", sum := "c64ebaf5fa09f71eee4577f825a3636d3e8b2914432f3e337c15007493369027", func := "loop.example/g00895/laws.FnFirstRank", spec := "fnFirstRank", unfollowed := true, recurses := true, leaving := true, apart := false, narrowed := true }
def FnFirstRankUptoSaid : Prop := fnFirstRankUptoRow.holds Try.pinned (OpenSpec.upto fnFirstRankSpec)

/-- 'laws.FnExactFirstRank', WHERE WHAT IT READS IS OF BULK AT MOST 1048576: true; the input reads as it did. -/
def fnExactFirstRankUptoRow : OpenClaim := { program := "ytdlgjhngndpgoaa", sum := "c64ebaf5fa09f71eee4577f825a3636d3e8b2914432f3e337c15007493369027", func := "loop.example/g00895/laws.FnExactFirstRank", spec := "fnExactFirstRank", unfollowed := true, recurses := true, leaving := true, apart := false, narrowed := true }
def FnExactFirstRankUptoSaid : Prop := fnExactFirstRankUptoRow.holds Try.pinned (OpenSpec.upto fnExactFirstRankSpec)

/-- 'laws.FnExactFirstBags', WHERE WHAT IT READS IS OF BULK AT MOST 1048576: true; the input reads as it did. -/
def fnExactFirstBagsUptoRow : OpenClaim := { program := "ytdlgjhngndpgoaa", sum := "c64ebaf5fa09f71eee4577f825a3636d3e8b2914432f3e337c15007493369027", func := "loop.example/g00895/laws.FnExactFirstBags", spec := "fnExactFirstBags", unfollowed := true, recurses := true, leaving := true, apart := false, narrowed := true }
def FnExactFirstBagsUptoSaid : Prop := fnExactFirstBagsUptoRow.holds Try.pinned (OpenSpec.upto fnExactFirstBagsSpec)

end Rows
end Go.Proofs.Ytdlgjhngndpgoaa
