/-
  No cell of these rows narrows 'for every input' (looked for: loops, veiled, ifaces, maps, wideKeys, modest, calm, conditions, laid).
  DERIVED. THE GIVEN ROWS OF THIS SEAT. 4 by the template 'for every input the law returns true; each argument reads behind the call as it read before'; 0 by the template 'total and deterministic' (their statements: YtogkkhaepfablaaGreatTotals.lean).
  GIVEN WITH THE SEED: the statements are not yours to turn. If you find one false, say at which input.
  Laid BY PROGRAM, IN A SANDBOX (cutbox-rows.mjs): the forced cells as the released guide's own fill.sh prints them over the translation 9d7009f606df7acb… (all of the seat's roots in one cut). By AI agents, Wed Nov 11 2026. No macro, syntax, notation, axiom, sorry.
-/
import Derived.Test.YtogkkhaepfablaaGreatChecked
import GoSem.Claim
import GoSem.ClaimJoined
import GoSem.ClaimMapViews
import Derived.JoinedTies
import Derived.KernelRfl
namespace Go.Proofs.YtogkkhaepfablaaGreat
/- THE CELL 'sum', in the pinned program and in every row, IS THE sha256 OF THE DUMP (.gsa) THAT YtogkkhaepfablaaGreatProg.lean LOADS. Nothing in Lean hashes anything: it is a label: what it is worth is what the hold of that sum in a sandbox is worth. -/
noncomputable def Tryz.pinned : Pinned := { name := "ytogkkhaepfablaagreat", sum := "9d7009f606df7acb0ead390efb1e08372bc4e1924ed00470f53a85c212faaf14", checked := Tryz.checked }
namespace Rows
def none {H : Type} : Left H := { results := [], args := [] }

/-- 'wardmotelaw04.ChanceBelow': WHATEVER THE INPUT: true; the input reads as it did. -/
def chanceBelowSpec : ChangeSpec := { name := "chanceBelow", fn := fun _ => fun
  | [d1, d2, d3, d4] => { results := [.lit (.bool true)], args := [d1, d2, d3, d4] }
  | _ => none }
def chanceBelowRow : OpenClaim := { program := "ytogkkhaepfablaagreat", sum := "9d7009f606df7acb0ead390efb1e08372bc4e1924ed00470f53a85c212faaf14", func := "wardmote/wardmotelaw04.ChanceBelow", spec := "chanceBelow", inPlace := ["math/bits.Sub64", "math/bits.Add64"], unfollowed := true, recurses := true, named := ["math/bits.divideError", "math/bits.overflowError"], apart := false }
def ChanceBelowSaid : Prop := chanceBelowRow.holds Tryz.pinned (OpenSpec.ofChange chanceBelowSpec)

/-- ITS FALSE NEIGHBOUR: 'it returns false'. Refute it at one input. -/
def chanceBelowWrong : ChangeSpec := { name := "chanceBelow", fn := fun _ => fun
  | [d1, d2, d3, d4] => { results := [.lit (.bool false)], args := [d1, d2, d3, d4] }
  | _ => none }
def ChanceBelowWrongFalsely : Prop := chanceBelowRow.holds Tryz.pinned (OpenSpec.ofChange chanceBelowWrong)

/-- 'wardmotelaw04.ChanceWeights': WHATEVER THE INPUT: true; the input reads as it did. -/
def chanceWeightsSpec : ChangeSpec := { name := "chanceWeights", fn := fun _ => fun
  | [d1, d2, d3] => { results := [.lit (.bool true)], args := [d1, d2, d3] }
  | _ => none }
def chanceWeightsRow : OpenClaim := { program := "ytogkkhaepfablaagreat", sum := "9d7009f606df7acb0ead390efb1e08372bc4e1924ed00470f53a85c212faaf14", func := "wardmote/wardmotelaw04.ChanceWeights", spec := "chanceWeights", inPlace := ["math/bits.Sub64", "math/bits.Add64"], unfollowed := true, recurses := true, named := ["math/bits.divideError", "math/bits.overflowError"], apart := false }
def ChanceWeightsSaid : Prop := chanceWeightsRow.holds Tryz.pinned (OpenSpec.ofChange chanceWeightsSpec)

/-- ITS FALSE NEIGHBOUR: 'it returns false'. Refute it at one input. -/
def chanceWeightsWrong : ChangeSpec := { name := "chanceWeights", fn := fun _ => fun
  | [d1, d2, d3] => { results := [.lit (.bool false)], args := [d1, d2, d3] }
  | _ => none }
def ChanceWeightsWrongFalsely : Prop := chanceWeightsRow.holds Tryz.pinned (OpenSpec.ofChange chanceWeightsWrong)

/-- 'wardmotelaw04.ChanceWides': WHATEVER THE INPUT: true; the input reads as it did. -/
def chanceWidesSpec : ChangeSpec := { name := "chanceWides", fn := fun _ => fun
  | [d1, d2, d3] => { results := [.lit (.bool true)], args := [d1, d2, d3] }
  | _ => none }
def chanceWidesRow : OpenClaim := { program := "ytogkkhaepfablaagreat", sum := "9d7009f606df7acb0ead390efb1e08372bc4e1924ed00470f53a85c212faaf14", func := "wardmote/wardmotelaw04.ChanceWides", spec := "chanceWides", inPlace := ["math/bits.Sub64", "math/bits.Add64"], unfollowed := true, recurses := true, named := ["math/bits.divideError", "math/bits.overflowError"], apart := false }
def ChanceWidesSaid : Prop := chanceWidesRow.holds Tryz.pinned (OpenSpec.ofChange chanceWidesSpec)

/-- ITS FALSE NEIGHBOUR: 'it returns false'. Refute it at one input. -/
def chanceWidesWrong : ChangeSpec := { name := "chanceWides", fn := fun _ => fun
  | [d1, d2, d3] => { results := [.lit (.bool false)], args := [d1, d2, d3] }
  | _ => none }
def ChanceWidesWrongFalsely : Prop := chanceWidesRow.holds Tryz.pinned (OpenSpec.ofChange chanceWidesWrong)

/-- 'wardmotelaw04.ChancePicks': WHATEVER THE INPUT: true; the input reads as it did. -/
def chancePicksSpec : ChangeSpec := { name := "chancePicks", fn := fun _ => fun
  | [d1, d2, d3, d4, d5, d6] => { results := [.lit (.bool true)], args := [d1, d2, d3, d4, d5, d6] }
  | _ => none }
def chancePicksRow : OpenClaim := { program := "ytogkkhaepfablaagreat", sum := "9d7009f606df7acb0ead390efb1e08372bc4e1924ed00470f53a85c212faaf14", func := "wardmote/wardmotelaw04.ChancePicks", spec := "chancePicks", inPlace := ["math/bits.Sub64", "math/bits.Add64"], unfollowed := true, recurses := true, named := ["math/bits.divideError", "math/bits.overflowError"], apart := false }
def ChancePicksSaid : Prop := chancePicksRow.holds Tryz.pinned (OpenSpec.ofChange chancePicksSpec)

/-- ITS FALSE NEIGHBOUR: 'it returns false'. Refute it at one input. -/
def chancePicksWrong : ChangeSpec := { name := "chancePicks", fn := fun _ => fun
  | [d1, d2, d3, d4, d5, d6] => { results := [.lit (.bool false)], args := [d1, d2, d3, d4, d5, d6] }
  | _ => none }
def ChancePicksWrongFalsely : Prop := chancePicksRow.holds Tryz.pinned (OpenSpec.ofChange chancePicksWrong)

/- THE SECOND FORM. 'bulk': how many values and letters a reading holds, each counted each time it is reached (what is shared counts as often as it is met; a slice's spare places count too). A statement '..UptoSaid' is the law's where the arguments, and the package variables that the reading takes, are together of bulk at most 1048576: NARROWER than '..Said'. Prove '..Said' where nothing that the law and all that it calls make is longer than what came in: it says more and counts as full. Else prove '..UptoSaid'. A law counts once. -/
mutual
def uptoBulk {H : Type} : DataW H → Nat
  | .lit (.string bytes) => bytes.length + 1
  | .lit _ => 1
  | .nil => 1
  | .ptr d => uptoBulk d + 1
  | .slice elems spare => uptoBulkAll elems + uptoBulkAll spare + 1
  | .agg parts => uptoBulkAll parts + 1
  | .iface _ d => uptoBulk d + 1
  | .map entries => uptoBulkEntries entries + 1
  | .held _ => 1
def uptoBulkAll {H : Type} : List (DataW H) → Nat
  | [] => 0
  | d :: r => uptoBulk d + uptoBulkAll r
def uptoBulkEntries {H : Type} : List (Lit × DataW H) → Nat
  | [] => 0
  | x :: r => uptoBulkEntry x + uptoBulkEntries r
def uptoBulkEntry {H : Type} : Lit × DataW H → Nat
  | (.string bytes, d) => bytes.length + uptoBulk d + 1
  | (_, d) => uptoBulk d + 1
 end
def uptoSmall : (H : Type) → List (DataW H) → Bool := fun _ ds => decide (uptoBulkAll ds ≤ 1048576)
def OpenSpec.upto (s : _root_.Go.ChangeSpec) : _root_.Go.OpenSpec := { _root_.Go.OpenSpec.ofChange s with cond := some uptoSmall }

/-- 'wardmotelaw04.ChanceBelow', WHERE WHAT IT READS IS OF BULK AT MOST 1048576: true; the input reads as it did. -/
def chanceBelowUptoRow : OpenClaim := { program := "ytogkkhaepfablaagreat", sum := "9d7009f606df7acb0ead390efb1e08372bc4e1924ed00470f53a85c212faaf14", func := "wardmote/wardmotelaw04.ChanceBelow", spec := "chanceBelow", inPlace := ["math/bits.Sub64", "math/bits.Add64"], unfollowed := true, recurses := true, named := ["math/bits.divideError", "math/bits.overflowError"], apart := false, narrowed := true }
def ChanceBelowUptoSaid : Prop := chanceBelowUptoRow.holds Tryz.pinned (OpenSpec.upto chanceBelowSpec)

/-- 'wardmotelaw04.ChanceWeights', WHERE WHAT IT READS IS OF BULK AT MOST 1048576: true; the input reads as it did. -/
def chanceWeightsUptoRow : OpenClaim := { program := "ytogkkhaepfablaagreat", sum := "9d7009f606df7acb0ead390efb1e08372bc4e1924ed00470f53a85c212faaf14", func := "wardmote/wardmotelaw04.ChanceWeights", spec := "chanceWeights", inPlace := ["math/bits.Sub64", "math/bits.Add64"], unfollowed := true, recurses := true, named := ["math/bits.divideError", "math/bits.overflowError"], apart := false, narrowed := true }
def ChanceWeightsUptoSaid : Prop := chanceWeightsUptoRow.holds Tryz.pinned (OpenSpec.upto chanceWeightsSpec)

/-- 'wardmotelaw04.ChanceWides', WHERE WHAT IT READS IS OF BULK AT MOST 1048576: true; the input reads as it did. -/
def chanceWidesUptoRow : OpenClaim := { program := "ytogkkhaepfablaagreat", sum := "9d7009f606df7acb0ead390efb1e08372bc4e1924ed00470f53a85c212faaf14", func := "wardmote/wardmotelaw04.ChanceWides", spec := "chanceWides", inPlace := ["math/bits.Sub64", "math/bits.Add64"], unfollowed := true, recurses := true, named := ["math/bits.divideError", "math/bits.overflowError"], apart := false, narrowed := true }
def ChanceWidesUptoSaid : Prop := chanceWidesUptoRow.holds Tryz.pinned (OpenSpec.upto chanceWidesSpec)

/-- 'wardmotelaw04.ChancePicks', WHERE WHAT IT READS IS OF BULK AT MOST 1048576: true; the input reads as it did. -/
def chancePicksUptoRow : OpenClaim := { program := "ytogkkhaepfablaagreat", sum := "9d7009f606df7acb0ead390efb1e08372bc4e1924ed00470f53a85c212faaf14", func := "wardmote/wardmotelaw04.ChancePicks", spec := "chancePicks", inPlace := ["math/bits.Sub64", "math/bits.Add64"], unfollowed := true, recurses := true, named := ["math/bits.divideError", "math/bits.overflowError"], apart := false, narrowed := true }
def ChancePicksUptoSaid : Prop := chancePicksUptoRow.holds Tryz.pinned (OpenSpec.upto chancePicksSpec)

end Rows
end Go.Proofs.YtogkkhaepfablaaGreat
