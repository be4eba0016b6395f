/-
  No cell of these rows narrows 'for every input' (looked for: loops, veiled, ifaces, maps, wideKeys, modest, calm, conditions, laid).
  DERIVED. THE GIVEN ROWS OF THIS SEAT. 5 by the template 'for every input the law returns true; each argument reads behind the call as it read before'; 0 by the template 'total and deterministic' (their statements: YtogkkhaepfablaaTotals.lean).
  GIVEN WITH THE SEED: the statements are not yours to turn. If you find one false, say at which input.
  Laid BY PROGRAM, IN A SANDBOX (cutbox-rows.mjs): the forced cells as the released guide's own fill.sh prints them over the translation 5cd4c10a6d4f6651… (all of the seat's roots in one cut). By AI agents, Wed Nov 11 2026. No macro, syntax, notation, axiom, sorry.
-/
import Derived.Test.YtogkkhaepfablaaChecked
import GoSem.Claim
import GoSem.ClaimJoined
import GoSem.ClaimMapViews
import Derived.JoinedTies
import Derived.KernelRfl
namespace Go.Proofs.Ytogkkhaepfablaa
/- THE CELL 'sum', in the pinned program and in every row, IS THE sha256 OF THE DUMP (.gsa) THAT YtogkkhaepfablaaProg.lean LOADS. Nothing in Lean hashes anything: it is a label: what it is worth is what the hold of that sum in a sandbox is worth. -/
noncomputable def Try.pinned : Pinned := { name := "ytogkkhaepfablaa", sum := "5cd4c10a6d4f66512b70394fe37a3304f2f17520afb26ef264ea25458f93eeb7", checked := Try.checked }
namespace Rows
def none {H : Type} : Left H := { results := [], args := [] }

/-- 'wardmotelaw04.ChanceShuffles': WHATEVER THE INPUT: true; the input reads as it did. -/
def chanceShufflesSpec : ChangeSpec := { name := "chanceShuffles", fn := fun _ => fun
  | [d1, d2, d3] => { results := [.lit (.bool true)], args := [d1, d2, d3] }
  | _ => none }
def chanceShufflesRow : OpenClaim := { program := "ytogkkhaepfablaa", sum := "5cd4c10a6d4f66512b70394fe37a3304f2f17520afb26ef264ea25458f93eeb7", func := "wardmote/wardmotelaw04.ChanceShuffles", spec := "chanceShuffles", inPlace := ["math/bits.Sub64", "math/bits.Add64"], unfollowed := true, recurses := true, named := ["math/bits.divideError", "math/bits.overflowError"], apart := false }
def ChanceShufflesSaid : Prop := chanceShufflesRow.holds Try.pinned (OpenSpec.ofChange chanceShufflesSpec)

/-- ITS FALSE NEIGHBOUR: 'it returns false'. Refute it at one input. -/
def chanceShufflesWrong : ChangeSpec := { name := "chanceShuffles", fn := fun _ => fun
  | [d1, d2, d3] => { results := [.lit (.bool false)], args := [d1, d2, d3] }
  | _ => none }
def ChanceShufflesWrongFalsely : Prop := chanceShufflesRow.holds Try.pinned (OpenSpec.ofChange chanceShufflesWrong)

/-- 'wardmotelaw04.ChanceFair': WHATEVER THE INPUT: true; the input reads as it did. -/
def chanceFairSpec : ChangeSpec := { name := "chanceFair", fn := fun _ => fun
  | [d1, d2] => { results := [.lit (.bool true)], args := [d1, d2] }
  | _ => none }
def chanceFairRow : OpenClaim := { program := "ytogkkhaepfablaa", sum := "5cd4c10a6d4f66512b70394fe37a3304f2f17520afb26ef264ea25458f93eeb7", func := "wardmote/wardmotelaw04.ChanceFair", spec := "chanceFair", inPlace := ["math/bits.Sub64", "math/bits.Add64"], unfollowed := true, recurses := true, named := ["math/bits.divideError", "math/bits.overflowError"], apart := false }
def ChanceFairSaid : Prop := chanceFairRow.holds Try.pinned (OpenSpec.ofChange chanceFairSpec)

/-- ITS FALSE NEIGHBOUR: 'it returns false'. Refute it at one input. -/
def chanceFairWrong : ChangeSpec := { name := "chanceFair", fn := fun _ => fun
  | [d1, d2] => { results := [.lit (.bool false)], args := [d1, d2] }
  | _ => none }
def ChanceFairWrongFalsely : Prop := chanceFairRow.holds Try.pinned (OpenSpec.ofChange chanceFairWrong)

/-- 'wardmotelaw04.ChanceNext': WHATEVER THE INPUT: true; the input reads as it did. -/
def chanceNextSpec : ChangeSpec := { name := "chanceNext", fn := fun _ => fun
  | [d1, d2] => { results := [.lit (.bool true)], args := [d1, d2] }
  | _ => none }
def chanceNextRow : OpenClaim := { program := "ytogkkhaepfablaa", sum := "5cd4c10a6d4f66512b70394fe37a3304f2f17520afb26ef264ea25458f93eeb7", func := "wardmote/wardmotelaw04.ChanceNext", spec := "chanceNext", inPlace := ["math/bits.Sub64", "math/bits.Add64"], unfollowed := true, recurses := true, named := ["math/bits.divideError", "math/bits.overflowError"], apart := false }
def ChanceNextSaid : Prop := chanceNextRow.holds Try.pinned (OpenSpec.ofChange chanceNextSpec)

/-- ITS FALSE NEIGHBOUR: 'it returns false'. Refute it at one input. -/
def chanceNextWrong : ChangeSpec := { name := "chanceNext", fn := fun _ => fun
  | [d1, d2] => { results := [.lit (.bool false)], args := [d1, d2] }
  | _ => none }
def ChanceNextWrongFalsely : Prop := chanceNextRow.holds Try.pinned (OpenSpec.ofChange chanceNextWrong)

/-- 'wardmotelaw04.ChanceKnown': WHATEVER THE INPUT: true; the input reads as it did. -/
def chanceKnownSpec : ChangeSpec := { name := "chanceKnown", fn := fun _ => fun
  | [] => { results := [.lit (.bool true)], args := [] }
  | _ => none }
def chanceKnownRow : OpenClaim := { program := "ytogkkhaepfablaa", sum := "5cd4c10a6d4f66512b70394fe37a3304f2f17520afb26ef264ea25458f93eeb7", func := "wardmote/wardmotelaw04.ChanceKnown", spec := "chanceKnown", inPlace := ["math/bits.Sub64", "math/bits.Add64"], unfollowed := true, recurses := true, named := ["math/bits.divideError", "math/bits.overflowError"], apart := false }
def ChanceKnownSaid : Prop := chanceKnownRow.holds Try.pinned (OpenSpec.ofChange chanceKnownSpec)

/-- ITS FALSE NEIGHBOUR: 'it returns false'. Refute it at one input. -/
def chanceKnownWrong : ChangeSpec := { name := "chanceKnown", fn := fun _ => fun
  | [] => { results := [.lit (.bool false)], args := [] }
  | _ => none }
def ChanceKnownWrongFalsely : Prop := chanceKnownRow.holds Try.pinned (OpenSpec.ofChange chanceKnownWrong)

/-- 'wardmotelaw04.ChanceLists': WHATEVER THE INPUT: true; the input reads as it did. -/
def chanceListsSpec : ChangeSpec := { name := "chanceLists", fn := fun _ => fun
  | [d1, d2, d3, d4] => { results := [.lit (.bool true)], args := [d1, d2, d3, d4] }
  | _ => none }
def chanceListsRow : OpenClaim := { program := "ytogkkhaepfablaa", sum := "5cd4c10a6d4f66512b70394fe37a3304f2f17520afb26ef264ea25458f93eeb7", func := "wardmote/wardmotelaw04.ChanceLists", spec := "chanceLists", inPlace := ["math/bits.Sub64", "math/bits.Add64"], unfollowed := true, recurses := true, named := ["math/bits.divideError", "math/bits.overflowError"], apart := false }
def ChanceListsSaid : Prop := chanceListsRow.holds Try.pinned (OpenSpec.ofChange chanceListsSpec)

/-- ITS FALSE NEIGHBOUR: 'it returns false'. Refute it at one input. -/
def chanceListsWrong : ChangeSpec := { name := "chanceLists", fn := fun _ => fun
  | [d1, d2, d3, d4] => { results := [.lit (.bool false)], args := [d1, d2, d3, d4] }
  | _ => none }
def ChanceListsWrongFalsely : Prop := chanceListsRow.holds Try.pinned (OpenSpec.ofChange chanceListsWrong)

/- THE SECOND FORM. 'bulk': how many values and letters a reading holds, each counted each time it is reached (what is shared counts as often as it is met; a slice's spare places count too). A statement '..UptoSaid' is the law's where the arguments, and the package variables that the reading takes, are together of bulk at most 1048576: NARROWER than '..Said'. Prove '..Said' where nothing that the law and all that it calls make is longer than what came in: it says more and counts as full. Else prove '..UptoSaid'. A law counts once. -/
mutual
def uptoBulk {H : Type} : DataW H → Nat
  | .lit (.string bytes) => bytes.length + 1
  | .lit _ => 1
  | .nil => 1
  | .ptr d => uptoBulk d + 1
  | .slice elems spare => uptoBulkAll elems + uptoBulkAll spare + 1
  | .agg parts => uptoBulkAll parts + 1
  | .iface _ d => uptoBulk d + 1
  | .map entries => uptoBulkEntries entries + 1
  | .held _ => 1
def uptoBulkAll {H : Type} : List (DataW H) → Nat
  | [] => 0
  | d :: r => uptoBulk d + uptoBulkAll r
def uptoBulkEntries {H : Type} : List (Lit × DataW H) → Nat
  | [] => 0
  | x :: r => uptoBulkEntry x + uptoBulkEntries r
def uptoBulkEntry {H : Type} : Lit × DataW H → Nat
  | (.string bytes, d) => bytes.length + uptoBulk d + 1
  | (_, d) => uptoBulk d + 1
 end
def uptoSmall : (H : Type) → List (DataW H) → Bool := fun _ ds => decide (uptoBulkAll ds ≤ 1048576)
def OpenSpec.upto (s : _root_.Go.ChangeSpec) : _root_.Go.OpenSpec := { _root_.Go.OpenSpec.ofChange s with cond := some uptoSmall }

/-- 'wardmotelaw04.ChanceShuffles', WHERE WHAT IT READS IS OF BULK AT MOST 1048576: true; the input reads as it did. -/
def chanceShufflesUptoRow : OpenClaim := { program := "ytogkkhaepfablaa", sum := "5cd4c10a6d4f66512b70394fe37a3304f2f17520afb26ef264ea25458f93eeb7", func := "wardmote/wardmotelaw04.ChanceShuffles", spec := "chanceShuffles", inPlace := ["math/bits.Sub64", "math/bits.Add64"], unfollowed := true, recurses := true, named := ["math/bits.divideError", "math/bits.overflowError"], apart := false, narrowed := true }
def ChanceShufflesUptoSaid : Prop := chanceShufflesUptoRow.holds Try.pinned (OpenSpec.upto chanceShufflesSpec)

/-- 'wardmotelaw04.ChanceFair', WHERE WHAT IT READS IS OF BULK AT MOST 1048576: true; the input reads as it did. -/
def chanceFairUptoRow : OpenClaim := { program := "ytogkkhaepfablaa", sum := "5cd4c10a6d4f66512b70394fe37a3304f2f17520afb26ef264ea25458f93eeb7", func := "wardmote/wardmotelaw04.ChanceFair", spec := "chanceFair", inPlace := ["math/bits.Sub64", "math/bits.Add64"], unfollowed := true, recurses := true, named := ["math/bits.divideError", "math/bits.overflowError"], apart := false, narrowed := true }
def ChanceFairUptoSaid : Prop := chanceFairUptoRow.holds Try.pinned (OpenSpec.upto chanceFairSpec)

/-- 'wardmotelaw04.ChanceNext', WHERE WHAT IT READS IS OF BULK AT MOST 1048576: true; the input reads as it did. -/
def chanceNextUptoRow : OpenClaim := { program := "ytogkkhaepfablaa", sum := "5cd4c10a6d4f66512b70394fe37a3304f2f17520afb26ef264ea25458f93eeb7", func := "wardmote/wardmotelaw04.ChanceNext", spec := "chanceNext", inPlace := ["math/bits.Sub64", "math/bits.Add64"], unfollowed := true, recurses := true, named := ["math/bits.divideError", "math/bits.overflowError"], apart := false, narrowed := true }
def ChanceNextUptoSaid : Prop := chanceNextUptoRow.holds Try.pinned (OpenSpec.upto chanceNextSpec)

/-- 'wardmotelaw04.ChanceKnown', WHERE WHAT IT READS IS OF BULK AT MOST 1048576: true; the input reads as it did. -/
def chanceKnownUptoRow : OpenClaim := { program := "ytogkkhaepfablaa", sum := "5cd4c10a6d4f66512b70394fe37a3304f2f17520afb26ef264ea25458f93eeb7", func := "wardmote/wardmotelaw04.ChanceKnown", spec := "chanceKnown", inPlace := ["math/bits.Sub64", "math/bits.Add64"], unfollowed := true, recurses := true, named := ["math/bits.divideError", "math/bits.overflowError"], apart := false, narrowed := true }
def ChanceKnownUptoSaid : Prop := chanceKnownUptoRow.holds Try.pinned (OpenSpec.upto chanceKnownSpec)

/-- 'wardmotelaw04.ChanceLists', WHERE WHAT IT READS IS OF BULK AT MOST 1048576: true; the input reads as it did. -/
def chanceListsUptoRow : OpenClaim := { program := "ytogkkhaepfablaa", sum := "5cd4c10a6d4f66512b70394fe37a3304f2f17520afb26ef264ea25458f93eeb7", func := "wardmote/wardmotelaw04.ChanceLists", spec := "chanceLists", inPlace := ["math/bits.Sub64", "math/bits.Add64"], unfollowed := true, recurses := true, named := ["math/bits.divideError", "math/bits.overflowError"], apart := false, narrowed := true }
def ChanceListsUptoSaid : Prop := chanceListsUptoRow.holds Try.pinned (OpenSpec.upto chanceListsSpec)

end Rows
end Go.Proofs.Ytogkkhaepfablaa
