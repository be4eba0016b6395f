/-
  No cell of these rows narrows 'for every input' (looked for: loops, veiled, ifaces, maps, wideKeys, modest, calm, conditions, laid).
  DERIVED. THE GIVEN ROWS OF THIS SEAT. 6 by the template 'for every input the law returns true; each argument reads behind the call as it read before'; 0 by the template 'total and deterministic' (their statements: YtebbhhdnjflmcaaGreatTotals.lean).
  GIVEN WITH THE SEED: the statements are not yours to turn. If you find one false, say at which input.
  Laid BY PROGRAM, IN A SANDBOX (cutbox-rows.mjs): the forced cells as the released guide's own fill.sh prints them over the translation fe1bee257ee6beab… (all of the seat's roots in one cut). By AI agents, Wed Nov 11 2026. No macro, syntax, notation, axiom, sorry.
-/
import Derived.Test.YtebbhhdnjflmcaaGreatChecked
import GoSem.Claim
import GoSem.ClaimJoined
import GoSem.ClaimMapViews
import Derived.JoinedTies
import Derived.KernelRfl
namespace Go.Proofs.YtebbhhdnjflmcaaGreat
/- THE CELL 'sum', in the pinned program and in every row, IS THE sha256 OF THE DUMP (.gsa) THAT YtebbhhdnjflmcaaGreatProg.lean LOADS. Nothing in Lean hashes anything: it is a label: what it is worth is what the hold of that sum in a sandbox is worth. -/
noncomputable def Tryz.pinned : Pinned := { name := "ytebbhhdnjflmcaagreat", sum := "fe1bee257ee6beabb5093c81ba1cc536cd78ee50ee0f24166d22cd49f496b379", checked := Tryz.checked }
namespace Rows
def none {H : Type} : Left H := { results := [], args := [] }

/-- 'wardmotelaw07.DivisorPosts': WHATEVER THE INPUT: true; the input reads as it did. -/
def divisorPostsSpec : ChangeSpec := { name := "divisorPosts", fn := fun _ => fun
  | [d1, d2, d3, d4, d5, d6] => { results := [.lit (.bool true)], args := [d1, d2, d3, d4, d5, d6] }
  | _ => none }
def divisorPostsRow : OpenClaim := { program := "ytebbhhdnjflmcaagreat", sum := "fe1bee257ee6beabb5093c81ba1cc536cd78ee50ee0f24166d22cd49f496b379", func := "wardmote/wardmotelaw07.DivisorPosts", spec := "divisorPosts", inPlace := ["math/bits.Sub64", "math/bits.Add64"], unfollowed := true, recurses := true, named := ["math/bits.divideError", "math/bits.overflowError"], apart := false }
def DivisorPostsSaid : Prop := divisorPostsRow.holds Tryz.pinned (OpenSpec.ofChange divisorPostsSpec)

/-- ITS FALSE NEIGHBOUR: 'it returns false'. Refute it at one input. -/
def divisorPostsWrong : ChangeSpec := { name := "divisorPosts", fn := fun _ => fun
  | [d1, d2, d3, d4, d5, d6] => { results := [.lit (.bool false)], args := [d1, d2, d3, d4, d5, d6] }
  | _ => none }
def DivisorPostsWrongFalsely : Prop := divisorPostsRow.holds Tryz.pinned (OpenSpec.ofChange divisorPostsWrong)

/-- 'wardmotelaw07.DivisorGives': WHATEVER THE INPUT: true; the input reads as it did. -/
def divisorGivesSpec : ChangeSpec := { name := "divisorGives", fn := fun _ => fun
  | [d1, d2, d3, d4, d5, d6, d7] => { results := [.lit (.bool true)], args := [d1, d2, d3, d4, d5, d6, d7] }
  | _ => none }
def divisorGivesRow : OpenClaim := { program := "ytebbhhdnjflmcaagreat", sum := "fe1bee257ee6beabb5093c81ba1cc536cd78ee50ee0f24166d22cd49f496b379", func := "wardmote/wardmotelaw07.DivisorGives", spec := "divisorGives", inPlace := ["math/bits.Sub64", "math/bits.Add64"], unfollowed := true, recurses := true, named := ["math/bits.divideError", "math/bits.overflowError"], apart := false }
def DivisorGivesSaid : Prop := divisorGivesRow.holds Tryz.pinned (OpenSpec.ofChange divisorGivesSpec)

/-- ITS FALSE NEIGHBOUR: 'it returns false'. Refute it at one input. -/
def divisorGivesWrong : ChangeSpec := { name := "divisorGives", fn := fun _ => fun
  | [d1, d2, d3, d4, d5, d6, d7] => { results := [.lit (.bool false)], args := [d1, d2, d3, d4, d5, d6, d7] }
  | _ => none }
def DivisorGivesWrongFalsely : Prop := divisorGivesRow.holds Tryz.pinned (OpenSpec.ofChange divisorGivesWrong)

/-- 'wardmotelaw07.DivisorGrows': WHATEVER THE INPUT: true; the input reads as it did. -/
def divisorGrowsSpec : ChangeSpec := { name := "divisorGrows", fn := fun _ => fun
  | [d1, d2] => { results := [.lit (.bool true)], args := [d1, d2] }
  | _ => none }
def divisorGrowsRow : OpenClaim := { program := "ytebbhhdnjflmcaagreat", sum := "fe1bee257ee6beabb5093c81ba1cc536cd78ee50ee0f24166d22cd49f496b379", func := "wardmote/wardmotelaw07.DivisorGrows", spec := "divisorGrows", inPlace := ["math/bits.Sub64", "math/bits.Add64"], unfollowed := true, recurses := true, named := ["math/bits.divideError", "math/bits.overflowError"], apart := false }
def DivisorGrowsSaid : Prop := divisorGrowsRow.holds Tryz.pinned (OpenSpec.ofChange divisorGrowsSpec)

/-- ITS FALSE NEIGHBOUR: 'it returns false'. Refute it at one input. -/
def divisorGrowsWrong : ChangeSpec := { name := "divisorGrows", fn := fun _ => fun
  | [d1, d2] => { results := [.lit (.bool false)], args := [d1, d2] }
  | _ => none }
def DivisorGrowsWrongFalsely : Prop := divisorGrowsRow.holds Tryz.pinned (OpenSpec.ofChange divisorGrowsWrong)

/-- 'wardmotelaw07.DivisorRanks': WHATEVER THE INPUT: true; the input reads as it did. -/
def divisorRanksSpec : ChangeSpec := { name := "divisorRanks", fn := fun _ => fun
  | [d1, d2] => { results := [.lit (.bool true)], args := [d1, d2] }
  | _ => none }
def divisorRanksRow : OpenClaim := { program := "ytebbhhdnjflmcaagreat", sum := "fe1bee257ee6beabb5093c81ba1cc536cd78ee50ee0f24166d22cd49f496b379", func := "wardmote/wardmotelaw07.DivisorRanks", spec := "divisorRanks", inPlace := ["math/bits.Sub64", "math/bits.Add64"], unfollowed := true, recurses := true, named := ["math/bits.divideError", "math/bits.overflowError"], apart := false }
def DivisorRanksSaid : Prop := divisorRanksRow.holds Tryz.pinned (OpenSpec.ofChange divisorRanksSpec)

/-- ITS FALSE NEIGHBOUR: 'it returns false'. Refute it at one input. -/
def divisorRanksWrong : ChangeSpec := { name := "divisorRanks", fn := fun _ => fun
  | [d1, d2] => { results := [.lit (.bool false)], args := [d1, d2] }
  | _ => none }
def DivisorRanksWrongFalsely : Prop := divisorRanksRow.holds Tryz.pinned (OpenSpec.ofChange divisorRanksWrong)

/-- 'wardmotelaw07.DivisorScales': WHATEVER THE INPUT: true; the input reads as it did. -/
def divisorScalesSpec : ChangeSpec := { name := "divisorScales", fn := fun _ => fun
  | [d1, d2, d3, d4] => { results := [.lit (.bool true)], args := [d1, d2, d3, d4] }
  | _ => none }
def divisorScalesRow : OpenClaim := { program := "ytebbhhdnjflmcaagreat", sum := "fe1bee257ee6beabb5093c81ba1cc536cd78ee50ee0f24166d22cd49f496b379", func := "wardmote/wardmotelaw07.DivisorScales", spec := "divisorScales", inPlace := ["math/bits.Sub64", "math/bits.Add64"], unfollowed := true, recurses := true, named := ["math/bits.divideError", "math/bits.overflowError"], apart := false }
def DivisorScalesSaid : Prop := divisorScalesRow.holds Tryz.pinned (OpenSpec.ofChange divisorScalesSpec)

/-- ITS FALSE NEIGHBOUR: 'it returns false'. Refute it at one input. -/
def divisorScalesWrong : ChangeSpec := { name := "divisorScales", fn := fun _ => fun
  | [d1, d2, d3, d4] => { results := [.lit (.bool false)], args := [d1, d2, d3, d4] }
  | _ => none }
def DivisorScalesWrongFalsely : Prop := divisorScalesRow.holds Tryz.pinned (OpenSpec.ofChange divisorScalesWrong)

/-- 'wardmotelaw07.DivisorFavours': WHATEVER THE INPUT: true; the input reads as it did. -/
def divisorFavoursSpec : ChangeSpec := { name := "divisorFavours", fn := fun _ => fun
  | [d] => { results := [.lit (.bool true)], args := [d] }
  | _ => none }
def divisorFavoursRow : OpenClaim := { program := "ytebbhhdnjflmcaagreat", sum := "fe1bee257ee6beabb5093c81ba1cc536cd78ee50ee0f24166d22cd49f496b379", func := "wardmote/wardmotelaw07.DivisorFavours", spec := "divisorFavours", inPlace := ["math/bits.Sub64", "math/bits.Add64"], unfollowed := true, recurses := true, named := ["math/bits.divideError", "math/bits.overflowError"], apart := false }
def DivisorFavoursSaid : Prop := divisorFavoursRow.holds Tryz.pinned (OpenSpec.ofChange divisorFavoursSpec)

/-- ITS FALSE NEIGHBOUR: 'it returns false'. Refute it at one input. -/
def divisorFavoursWrong : ChangeSpec := { name := "divisorFavours", fn := fun _ => fun
  | [d] => { results := [.lit (.bool false)], args := [d] }
  | _ => none }
def DivisorFavoursWrongFalsely : Prop := divisorFavoursRow.holds Tryz.pinned (OpenSpec.ofChange divisorFavoursWrong)

/- THE SECOND FORM. 'bulk': how many values and letters a reading holds, each counted each time it is reached (what is shared counts as often as it is met; a slice's spare places count too). A statement '..UptoSaid' is the law's where the arguments, and the package variables that the reading takes, are together of bulk at most 1048576: NARROWER than '..Said'. Prove '..Said' where nothing that the law and all that it calls make is longer than what came in: it says more and counts as full. Else prove '..UptoSaid'. A law counts once. -/
mutual
def uptoBulk {H : Type} : DataW H → Nat
  | .lit (.string bytes) => bytes.length + 1
  | .lit _ => 1
  | .nil => 1
  | .ptr d => uptoBulk d + 1
  | .slice elems spare => uptoBulkAll elems + uptoBulkAll spare + 1
  | .agg parts => uptoBulkAll parts + 1
  | .iface _ d => uptoBulk d + 1
  | .map entries => uptoBulkEntries entries + 1
  | .held _ => 1
def uptoBulkAll {H : Type} : List (DataW H) → Nat
  | [] => 0
  | d :: r => uptoBulk d + uptoBulkAll r
def uptoBulkEntries {H : Type} : List (Lit × DataW H) → Nat
  | [] => 0
  | x :: r => uptoBulkEntry x + uptoBulkEntries r
def uptoBulkEntry {H : Type} : Lit × DataW H → Nat
  | (.string bytes, d) => bytes.length + uptoBulk d + 1
  | (_, d) => uptoBulk d + 1
 end
def uptoSmall : (H : Type) → List (DataW H) → Bool := fun _ ds => decide (uptoBulkAll ds ≤ 1048576)
def OpenSpec.upto (s : _root_.Go.ChangeSpec) : _root_.Go.OpenSpec := { _root_.Go.OpenSpec.ofChange s with cond := some uptoSmall }

/-- 'wardmotelaw07.DivisorPosts', WHERE WHAT IT READS IS OF BULK AT MOST 1048576: true; the input reads as it did. -/
def divisorPostsUptoRow : OpenClaim := { program := "ytebbhhdnjflmcaagreat", sum := "fe1bee257ee6beabb5093c81ba1cc536cd78ee50ee0f24166d22cd49f496b379", func := "wardmote/wardmotelaw07.DivisorPosts", spec := "divisorPosts", inPlace := ["math/bits.Sub64", "math/bits.Add64"], unfollowed := true, recurses := true, named := ["math/bits.divideError", "math/bits.overflowError"], apart := false, narrowed := true }
def DivisorPostsUptoSaid : Prop := divisorPostsUptoRow.holds Tryz.pinned (OpenSpec.upto divisorPostsSpec)

/-- 'wardmotelaw07.DivisorGives', WHERE WHAT IT READS IS OF BULK AT MOST 1048576: true; the input reads as it did. -/
def divisorGivesUptoRow : OpenClaim := { program := "ytebbhhdnjflmcaagreat", sum := "fe1bee257ee6beabb5093c81ba1cc536cd78ee50ee0f24166d22cd49f496b379", func := "wardmote/wardmotelaw07.DivisorGives", spec := "divisorGives", inPlace := ["math/bits.Sub64", "math/bits.Add64"], unfollowed := true, recurses := true, named := ["math/bits.divideError", "math/bits.overflowError"], apart := false, narrowed := true }
def DivisorGivesUptoSaid : Prop := divisorGivesUptoRow.holds Tryz.pinned (OpenSpec.upto divisorGivesSpec)

/-- 'wardmotelaw07.DivisorGrows', WHERE WHAT IT READS IS OF BULK AT MOST 1048576: true; the input reads as it did. -/
def divisorGrowsUptoRow : OpenClaim := { program := "ytebbhhdnjflmcaagreat", sum := "fe1bee257ee6beabb5093c81ba1cc536cd78ee50ee0f24166d22cd49f496b379", func := "wardmote/wardmotelaw07.DivisorGrows", spec := "divisorGrows", inPlace := ["math/bits.Sub64", "math/bits.Add64"], unfollowed := true, recurses := true, named := ["math/bits.divideError", "math/bits.overflowError"], apart := false, narrowed := true }
def DivisorGrowsUptoSaid : Prop := divisorGrowsUptoRow.holds Tryz.pinned (OpenSpec.upto divisorGrowsSpec)

/-- 'wardmotelaw07.DivisorRanks', WHERE WHAT IT READS IS OF BULK AT MOST 1048576: true; the input reads as it did. -/
def divisorRanksUptoRow : OpenClaim := { program := "ytebbhhdnjflmcaagreat", sum := "fe1bee257ee6beabb5093c81ba1cc536cd78ee50ee0f24166d22cd49f496b379", func := "wardmote/wardmotelaw07.DivisorRanks", spec := "divisorRanks", inPlace := ["math/bits.Sub64", "math/bits.Add64"], unfollowed := true, recurses := true, named := ["math/bits.divideError", "math/bits.overflowError"], apart := false, narrowed := true }
def DivisorRanksUptoSaid : Prop := divisorRanksUptoRow.holds Tryz.pinned (OpenSpec.upto divisorRanksSpec)

/-- 'wardmotelaw07.DivisorScales', WHERE WHAT IT READS IS OF BULK AT MOST 1048576: true; the input reads as it did. -/
def divisorScalesUptoRow : OpenClaim := { program := "ytebbhhdnjflmcaagreat", sum := "fe1bee257ee6beabb5093c81ba1cc536cd78ee50ee0f24166d22cd49f496b379", func := "wardmote/wardmotelaw07.DivisorScales", spec := "divisorScales", inPlace := ["math/bits.Sub64", "math/bits.Add64"], unfollowed := true, recurses := true, named := ["math/bits.divideError", "math/bits.overflowError"], apart := false, narrowed := true }
def DivisorScalesUptoSaid : Prop := divisorScalesUptoRow.holds Tryz.pinned (OpenSpec.upto divisorScalesSpec)

/-- 'wardmotelaw07.DivisorFavours', WHERE WHAT IT READS IS OF BULK AT MOST 1048576: true; the input reads as it did. -/
def divisorFavoursUptoRow : OpenClaim := { program := "ytebbhhdnjflmcaagreat", sum := "fe1bee257ee6beabb5093c81ba1cc536cd78ee50ee0f24166d22cd49f496b379", func := "wardmote/wardmotelaw07.DivisorFavours", spec := "divisorFavours", inPlace := ["math/bits.Sub64", "math/bits.Add64"], unfollowed := true, recurses := true, named := ["math/bits.divideError", "math/bits.overflowError"], apart := false, narrowed := true }
def DivisorFavoursUptoSaid : Prop := divisorFavoursUptoRow.holds Tryz.pinned (OpenSpec.upto divisorFavoursSpec)

end Rows
end Go.Proofs.YtebbhhdnjflmcaaGreat
