/-
  No cell of these rows narrows 'for every input' (looked for: loops, veiled, ifaces, maps, wideKeys, modest, calm, conditions, laid).
  DERIVED. THE GIVEN ROWS OF THIS SEAT. 2 by the template 'for every input the law returns true; each argument reads behind the call as it read before'; 0 by the template 'total and deterministic' (their statements: YtpmbglhbcjbkcaaGreatTotals.lean).
  GIVEN WITH THE SEED: the statements are not yours to turn. If you find one false, say at which input.
  Laid BY PROGRAM, IN A SANDBOX (cutbox-rows.mjs): the forced cells as the released guide's own fill.sh prints them over the translation 9e5bb592da7dfd03… (all of the seat's roots in one cut). By AI agents, Wed Nov 11 2026. No macro, syntax, notation, axiom, sorry.
-/
import Derived.Test.YtpmbglhbcjbkcaaGreatChecked
import GoSem.Claim
import GoSem.ClaimJoined
import GoSem.ClaimMapViews
import Derived.JoinedTies
import Derived.KernelRfl
namespace Go.Proofs.YtpmbglhbcjbkcaaGreat
/- THE CELL 'sum', in the pinned program and in every row, IS THE sha256 OF THE DUMP (.gsa) THAT YtpmbglhbcjbkcaaGreatProg.lean LOADS. Nothing in Lean hashes anything: it is a label: what it is worth is what the hold of that sum in a sandbox is worth. -/
noncomputable def Tryz.pinned : Pinned := { name := "ytpmbglhbcjbkcaagreat", sum := "9e5bb592da7dfd03e8616511916042ecfc3a4b9afb0a1bd81cf9ff23fa5b1f85", checked := Tryz.checked }
namespace Rows
def none {H : Type} : Left H := { results := [], args := [] }

/-- 'wardmotelaw03.RadicalEncloses': WHATEVER THE INPUT: true; the input reads as it did. -/
def radicalEnclosesSpec : ChangeSpec := { name := "radicalEncloses", fn := fun _ => fun
  | [d1, d2, d3] => { results := [.lit (.bool true)], args := [d1, d2, d3] }
  | _ => none }
def radicalEnclosesRow : OpenClaim := { program := "ytpmbglhbcjbkcaagreat", sum := "9e5bb592da7dfd03e8616511916042ecfc3a4b9afb0a1bd81cf9ff23fa5b1f85", func := "wardmote/wardmotelaw03.RadicalEncloses", spec := "radicalEncloses", inPlace := ["math/bits.Sub64", "math/bits.Add64"], unfollowed := true, recurses := true, named := ["math/bits.divideError", "math/bits.overflowError"], apart := false }
def RadicalEnclosesSaid : Prop := radicalEnclosesRow.holds Tryz.pinned (OpenSpec.ofChange radicalEnclosesSpec)

/-- ITS FALSE NEIGHBOUR: 'it returns false'. Refute it at one input. -/
def radicalEnclosesWrong : ChangeSpec := { name := "radicalEncloses", fn := fun _ => fun
  | [d1, d2, d3] => { results := [.lit (.bool false)], args := [d1, d2, d3] }
  | _ => none }
def RadicalEnclosesWrongFalsely : Prop := radicalEnclosesRow.holds Tryz.pinned (OpenSpec.ofChange radicalEnclosesWrong)

/-- 'wardmotelaw03.RadicalSigns': WHATEVER THE INPUT: true; the input reads as it did. -/
def radicalSignsSpec : ChangeSpec := { name := "radicalSigns", fn := fun _ => fun
  | [d1, d2, d3, d4, d5] => { results := [.lit (.bool true)], args := [d1, d2, d3, d4, d5] }
  | _ => none }
def radicalSignsRow : OpenClaim := { program := "ytpmbglhbcjbkcaagreat", sum := "9e5bb592da7dfd03e8616511916042ecfc3a4b9afb0a1bd81cf9ff23fa5b1f85", func := "wardmote/wardmotelaw03.RadicalSigns", spec := "radicalSigns", inPlace := ["math/bits.Sub64", "math/bits.Add64"], unfollowed := true, recurses := true, named := ["math/bits.divideError", "math/bits.overflowError"], apart := false }
def RadicalSignsSaid : Prop := radicalSignsRow.holds Tryz.pinned (OpenSpec.ofChange radicalSignsSpec)

/-- ITS FALSE NEIGHBOUR: 'it returns false'. Refute it at one input. -/
def radicalSignsWrong : ChangeSpec := { name := "radicalSigns", fn := fun _ => fun
  | [d1, d2, d3, d4, d5] => { results := [.lit (.bool false)], args := [d1, d2, d3, d4, d5] }
  | _ => none }
def RadicalSignsWrongFalsely : Prop := radicalSignsRow.holds Tryz.pinned (OpenSpec.ofChange radicalSignsWrong)

/- THE SECOND FORM. 'bulk': how many values and letters a reading holds, each counted each time it is reached (what is shared counts as often as it is met; a slice's spare places count too). A statement '..UptoSaid' is the law's where the arguments, and the package variables that the reading takes, are together of bulk at most 1048576: NARROWER than '..Said'. Prove '..Said' where nothing that the law and all that it calls make is longer than what came in: it says more and counts as full. Else prove '..UptoSaid'. A law counts once. -/
mutual
def uptoBulk {H : Type} : DataW H → Nat
  | .lit (.string bytes) => bytes.length + 1
  | .lit _ => 1
  | .nil => 1
  | .ptr d => uptoBulk d + 1
  | .slice elems spare => uptoBulkAll elems + uptoBulkAll spare + 1
  | .agg parts => uptoBulkAll parts + 1
  | .iface _ d => uptoBulk d + 1
  | .map entries => uptoBulkEntries entries + 1
  | .held _ => 1
def uptoBulkAll {H : Type} : List (DataW H) → Nat
  | [] => 0
  | d :: r => uptoBulk d + uptoBulkAll r
def uptoBulkEntries {H : Type} : List (Lit × DataW H) → Nat
  | [] => 0
  | x :: r => uptoBulkEntry x + uptoBulkEntries r
def uptoBulkEntry {H : Type} : Lit × DataW H → Nat
  | (.string bytes, d) => bytes.length + uptoBulk d + 1
  | (_, d) => uptoBulk d + 1
 end
def uptoSmall : (H : Type) → List (DataW H) → Bool := fun _ ds => decide (uptoBulkAll ds ≤ 1048576)
def OpenSpec.upto (s : _root_.Go.ChangeSpec) : _root_.Go.OpenSpec := { _root_.Go.OpenSpec.ofChange s with cond := some uptoSmall }

/-- 'wardmotelaw03.RadicalEncloses', WHERE WHAT IT READS IS OF BULK AT MOST 1048576: true; the input reads as it did. -/
def radicalEnclosesUptoRow : OpenClaim := { program := "ytpmbglhbcjbkcaagreat", sum := "9e5bb592da7dfd03e8616511916042ecfc3a4b9afb0a1bd81cf9ff23fa5b1f85", func := "wardmote/wardmotelaw03.RadicalEncloses", spec := "radicalEncloses", inPlace := ["math/bits.Sub64", "math/bits.Add64"], unfollowed := true, recurses := true, named := ["math/bits.divideError", "math/bits.overflowError"], apart := false, narrowed := true }
def RadicalEnclosesUptoSaid : Prop := radicalEnclosesUptoRow.holds Tryz.pinned (OpenSpec.upto radicalEnclosesSpec)

/-- 'wardmotelaw03.RadicalSigns', WHERE WHAT IT READS IS OF BULK AT MOST 1048576: true; the input reads as it did. -/
def radicalSignsUptoRow : OpenClaim := { program := "ytpmbglhbcjbkcaagreat", sum := "9e5bb592da7dfd03e8616511916042ecfc3a4b9afb0a1bd81cf9ff23fa5b1f85", func := "wardmote/wardmotelaw03.RadicalSigns", spec := "radicalSigns", inPlace := ["math/bits.Sub64", "math/bits.Add64"], unfollowed := true, recurses := true, named := ["math/bits.divideError", "math/bits.overflowError"], apart := false, narrowed := true }
def RadicalSignsUptoSaid : Prop := radicalSignsUptoRow.holds Tryz.pinned (OpenSpec.upto radicalSignsSpec)

end Rows
end Go.Proofs.YtpmbglhbcjbkcaaGreat
