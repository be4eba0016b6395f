/-
  No cell of these rows narrows 'for every input' (looked for: loops, veiled, ifaces, maps, wideKeys, modest, calm, conditions, laid).
  DERIVED. THE GIVEN ROWS OF THIS SEAT. 5 by the template 'for every input the law returns true; each argument reads behind the call as it read before'; 0 by the template 'total and deterministic' (their statements: YteocdndanehpnaaGreatTotals.lean).
  GIVEN WITH THE SEED: the statements are not yours to turn. If you find one false, say at which input.
  Laid BY PROGRAM, IN A SANDBOX (cutbox-rows.mjs): the forced cells as the released guide's own fill.sh prints them over the translation 8d7af35fd3a3e462… (all of the seat's roots in one cut). By AI agents, Wed Nov 11 2026. No macro, syntax, notation, axiom, sorry.
-/
import Derived.Test.YteocdndanehpnaaGreatChecked
import GoSem.Claim
import GoSem.ClaimJoined
import GoSem.ClaimMapViews
import Derived.JoinedTies
import Derived.KernelRfl
namespace Go.Proofs.YteocdndanehpnaaGreat
/- THE CELL 'sum', in the pinned program and in every row, IS THE sha256 OF THE DUMP (.gsa) THAT YteocdndanehpnaaGreatProg.lean LOADS. Nothing in Lean hashes anything: it is a label: what it is worth is what the hold of that sum in a sandbox is worth. -/
noncomputable def Tryz.pinned : Pinned := { name := "yteocdndanehpnaagreat", sum := "8d7af35fd3a3e46268a7d6ea5807d5f9318105727bd48f107d24697c71748e5e", checked := Tryz.checked }
namespace Rows
def none {H : Type} : Left H := { results := [], args := [] }

/-- 'wardmotelaw10.ParadoxNone': WHATEVER THE INPUT: true; the input reads as it did. -/
def paradoxNoneSpec : ChangeSpec := { name := "paradoxNone", fn := fun _ => fun
  | [d1, d2, d3, d4, d5] => { results := [.lit (.bool true)], args := [d1, d2, d3, d4, d5] }
  | _ => none }
def paradoxNoneRow : OpenClaim := { program := "yteocdndanehpnaagreat", sum := "8d7af35fd3a3e46268a7d6ea5807d5f9318105727bd48f107d24697c71748e5e", func := "wardmote/wardmotelaw10.ParadoxNone", spec := "paradoxNone", inPlace := ["math/bits.Sub64", "math/bits.Add64"], unfollowed := true, recurses := true, named := ["math/bits.divideError", "math/bits.overflowError"], apart := false }
def ParadoxNoneSaid : Prop := paradoxNoneRow.holds Tryz.pinned (OpenSpec.ofChange paradoxNoneSpec)

/-- ITS FALSE NEIGHBOUR: 'it returns false'. Refute it at one input. -/
def paradoxNoneWrong : ChangeSpec := { name := "paradoxNone", fn := fun _ => fun
  | [d1, d2, d3, d4, d5] => { results := [.lit (.bool false)], args := [d1, d2, d3, d4, d5] }
  | _ => none }
def ParadoxNoneWrongFalsely : Prop := paradoxNoneRow.holds Tryz.pinned (OpenSpec.ofChange paradoxNoneWrong)

/-- 'wardmotelaw10.ParadoxDecided': WHATEVER THE INPUT: true; the input reads as it did. -/
def paradoxDecidedSpec : ChangeSpec := { name := "paradoxDecided", fn := fun _ => fun
  | [d1, d2] => { results := [.lit (.bool true)], args := [d1, d2] }
  | _ => none }
def paradoxDecidedRow : OpenClaim := { program := "yteocdndanehpnaagreat", sum := "8d7af35fd3a3e46268a7d6ea5807d5f9318105727bd48f107d24697c71748e5e", func := "wardmote/wardmotelaw10.ParadoxDecided", spec := "paradoxDecided", inPlace := ["math/bits.Sub64", "math/bits.Add64"], unfollowed := true, recurses := true, named := ["math/bits.divideError", "math/bits.overflowError"], apart := false }
def ParadoxDecidedSaid : Prop := paradoxDecidedRow.holds Tryz.pinned (OpenSpec.ofChange paradoxDecidedSpec)

/-- ITS FALSE NEIGHBOUR: 'it returns false'. Refute it at one input. -/
def paradoxDecidedWrong : ChangeSpec := { name := "paradoxDecided", fn := fun _ => fun
  | [d1, d2] => { results := [.lit (.bool false)], args := [d1, d2] }
  | _ => none }
def ParadoxDecidedWrongFalsely : Prop := paradoxDecidedRow.holds Tryz.pinned (OpenSpec.ofChange paradoxDecidedWrong)

/-- 'wardmotelaw10.ParadoxSame': WHATEVER THE INPUT: true; the input reads as it did. -/
def paradoxSameSpec : ChangeSpec := { name := "paradoxSame", fn := fun _ => fun
  | [d1, d2, d3] => { results := [.lit (.bool true)], args := [d1, d2, d3] }
  | _ => none }
def paradoxSameRow : OpenClaim := { program := "yteocdndanehpnaagreat", sum := "8d7af35fd3a3e46268a7d6ea5807d5f9318105727bd48f107d24697c71748e5e", func := "wardmote/wardmotelaw10.ParadoxSame", spec := "paradoxSame", inPlace := ["math/bits.Sub64", "math/bits.Add64"], unfollowed := true, recurses := true, named := ["math/bits.divideError", "math/bits.overflowError"], apart := false }
def ParadoxSameSaid : Prop := paradoxSameRow.holds Tryz.pinned (OpenSpec.ofChange paradoxSameSpec)

/-- ITS FALSE NEIGHBOUR: 'it returns false'. Refute it at one input. -/
def paradoxSameWrong : ChangeSpec := { name := "paradoxSame", fn := fun _ => fun
  | [d1, d2, d3] => { results := [.lit (.bool false)], args := [d1, d2, d3] }
  | _ => none }
def ParadoxSameWrongFalsely : Prop := paradoxSameRow.holds Tryz.pinned (OpenSpec.ofChange paradoxSameWrong)

/-- 'wardmotelaw10.ParadoxWitness': WHATEVER THE INPUT: true; the input reads as it did. -/
def paradoxWitnessSpec : ChangeSpec := { name := "paradoxWitness", fn := fun _ => fun
  | [d1, d2] => { results := [.lit (.bool true)], args := [d1, d2] }
  | _ => none }
def paradoxWitnessRow : OpenClaim := { program := "yteocdndanehpnaagreat", sum := "8d7af35fd3a3e46268a7d6ea5807d5f9318105727bd48f107d24697c71748e5e", func := "wardmote/wardmotelaw10.ParadoxWitness", spec := "paradoxWitness", inPlace := ["math/bits.Sub64", "math/bits.Add64"], unfollowed := true, recurses := true, named := ["math/bits.divideError", "math/bits.overflowError"], apart := false }
def ParadoxWitnessSaid : Prop := paradoxWitnessRow.holds Tryz.pinned (OpenSpec.ofChange paradoxWitnessSpec)

/-- ITS FALSE NEIGHBOUR: 'it returns false'. Refute it at one input. -/
def paradoxWitnessWrong : ChangeSpec := { name := "paradoxWitness", fn := fun _ => fun
  | [d1, d2] => { results := [.lit (.bool false)], args := [d1, d2] }
  | _ => none }
def ParadoxWitnessWrongFalsely : Prop := paradoxWitnessRow.holds Tryz.pinned (OpenSpec.ofChange paradoxWitnessWrong)

/-- 'wardmotelaw10.ParadoxKnown': WHATEVER THE INPUT: true; the input reads as it did. -/
def paradoxKnownSpec : ChangeSpec := { name := "paradoxKnown", fn := fun _ => fun
  | [] => { results := [.lit (.bool true)], args := [] }
  | _ => none }
def paradoxKnownRow : OpenClaim := { program := "yteocdndanehpnaagreat", sum := "8d7af35fd3a3e46268a7d6ea5807d5f9318105727bd48f107d24697c71748e5e", func := "wardmote/wardmotelaw10.ParadoxKnown", spec := "paradoxKnown", inPlace := ["math/bits.Sub64", "math/bits.Add64"], unfollowed := true, recurses := true, named := ["math/bits.divideError", "math/bits.overflowError"], apart := false }
def ParadoxKnownSaid : Prop := paradoxKnownRow.holds Tryz.pinned (OpenSpec.ofChange paradoxKnownSpec)

/-- ITS FALSE NEIGHBOUR: 'it returns false'. Refute it at one input. -/
def paradoxKnownWrong : ChangeSpec := { name := "paradoxKnown", fn := fun _ => fun
  | [] => { results := [.lit (.bool false)], args := [] }
  | _ => none }
def ParadoxKnownWrongFalsely : Prop := paradoxKnownRow.holds Tryz.pinned (OpenSpec.ofChange paradoxKnownWrong)

/- THE SECOND FORM. 'bulk': how many values and letters a reading holds, each counted each time it is reached (what is shared counts as often as it is met; a slice's spare places count too). A statement '..UptoSaid' is the law's where the arguments, and the package variables that the reading takes, are together of bulk at most 1048576: NARROWER than '..Said'. Prove '..Said' where nothing that the law and all that it calls make is longer than what came in: it says more and counts as full. Else prove '..UptoSaid'. A law counts once. -/
mutual
def uptoBulk {H : Type} : DataW H → Nat
  | .lit (.string bytes) => bytes.length + 1
  | .lit _ => 1
  | .nil => 1
  | .ptr d => uptoBulk d + 1
  | .slice elems spare => uptoBulkAll elems + uptoBulkAll spare + 1
  | .agg parts => uptoBulkAll parts + 1
  | .iface _ d => uptoBulk d + 1
  | .map entries => uptoBulkEntries entries + 1
  | .held _ => 1
def uptoBulkAll {H : Type} : List (DataW H) → Nat
  | [] => 0
  | d :: r => uptoBulk d + uptoBulkAll r
def uptoBulkEntries {H : Type} : List (Lit × DataW H) → Nat
  | [] => 0
  | x :: r => uptoBulkEntry x + uptoBulkEntries r
def uptoBulkEntry {H : Type} : Lit × DataW H → Nat
  | (.string bytes, d) => bytes.length + uptoBulk d + 1
  | (_, d) => uptoBulk d + 1
 end
def uptoSmall : (H : Type) → List (DataW H) → Bool := fun _ ds => decide (uptoBulkAll ds ≤ 1048576)
def OpenSpec.upto (s : _root_.Go.ChangeSpec) : _root_.Go.OpenSpec := { _root_.Go.OpenSpec.ofChange s with cond := some uptoSmall }

/-- 'wardmotelaw10.ParadoxNone', WHERE WHAT IT READS IS OF BULK AT MOST 1048576: true; the input reads as it did. -/
def paradoxNoneUptoRow : OpenClaim := { program := "yteocdndanehpnaagreat", sum := "8d7af35fd3a3e46268a7d6ea5807d5f9318105727bd48f107d24697c71748e5e", func := "wardmote/wardmotelaw10.ParadoxNone", spec := "paradoxNone", inPlace := ["math/bits.Sub64", "math/bits.Add64"], unfollowed := true, recurses := true, named := ["math/bits.divideError", "math/bits.overflowError"], apart := false, narrowed := true }
def ParadoxNoneUptoSaid : Prop := paradoxNoneUptoRow.holds Tryz.pinned (OpenSpec.upto paradoxNoneSpec)

/-- 'wardmotelaw10.ParadoxDecided', WHERE WHAT IT READS IS OF BULK AT MOST 1048576: true; the input reads as it did. -/
def paradoxDecidedUptoRow : OpenClaim := { program := "yteocdndanehpnaagreat", sum := "8d7af35fd3a3e46268a7d6ea5807d5f9318105727bd48f107d24697c71748e5e", func := "wardmote/wardmotelaw10.ParadoxDecided", spec := "paradoxDecided", inPlace := ["math/bits.Sub64", "math/bits.Add64"], unfollowed := true, recurses := true, named := ["math/bits.divideError", "math/bits.overflowError"], apart := false, narrowed := true }
def ParadoxDecidedUptoSaid : Prop := paradoxDecidedUptoRow.holds Tryz.pinned (OpenSpec.upto paradoxDecidedSpec)

/-- 'wardmotelaw10.ParadoxSame', WHERE WHAT IT READS IS OF BULK AT MOST 1048576: true; the input reads as it did. -/
def paradoxSameUptoRow : OpenClaim := { program := "yteocdndanehpnaagreat", sum := "8d7af35fd3a3e46268a7d6ea5807d5f9318105727bd48f107d24697c71748e5e", func := "wardmote/wardmotelaw10.ParadoxSame", spec := "paradoxSame", inPlace := ["math/bits.Sub64", "math/bits.Add64"], unfollowed := true, recurses := true, named := ["math/bits.divideError", "math/bits.overflowError"], apart := false, narrowed := true }
def ParadoxSameUptoSaid : Prop := paradoxSameUptoRow.holds Tryz.pinned (OpenSpec.upto paradoxSameSpec)

/-- 'wardmotelaw10.ParadoxWitness', WHERE WHAT IT READS IS OF BULK AT MOST 1048576: true; the input reads as it did. -/
def paradoxWitnessUptoRow : OpenClaim := { program := "yteocdndanehpnaagreat", sum := "8d7af35fd3a3e46268a7d6ea5807d5f9318105727bd48f107d24697c71748e5e", func := "wardmote/wardmotelaw10.ParadoxWitness", spec := "paradoxWitness", inPlace := ["math/bits.Sub64", "math/bits.Add64"], unfollowed := true, recurses := true, named := ["math/bits.divideError", "math/bits.overflowError"], apart := false, narrowed := true }
def ParadoxWitnessUptoSaid : Prop := paradoxWitnessUptoRow.holds Tryz.pinned (OpenSpec.upto paradoxWitnessSpec)

/-- 'wardmotelaw10.ParadoxKnown', WHERE WHAT IT READS IS OF BULK AT MOST 1048576: true; the input reads as it did. -/
def paradoxKnownUptoRow : OpenClaim := { program := "yteocdndanehpnaagreat", sum := "8d7af35fd3a3e46268a7d6ea5807d5f9318105727bd48f107d24697c71748e5e", func := "wardmote/wardmotelaw10.ParadoxKnown", spec := "paradoxKnown", inPlace := ["math/bits.Sub64", "math/bits.Add64"], unfollowed := true, recurses := true, named := ["math/bits.divideError", "math/bits.overflowError"], apart := false, narrowed := true }
def ParadoxKnownUptoSaid : Prop := paradoxKnownUptoRow.holds Tryz.pinned (OpenSpec.upto paradoxKnownSpec)

end Rows
end Go.Proofs.YteocdndanehpnaaGreat
