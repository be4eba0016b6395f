/-
  No cell of these rows narrows 'for every input' (looked for: loops, veiled, ifaces, maps, wideKeys, modest, calm, conditions, laid).
  DERIVED. THE GIVEN ROWS OF THIS SEAT. 8 by the template 'for every input the law returns true; each argument reads behind the call as it read before'; 0 by the template 'total and deterministic' (their statements: YtbgngmamnonlbaaGreatTotals.lean).
  GIVEN WITH THE SEED: the statements are not yours to turn. If you find one false, say at which input.
  Laid BY PROGRAM, IN A SANDBOX (cutbox-rows.mjs): the forced cells as the released guide's own fill.sh prints them over the translation b1e7110110653a47… (all of the seat's roots in one cut). By AI agents, Wed Nov 11 2026. No macro, syntax, notation, axiom, sorry.
-/
import Derived.Test.YtbgngmamnonlbaaGreatChecked
import GoSem.Claim
import GoSem.ClaimJoined
import GoSem.ClaimMapViews
import Derived.JoinedTies
import Derived.KernelRfl
namespace Go.Proofs.YtbgngmamnonlbaaGreat
/- THE CELL 'sum', in the pinned program and in every row, IS THE sha256 OF THE DUMP (.gsa) THAT YtbgngmamnonlbaaGreatProg.lean LOADS. Nothing in Lean hashes anything: it is a label: what it is worth is what the hold of that sum in a sandbox is worth. -/
noncomputable def Tryz.pinned : Pinned := { name := "ytbgngmamnonlbaagreat", sum := "b1e7110110653a47cd9795de764458df1022153dafe98dd8c5b03f5ab298be6e", checked := Tryz.checked }
namespace Rows
def none {H : Type} : Left H := { results := [], args := [] }

/-- 'wardmotelaw06.QuotaChecks': WHATEVER THE INPUT: true; the input reads as it did. -/
def quotaChecksSpec : ChangeSpec := { name := "quotaChecks", fn := fun _ => fun
  | [d1, d2, d3, d4, d5, d6] => { results := [.lit (.bool true)], args := [d1, d2, d3, d4, d5, d6] }
  | _ => none }
def quotaChecksRow : OpenClaim := { program := "ytbgngmamnonlbaagreat", sum := "b1e7110110653a47cd9795de764458df1022153dafe98dd8c5b03f5ab298be6e", func := "wardmote/wardmotelaw06.QuotaChecks", spec := "quotaChecks", inPlace := ["math/bits.Sub64", "math/bits.Add64"], unfollowed := true, recurses := true, named := ["math/bits.divideError", "math/bits.overflowError"], apart := false }
def QuotaChecksSaid : Prop := quotaChecksRow.holds Tryz.pinned (OpenSpec.ofChange quotaChecksSpec)

/-- ITS FALSE NEIGHBOUR: 'it returns false'. Refute it at one input. -/
def quotaChecksWrong : ChangeSpec := { name := "quotaChecks", fn := fun _ => fun
  | [d1, d2, d3, d4, d5, d6] => { results := [.lit (.bool false)], args := [d1, d2, d3, d4, d5, d6] }
  | _ => none }
def QuotaChecksWrongFalsely : Prop := quotaChecksRow.holds Tryz.pinned (OpenSpec.ofChange quotaChecksWrong)

/-- 'wardmotelaw06.QuotaGives': WHATEVER THE INPUT: true; the input reads as it did. -/
def quotaGivesSpec : ChangeSpec := { name := "quotaGives", fn := fun _ => fun
  | [d1, d2, d3, d4, d5, d6, d7] => { results := [.lit (.bool true)], args := [d1, d2, d3, d4, d5, d6, d7] }
  | _ => none }
def quotaGivesRow : OpenClaim := { program := "ytbgngmamnonlbaagreat", sum := "b1e7110110653a47cd9795de764458df1022153dafe98dd8c5b03f5ab298be6e", func := "wardmote/wardmotelaw06.QuotaGives", spec := "quotaGives", inPlace := ["math/bits.Sub64", "math/bits.Add64"], unfollowed := true, recurses := true, named := ["math/bits.divideError", "math/bits.overflowError"], apart := false }
def QuotaGivesSaid : Prop := quotaGivesRow.holds Tryz.pinned (OpenSpec.ofChange quotaGivesSpec)

/-- ITS FALSE NEIGHBOUR: 'it returns false'. Refute it at one input. -/
def quotaGivesWrong : ChangeSpec := { name := "quotaGives", fn := fun _ => fun
  | [d1, d2, d3, d4, d5, d6, d7] => { results := [.lit (.bool false)], args := [d1, d2, d3, d4, d5, d6, d7] }
  | _ => none }
def QuotaGivesWrongFalsely : Prop := quotaGivesRow.holds Tryz.pinned (OpenSpec.ofChange quotaGivesWrong)

/-- 'wardmotelaw06.QuotaSettles': WHATEVER THE INPUT: true; the input reads as it did. -/
def quotaSettlesSpec : ChangeSpec := { name := "quotaSettles", fn := fun _ => fun
  | [d1, d2, d3, d4, d5, d6, d7] => { results := [.lit (.bool true)], args := [d1, d2, d3, d4, d5, d6, d7] }
  | _ => none }
def quotaSettlesRow : OpenClaim := { program := "ytbgngmamnonlbaagreat", sum := "b1e7110110653a47cd9795de764458df1022153dafe98dd8c5b03f5ab298be6e", func := "wardmote/wardmotelaw06.QuotaSettles", spec := "quotaSettles", inPlace := ["math/bits.Sub64", "math/bits.Add64"], unfollowed := true, recurses := true, named := ["math/bits.divideError", "math/bits.overflowError"], apart := false }
def QuotaSettlesSaid : Prop := quotaSettlesRow.holds Tryz.pinned (OpenSpec.ofChange quotaSettlesSpec)

/-- ITS FALSE NEIGHBOUR: 'it returns false'. Refute it at one input. -/
def quotaSettlesWrong : ChangeSpec := { name := "quotaSettles", fn := fun _ => fun
  | [d1, d2, d3, d4, d5, d6, d7] => { results := [.lit (.bool false)], args := [d1, d2, d3, d4, d5, d6, d7] }
  | _ => none }
def QuotaSettlesWrongFalsely : Prop := quotaSettlesRow.holds Tryz.pinned (OpenSpec.ofChange quotaSettlesWrong)

/-- 'wardmotelaw06.QuotaScales': WHATEVER THE INPUT: true; the input reads as it did. -/
def quotaScalesSpec : ChangeSpec := { name := "quotaScales", fn := fun _ => fun
  | [d1, d2, d3] => { results := [.lit (.bool true)], args := [d1, d2, d3] }
  | _ => none }
def quotaScalesRow : OpenClaim := { program := "ytbgngmamnonlbaagreat", sum := "b1e7110110653a47cd9795de764458df1022153dafe98dd8c5b03f5ab298be6e", func := "wardmote/wardmotelaw06.QuotaScales", spec := "quotaScales", inPlace := ["math/bits.Sub64", "math/bits.Add64"], unfollowed := true, recurses := true, named := ["math/bits.divideError", "math/bits.overflowError"], apart := false }
def QuotaScalesSaid : Prop := quotaScalesRow.holds Tryz.pinned (OpenSpec.ofChange quotaScalesSpec)

/-- ITS FALSE NEIGHBOUR: 'it returns false'. Refute it at one input. -/
def quotaScalesWrong : ChangeSpec := { name := "quotaScales", fn := fun _ => fun
  | [d1, d2, d3] => { results := [.lit (.bool false)], args := [d1, d2, d3] }
  | _ => none }
def QuotaScalesWrongFalsely : Prop := quotaScalesRow.holds Tryz.pinned (OpenSpec.ofChange quotaScalesWrong)

/-- 'wardmotelaw06.QuotaKnown': WHATEVER THE INPUT: true; the input reads as it did. -/
def quotaKnownSpec : ChangeSpec := { name := "quotaKnown", fn := fun _ => fun
  | [] => { results := [.lit (.bool true)], args := [] }
  | _ => none }
def quotaKnownRow : OpenClaim := { program := "ytbgngmamnonlbaagreat", sum := "b1e7110110653a47cd9795de764458df1022153dafe98dd8c5b03f5ab298be6e", func := "wardmote/wardmotelaw06.QuotaKnown", spec := "quotaKnown", inPlace := ["math/bits.Sub64", "math/bits.Add64"], unfollowed := true, recurses := true, named := ["math/bits.divideError", "math/bits.overflowError"], apart := false }
def QuotaKnownSaid : Prop := quotaKnownRow.holds Tryz.pinned (OpenSpec.ofChange quotaKnownSpec)

/-- ITS FALSE NEIGHBOUR: 'it returns false'. Refute it at one input. -/
def quotaKnownWrong : ChangeSpec := { name := "quotaKnown", fn := fun _ => fun
  | [] => { results := [.lit (.bool false)], args := [] }
  | _ => none }
def QuotaKnownWrongFalsely : Prop := quotaKnownRow.holds Tryz.pinned (OpenSpec.ofChange quotaKnownWrong)

/-- 'wardmotelaw06.QuotaSums': WHATEVER THE INPUT: true; the input reads as it did. -/
def quotaSumsSpec : ChangeSpec := { name := "quotaSums", fn := fun _ => fun
  | [d1, d2] => { results := [.lit (.bool true)], args := [d1, d2] }
  | _ => none }
def quotaSumsRow : OpenClaim := { program := "ytbgngmamnonlbaagreat", sum := "b1e7110110653a47cd9795de764458df1022153dafe98dd8c5b03f5ab298be6e", func := "wardmote/wardmotelaw06.QuotaSums", spec := "quotaSums", inPlace := ["math/bits.Sub64", "math/bits.Add64"], unfollowed := true, recurses := true, named := ["math/bits.divideError", "math/bits.overflowError"], apart := false }
def QuotaSumsSaid : Prop := quotaSumsRow.holds Tryz.pinned (OpenSpec.ofChange quotaSumsSpec)

/-- ITS FALSE NEIGHBOUR: 'it returns false'. Refute it at one input. -/
def quotaSumsWrong : ChangeSpec := { name := "quotaSums", fn := fun _ => fun
  | [d1, d2] => { results := [.lit (.bool false)], args := [d1, d2] }
  | _ => none }
def QuotaSumsWrongFalsely : Prop := quotaSumsRow.holds Tryz.pinned (OpenSpec.ofChange quotaSumsWrong)

/-- 'wardmotelaw06.QuotaLots': WHATEVER THE INPUT: true; the input reads as it did. -/
def quotaLotsSpec : ChangeSpec := { name := "quotaLots", fn := fun _ => fun
  | [d1, d2, d3] => { results := [.lit (.bool true)], args := [d1, d2, d3] }
  | _ => none }
def quotaLotsRow : OpenClaim := { program := "ytbgngmamnonlbaagreat", sum := "b1e7110110653a47cd9795de764458df1022153dafe98dd8c5b03f5ab298be6e", func := "wardmote/wardmotelaw06.QuotaLots", spec := "quotaLots", inPlace := ["math/bits.Sub64", "math/bits.Add64"], unfollowed := true, recurses := true, named := ["math/bits.divideError", "math/bits.overflowError"], apart := false }
def QuotaLotsSaid : Prop := quotaLotsRow.holds Tryz.pinned (OpenSpec.ofChange quotaLotsSpec)

/-- ITS FALSE NEIGHBOUR: 'it returns false'. Refute it at one input. -/
def quotaLotsWrong : ChangeSpec := { name := "quotaLots", fn := fun _ => fun
  | [d1, d2, d3] => { results := [.lit (.bool false)], args := [d1, d2, d3] }
  | _ => none }
def QuotaLotsWrongFalsely : Prop := quotaLotsRow.holds Tryz.pinned (OpenSpec.ofChange quotaLotsWrong)

/-- 'wardmotelaw06.QuotaOrders': WHATEVER THE INPUT: true; the input reads as it did. -/
def quotaOrdersSpec : ChangeSpec := { name := "quotaOrders", fn := fun _ => fun
  | [d1, d2, d3] => { results := [.lit (.bool true)], args := [d1, d2, d3] }
  | _ => none }
def quotaOrdersRow : OpenClaim := { program := "ytbgngmamnonlbaagreat", sum := "b1e7110110653a47cd9795de764458df1022153dafe98dd8c5b03f5ab298be6e", func := "wardmote/wardmotelaw06.QuotaOrders", spec := "quotaOrders", inPlace := ["math/bits.Sub64", "math/bits.Add64"], unfollowed := true, recurses := true, named := ["math/bits.divideError", "math/bits.overflowError"], apart := false }
def QuotaOrdersSaid : Prop := quotaOrdersRow.holds Tryz.pinned (OpenSpec.ofChange quotaOrdersSpec)

/-- ITS FALSE NEIGHBOUR: 'it returns false'. Refute it at one input. -/
def quotaOrdersWrong : ChangeSpec := { name := "quotaOrders", fn := fun _ => fun
  | [d1, d2, d3] => { results := [.lit (.bool false)], args := [d1, d2, d3] }
  | _ => none }
def QuotaOrdersWrongFalsely : Prop := quotaOrdersRow.holds Tryz.pinned (OpenSpec.ofChange quotaOrdersWrong)

/- THE SECOND FORM. 'bulk': how many values and letters a reading holds, each counted each time it is reached (what is shared counts as often as it is met; a slice's spare places count too). A statement '..UptoSaid' is the law's where the arguments, and the package variables that the reading takes, are together of bulk at most 1048576: NARROWER than '..Said'. Prove '..Said' where nothing that the law and all that it calls make is longer than what came in: it says more and counts as full. Else prove '..UptoSaid'. A law counts once. -/
mutual
def uptoBulk {H : Type} : DataW H → Nat
  | .lit (.string bytes) => bytes.length + 1
  | .lit _ => 1
  | .nil => 1
  | .ptr d => uptoBulk d + 1
  | .slice elems spare => uptoBulkAll elems + uptoBulkAll spare + 1
  | .agg parts => uptoBulkAll parts + 1
  | .iface _ d => uptoBulk d + 1
  | .map entries => uptoBulkEntries entries + 1
  | .held _ => 1
def uptoBulkAll {H : Type} : List (DataW H) → Nat
  | [] => 0
  | d :: r => uptoBulk d + uptoBulkAll r
def uptoBulkEntries {H : Type} : List (Lit × DataW H) → Nat
  | [] => 0
  | x :: r => uptoBulkEntry x + uptoBulkEntries r
def uptoBulkEntry {H : Type} : Lit × DataW H → Nat
  | (.string bytes, d) => bytes.length + uptoBulk d + 1
  | (_, d) => uptoBulk d + 1
 end
def uptoSmall : (H : Type) → List (DataW H) → Bool := fun _ ds => decide (uptoBulkAll ds ≤ 1048576)
def OpenSpec.upto (s : _root_.Go.ChangeSpec) : _root_.Go.OpenSpec := { _root_.Go.OpenSpec.ofChange s with cond := some uptoSmall }

/-- 'wardmotelaw06.QuotaChecks', WHERE WHAT IT READS IS OF BULK AT MOST 1048576: true; the input reads as it did. -/
def quotaChecksUptoRow : OpenClaim := { program := "ytbgngmamnonlbaagreat", sum := "b1e7110110653a47cd9795de764458df1022153dafe98dd8c5b03f5ab298be6e", func := "wardmote/wardmotelaw06.QuotaChecks", spec := "quotaChecks", inPlace := ["math/bits.Sub64", "math/bits.Add64"], unfollowed := true, recurses := true, named := ["math/bits.divideError", "math/bits.overflowError"], apart := false, narrowed := true }
def QuotaChecksUptoSaid : Prop := quotaChecksUptoRow.holds Tryz.pinned (OpenSpec.upto quotaChecksSpec)

/-- 'wardmotelaw06.QuotaGives', WHERE WHAT IT READS IS OF BULK AT MOST 1048576: true; the input reads as it did. -/
def quotaGivesUptoRow : OpenClaim := { program := "ytbgngmamnonlbaagreat", sum := "b1e7110110653a47cd9795de764458df1022153dafe98dd8c5b03f5ab298be6e", func := "wardmote/wardmotelaw06.QuotaGives", spec := "quotaGives", inPlace := ["math/bits.Sub64", "math/bits.Add64"], unfollowed := true, recurses := true, named := ["math/bits.divideError", "math/bits.overflowError"], apart := false, narrowed := true }
def QuotaGivesUptoSaid : Prop := quotaGivesUptoRow.holds Tryz.pinned (OpenSpec.upto quotaGivesSpec)

/-- 'wardmotelaw06.QuotaSettles', WHERE WHAT IT READS IS OF BULK AT MOST 1048576: true; the input reads as it did. -/
def quotaSettlesUptoRow : OpenClaim := { program := "ytbgngmamnonlbaagreat", sum := "b1e7110110653a47cd9795de764458df1022153dafe98dd8c5b03f5ab298be6e", func := "wardmote/wardmotelaw06.QuotaSettles", spec := "quotaSettles", inPlace := ["math/bits.Sub64", "math/bits.Add64"], unfollowed := true, recurses := true, named := ["math/bits.divideError", "math/bits.overflowError"], apart := false, narrowed := true }
def QuotaSettlesUptoSaid : Prop := quotaSettlesUptoRow.holds Tryz.pinned (OpenSpec.upto quotaSettlesSpec)

/-- 'wardmotelaw06.QuotaScales', WHERE WHAT IT READS IS OF BULK AT MOST 1048576: true; the input reads as it did. -/
def quotaScalesUptoRow : OpenClaim := { program := "ytbgngmamnonlbaagreat", sum := "b1e7110110653a47cd9795de764458df1022153dafe98dd8c5b03f5ab298be6e", func := "wardmote/wardmotelaw06.QuotaScales", spec := "quotaScales", inPlace := ["math/bits.Sub64", "math/bits.Add64"], unfollowed := true, recurses := true, named := ["math/bits.divideError", "math/bits.overflowError"], apart := false, narrowed := true }
def QuotaScalesUptoSaid : Prop := quotaScalesUptoRow.holds Tryz.pinned (OpenSpec.upto quotaScalesSpec)

/-- 'wardmotelaw06.QuotaKnown', WHERE WHAT IT READS IS OF BULK AT MOST 1048576: true; the input reads as it did. -/
def quotaKnownUptoRow : OpenClaim := { program := "ytbgngmamnonlbaagreat", sum := "b1e7110110653a47cd9795de764458df1022153dafe98dd8c5b03f5ab298be6e", func := "wardmote/wardmotelaw06.QuotaKnown", spec := "quotaKnown", inPlace := ["math/bits.Sub64", "math/bits.Add64"], unfollowed := true, recurses := true, named := ["math/bits.divideError", "math/bits.overflowError"], apart := false, narrowed := true }
def QuotaKnownUptoSaid : Prop := quotaKnownUptoRow.holds Tryz.pinned (OpenSpec.upto quotaKnownSpec)

/-- 'wardmotelaw06.QuotaSums', WHERE WHAT IT READS IS OF BULK AT MOST 1048576: true; the input reads as it did. -/
def quotaSumsUptoRow : OpenClaim := { program := "ytbgngmamnonlbaagreat", sum := "b1e7110110653a47cd9795de764458df1022153dafe98dd8c5b03f5ab298be6e", func := "wardmote/wardmotelaw06.QuotaSums", spec := "quotaSums", inPlace := ["math/bits.Sub64", "math/bits.Add64"], unfollowed := true, recurses := true, named := ["math/bits.divideError", "math/bits.overflowError"], apart := false, narrowed := true }
def QuotaSumsUptoSaid : Prop := quotaSumsUptoRow.holds Tryz.pinned (OpenSpec.upto quotaSumsSpec)

/-- 'wardmotelaw06.QuotaLots', WHERE WHAT IT READS IS OF BULK AT MOST 1048576: true; the input reads as it did. -/
def quotaLotsUptoRow : OpenClaim := { program := "ytbgngmamnonlbaagreat", sum := "b1e7110110653a47cd9795de764458df1022153dafe98dd8c5b03f5ab298be6e", func := "wardmote/wardmotelaw06.QuotaLots", spec := "quotaLots", inPlace := ["math/bits.Sub64", "math/bits.Add64"], unfollowed := true, recurses := true, named := ["math/bits.divideError", "math/bits.overflowError"], apart := false, narrowed := true }
def QuotaLotsUptoSaid : Prop := quotaLotsUptoRow.holds Tryz.pinned (OpenSpec.upto quotaLotsSpec)

/-- 'wardmotelaw06.QuotaOrders', WHERE WHAT IT READS IS OF BULK AT MOST 1048576: true; the input reads as it did. -/
def quotaOrdersUptoRow : OpenClaim := { program := "ytbgngmamnonlbaagreat", sum := "b1e7110110653a47cd9795de764458df1022153dafe98dd8c5b03f5ab298be6e", func := "wardmote/wardmotelaw06.QuotaOrders", spec := "quotaOrders", inPlace := ["math/bits.Sub64", "math/bits.Add64"], unfollowed := true, recurses := true, named := ["math/bits.divideError", "math/bits.overflowError"], apart := false, narrowed := true }
def QuotaOrdersUptoSaid : Prop := quotaOrdersUptoRow.holds Tryz.pinned (OpenSpec.upto quotaOrdersSpec)

end Rows
end Go.Proofs.YtbgngmamnonlbaaGreat
