/-
  No cell of these rows narrows 'for every input' (looked for: loops, veiled, ifaces, maps, wideKeys, modest, calm, conditions, laid).
  DERIVED. THE GIVEN ROWS OF THIS SEAT. 12 by the template 'for every input the law returns true; each argument reads behind the call as it read before'; 0 by the template 'total and deterministic' (their statements: YtkiaaefkobfkgaaGreatTotals.lean).
  GIVEN WITH THE SEED: the statements are not yours to turn. If you find one false, say at which input.
  Laid BY PROGRAM, IN A SANDBOX (cutbox-rows.mjs): the forced cells as the released guide's own fill.sh prints them over the translation d5782d502884a690… (all of the seat's roots in one cut). By AI agents, Wed Nov 11 2026. No macro, syntax, notation, axiom, sorry.
-/
import Derived.Test.YtkiaaefkobfkgaaGreatChecked
import GoSem.Claim
import GoSem.ClaimJoined
import GoSem.ClaimMapViews
import Derived.JoinedTies
import Derived.KernelRfl
namespace Go.Proofs.YtkiaaefkobfkgaaGreat
/- THE CELL 'sum', in the pinned program and in every row, IS THE sha256 OF THE DUMP (.gsa) THAT YtkiaaefkobfkgaaGreatProg.lean LOADS. Nothing in Lean hashes anything: it is a label: what it is worth is what the hold of that sum in a sandbox is worth. -/
noncomputable def Tryz.pinned : Pinned := { name := "ytkiaaefkobfkgaagreat", sum := "d5782d502884a690ba9389d3385f92678c5908015ff1028f87fe7730b7c721c5", checked := Tryz.checked }
namespace Rows
def none {H : Type} : Left H := { results := [], args := [] }

/-- 'wardmotelaw09.FairMeasures': WHATEVER THE INPUT: true; the input reads as it did. -/
def fairMeasuresSpec : ChangeSpec := { name := "fairMeasures", fn := fun _ => fun
  | [d1, d2, d3, d4, d5] => { results := [.lit (.bool true)], args := [d1, d2, d3, d4, d5] }
  | _ => none }
def fairMeasuresRow : OpenClaim := { program := "ytkiaaefkobfkgaagreat", sum := "d5782d502884a690ba9389d3385f92678c5908015ff1028f87fe7730b7c721c5", func := "wardmote/wardmotelaw09.FairMeasures", spec := "fairMeasures", inPlace := ["math/bits.Sub64", "math/bits.Add64"], unfollowed := true, recurses := true, named := ["math/bits.divideError", "math/bits.overflowError"], apart := false }
def FairMeasuresSaid : Prop := fairMeasuresRow.holds Tryz.pinned (OpenSpec.ofChange fairMeasuresSpec)

/-- ITS FALSE NEIGHBOUR: 'it returns false'. Refute it at one input. -/
def fairMeasuresWrong : ChangeSpec := { name := "fairMeasures", fn := fun _ => fun
  | [d1, d2, d3, d4, d5] => { results := [.lit (.bool false)], args := [d1, d2, d3, d4, d5] }
  | _ => none }
def FairMeasuresWrongFalsely : Prop := fairMeasuresRow.holds Tryz.pinned (OpenSpec.ofChange fairMeasuresWrong)

/-- 'wardmotelaw09.FairPairs': WHATEVER THE INPUT: true; the input reads as it did. -/
def fairPairsSpec : ChangeSpec := { name := "fairPairs", fn := fun _ => fun
  | [d1, d2, d3, d4, d5] => { results := [.lit (.bool true)], args := [d1, d2, d3, d4, d5] }
  | _ => none }
def fairPairsRow : OpenClaim := { program := "ytkiaaefkobfkgaagreat", sum := "d5782d502884a690ba9389d3385f92678c5908015ff1028f87fe7730b7c721c5", func := "wardmote/wardmotelaw09.FairPairs", spec := "fairPairs", inPlace := ["math/bits.Sub64", "math/bits.Add64"], unfollowed := true, recurses := true, named := ["math/bits.divideError", "math/bits.overflowError"], apart := false }
def FairPairsSaid : Prop := fairPairsRow.holds Tryz.pinned (OpenSpec.ofChange fairPairsSpec)

/-- ITS FALSE NEIGHBOUR: 'it returns false'. Refute it at one input. -/
def fairPairsWrong : ChangeSpec := { name := "fairPairs", fn := fun _ => fun
  | [d1, d2, d3, d4, d5] => { results := [.lit (.bool false)], args := [d1, d2, d3, d4, d5] }
  | _ => none }
def FairPairsWrongFalsely : Prop := fairPairsRow.holds Tryz.pinned (OpenSpec.ofChange fairPairsWrong)

/-- 'wardmotelaw09.FairBiases': WHATEVER THE INPUT: true; the input reads as it did. -/
def fairBiasesSpec : ChangeSpec := { name := "fairBiases", fn := fun _ => fun
  | [d1, d2] => { results := [.lit (.bool true)], args := [d1, d2] }
  | _ => none }
def fairBiasesRow : OpenClaim := { program := "ytkiaaefkobfkgaagreat", sum := "d5782d502884a690ba9389d3385f92678c5908015ff1028f87fe7730b7c721c5", func := "wardmote/wardmotelaw09.FairBiases", spec := "fairBiases", inPlace := ["math/bits.Sub64", "math/bits.Add64"], unfollowed := true, recurses := true, named := ["math/bits.divideError", "math/bits.overflowError"], apart := false }
def FairBiasesSaid : Prop := fairBiasesRow.holds Tryz.pinned (OpenSpec.ofChange fairBiasesSpec)

/-- ITS FALSE NEIGHBOUR: 'it returns false'. Refute it at one input. -/
def fairBiasesWrong : ChangeSpec := { name := "fairBiases", fn := fun _ => fun
  | [d1, d2] => { results := [.lit (.bool false)], args := [d1, d2] }
  | _ => none }
def FairBiasesWrongFalsely : Prop := fairBiasesRow.holds Tryz.pinned (OpenSpec.ofChange fairBiasesWrong)

/-- 'wardmotelaw09.FairBreaks': WHATEVER THE INPUT: true; the input reads as it did. -/
def fairBreaksSpec : ChangeSpec := { name := "fairBreaks", fn := fun _ => fun
  | [d1, d2, d3, d4, d5, d6] => { results := [.lit (.bool true)], args := [d1, d2, d3, d4, d5, d6] }
  | _ => none }
def fairBreaksRow : OpenClaim := { program := "ytkiaaefkobfkgaagreat", sum := "d5782d502884a690ba9389d3385f92678c5908015ff1028f87fe7730b7c721c5", func := "wardmote/wardmotelaw09.FairBreaks", spec := "fairBreaks", inPlace := ["math/bits.Sub64", "math/bits.Add64"], unfollowed := true, recurses := true, named := ["math/bits.divideError", "math/bits.overflowError"], apart := false }
def FairBreaksSaid : Prop := fairBreaksRow.holds Tryz.pinned (OpenSpec.ofChange fairBreaksSpec)

/-- ITS FALSE NEIGHBOUR: 'it returns false'. Refute it at one input. -/
def fairBreaksWrong : ChangeSpec := { name := "fairBreaks", fn := fun _ => fun
  | [d1, d2, d3, d4, d5, d6] => { results := [.lit (.bool false)], args := [d1, d2, d3, d4, d5, d6] }
  | _ => none }
def FairBreaksWrongFalsely : Prop := fairBreaksRow.holds Tryz.pinned (OpenSpec.ofChange fairBreaksWrong)

/-- 'wardmotelaw06.QuotaChecks': WHATEVER THE INPUT: true; the input reads as it did. -/
def quotaChecksSpec : ChangeSpec := { name := "quotaChecks", fn := fun _ => fun
  | [d1, d2, d3, d4, d5, d6] => { results := [.lit (.bool true)], args := [d1, d2, d3, d4, d5, d6] }
  | _ => none }
def quotaChecksRow : OpenClaim := { program := "ytkiaaefkobfkgaagreat", sum := "d5782d502884a690ba9389d3385f92678c5908015ff1028f87fe7730b7c721c5", func := "wardmote/wardmotelaw06.QuotaChecks", spec := "quotaChecks", inPlace := ["math/bits.Sub64", "math/bits.Add64"], unfollowed := true, recurses := true, named := ["math/bits.divideError", "math/bits.overflowError"], apart := false }
def QuotaChecksSaid : Prop := quotaChecksRow.holds Tryz.pinned (OpenSpec.ofChange quotaChecksSpec)

/-- ITS FALSE NEIGHBOUR: 'it returns false'. Refute it at one input. -/
def quotaChecksWrong : ChangeSpec := { name := "quotaChecks", fn := fun _ => fun
  | [d1, d2, d3, d4, d5, d6] => { results := [.lit (.bool false)], args := [d1, d2, d3, d4, d5, d6] }
  | _ => none }
def QuotaChecksWrongFalsely : Prop := quotaChecksRow.holds Tryz.pinned (OpenSpec.ofChange quotaChecksWrong)

/-- 'wardmotelaw06.QuotaGives': WHATEVER THE INPUT: true; the input reads as it did. -/
def quotaGivesSpec : ChangeSpec := { name := "quotaGives", fn := fun _ => fun
  | [d1, d2, d3, d4, d5, d6, d7] => { results := [.lit (.bool true)], args := [d1, d2, d3, d4, d5, d6, d7] }
  | _ => none }
def quotaGivesRow : OpenClaim := { program := "ytkiaaefkobfkgaagreat", sum := "d5782d502884a690ba9389d3385f92678c5908015ff1028f87fe7730b7c721c5", func := "wardmote/wardmotelaw06.QuotaGives", spec := "quotaGives", inPlace := ["math/bits.Sub64", "math/bits.Add64"], unfollowed := true, recurses := true, named := ["math/bits.divideError", "math/bits.overflowError"], apart := false }
def QuotaGivesSaid : Prop := quotaGivesRow.holds Tryz.pinned (OpenSpec.ofChange quotaGivesSpec)

/-- ITS FALSE NEIGHBOUR: 'it returns false'. Refute it at one input. -/
def quotaGivesWrong : ChangeSpec := { name := "quotaGives", fn := fun _ => fun
  | [d1, d2, d3, d4, d5, d6, d7] => { results := [.lit (.bool false)], args := [d1, d2, d3, d4, d5, d6, d7] }
  | _ => none }
def QuotaGivesWrongFalsely : Prop := quotaGivesRow.holds Tryz.pinned (OpenSpec.ofChange quotaGivesWrong)

/-- 'wardmotelaw06.QuotaSettles': WHATEVER THE INPUT: true; the input reads as it did. -/
def quotaSettlesSpec : ChangeSpec := { name := "quotaSettles", fn := fun _ => fun
  | [d1, d2, d3, d4, d5, d6, d7] => { results := [.lit (.bool true)], args := [d1, d2, d3, d4, d5, d6, d7] }
  | _ => none }
def quotaSettlesRow : OpenClaim := { program := "ytkiaaefkobfkgaagreat", sum := "d5782d502884a690ba9389d3385f92678c5908015ff1028f87fe7730b7c721c5", func := "wardmote/wardmotelaw06.QuotaSettles", spec := "quotaSettles", inPlace := ["math/bits.Sub64", "math/bits.Add64"], unfollowed := true, recurses := true, named := ["math/bits.divideError", "math/bits.overflowError"], apart := false }
def QuotaSettlesSaid : Prop := quotaSettlesRow.holds Tryz.pinned (OpenSpec.ofChange quotaSettlesSpec)

/-- ITS FALSE NEIGHBOUR: 'it returns false'. Refute it at one input. -/
def quotaSettlesWrong : ChangeSpec := { name := "quotaSettles", fn := fun _ => fun
  | [d1, d2, d3, d4, d5, d6, d7] => { results := [.lit (.bool false)], args := [d1, d2, d3, d4, d5, d6, d7] }
  | _ => none }
def QuotaSettlesWrongFalsely : Prop := quotaSettlesRow.holds Tryz.pinned (OpenSpec.ofChange quotaSettlesWrong)

/-- 'wardmotelaw06.QuotaScales': WHATEVER THE INPUT: true; the input reads as it did. -/
def quotaScalesSpec : ChangeSpec := { name := "quotaScales", fn := fun _ => fun
  | [d1, d2, d3] => { results := [.lit (.bool true)], args := [d1, d2, d3] }
  | _ => none }
def quotaScalesRow : OpenClaim := { program := "ytkiaaefkobfkgaagreat", sum := "d5782d502884a690ba9389d3385f92678c5908015ff1028f87fe7730b7c721c5", func := "wardmote/wardmotelaw06.QuotaScales", spec := "quotaScales", inPlace := ["math/bits.Sub64", "math/bits.Add64"], unfollowed := true, recurses := true, named := ["math/bits.divideError", "math/bits.overflowError"], apart := false }
def QuotaScalesSaid : Prop := quotaScalesRow.holds Tryz.pinned (OpenSpec.ofChange quotaScalesSpec)

/-- ITS FALSE NEIGHBOUR: 'it returns false'. Refute it at one input. -/
def quotaScalesWrong : ChangeSpec := { name := "quotaScales", fn := fun _ => fun
  | [d1, d2, d3] => { results := [.lit (.bool false)], args := [d1, d2, d3] }
  | _ => none }
def QuotaScalesWrongFalsely : Prop := quotaScalesRow.holds Tryz.pinned (OpenSpec.ofChange quotaScalesWrong)

/-- 'wardmotelaw06.QuotaSums': WHATEVER THE INPUT: true; the input reads as it did. -/
def quotaSumsSpec : ChangeSpec := { name := "quotaSums", fn := fun _ => fun
  | [d1, d2] => { results := [.lit (.bool true)], args := [d1, d2] }
  | _ => none }
def quotaSumsRow : OpenClaim := { program := "ytkiaaefkobfkgaagreat", sum := "d5782d502884a690ba9389d3385f92678c5908015ff1028f87fe7730b7c721c5", func := "wardmote/wardmotelaw06.QuotaSums", spec := "quotaSums", inPlace := ["math/bits.Sub64", "math/bits.Add64"], unfollowed := true, recurses := true, named := ["math/bits.divideError", "math/bits.overflowError"], apart := false }
def QuotaSumsSaid : Prop := quotaSumsRow.holds Tryz.pinned (OpenSpec.ofChange quotaSumsSpec)

/-- ITS FALSE NEIGHBOUR: 'it returns false'. Refute it at one input. -/
def quotaSumsWrong : ChangeSpec := { name := "quotaSums", fn := fun _ => fun
  | [d1, d2] => { results := [.lit (.bool false)], args := [d1, d2] }
  | _ => none }
def QuotaSumsWrongFalsely : Prop := quotaSumsRow.holds Tryz.pinned (OpenSpec.ofChange quotaSumsWrong)

/-- 'wardmotelaw06.QuotaLots': WHATEVER THE INPUT: true; the input reads as it did. -/
def quotaLotsSpec : ChangeSpec := { name := "quotaLots", fn := fun _ => fun
  | [d1, d2, d3] => { results := [.lit (.bool true)], args := [d1, d2, d3] }
  | _ => none }
def quotaLotsRow : OpenClaim := { program := "ytkiaaefkobfkgaagreat", sum := "d5782d502884a690ba9389d3385f92678c5908015ff1028f87fe7730b7c721c5", func := "wardmote/wardmotelaw06.QuotaLots", spec := "quotaLots", inPlace := ["math/bits.Sub64", "math/bits.Add64"], unfollowed := true, recurses := true, named := ["math/bits.divideError", "math/bits.overflowError"], apart := false }
def QuotaLotsSaid : Prop := quotaLotsRow.holds Tryz.pinned (OpenSpec.ofChange quotaLotsSpec)

/-- ITS FALSE NEIGHBOUR: 'it returns false'. Refute it at one input. -/
def quotaLotsWrong : ChangeSpec := { name := "quotaLots", fn := fun _ => fun
  | [d1, d2, d3] => { results := [.lit (.bool false)], args := [d1, d2, d3] }
  | _ => none }
def QuotaLotsWrongFalsely : Prop := quotaLotsRow.holds Tryz.pinned (OpenSpec.ofChange quotaLotsWrong)

/-- 'wardmotelaw06.QuotaOrders': WHATEVER THE INPUT: true; the input reads as it did. -/
def quotaOrdersSpec : ChangeSpec := { name := "quotaOrders", fn := fun _ => fun
  | [d1, d2, d3] => { results := [.lit (.bool true)], args := [d1, d2, d3] }
  | _ => none }
def quotaOrdersRow : OpenClaim := { program := "ytkiaaefkobfkgaagreat", sum := "d5782d502884a690ba9389d3385f92678c5908015ff1028f87fe7730b7c721c5", func := "wardmote/wardmotelaw06.QuotaOrders", spec := "quotaOrders", inPlace := ["math/bits.Sub64", "math/bits.Add64"], unfollowed := true, recurses := true, named := ["math/bits.divideError", "math/bits.overflowError"], apart := false }
def QuotaOrdersSaid : Prop := quotaOrdersRow.holds Tryz.pinned (OpenSpec.ofChange quotaOrdersSpec)

/-- ITS FALSE NEIGHBOUR: 'it returns false'. Refute it at one input. -/
def quotaOrdersWrong : ChangeSpec := { name := "quotaOrders", fn := fun _ => fun
  | [d1, d2, d3] => { results := [.lit (.bool false)], args := [d1, d2, d3] }
  | _ => none }
def QuotaOrdersWrongFalsely : Prop := quotaOrdersRow.holds Tryz.pinned (OpenSpec.ofChange quotaOrdersWrong)

/-- 'wardmotelaw09.FairQuota': WHATEVER THE INPUT: true; the input reads as it did. -/
def fairQuotaSpec : ChangeSpec := { name := "fairQuota", fn := fun _ => fun
  | [d1, d2] => { results := [.lit (.bool true)], args := [d1, d2] }
  | _ => none }
def fairQuotaRow : OpenClaim := { program := "ytkiaaefkobfkgaagreat", sum := "d5782d502884a690ba9389d3385f92678c5908015ff1028f87fe7730b7c721c5", func := "wardmote/wardmotelaw09.FairQuota", spec := "fairQuota", inPlace := ["math/bits.Sub64", "math/bits.Add64"], unfollowed := true, recurses := true, named := ["math/bits.divideError", "math/bits.overflowError"], apart := false }
def FairQuotaSaid : Prop := fairQuotaRow.holds Tryz.pinned (OpenSpec.ofChange fairQuotaSpec)

/-- ITS FALSE NEIGHBOUR: 'it returns false'. Refute it at one input. -/
def fairQuotaWrong : ChangeSpec := { name := "fairQuota", fn := fun _ => fun
  | [d1, d2] => { results := [.lit (.bool false)], args := [d1, d2] }
  | _ => none }
def FairQuotaWrongFalsely : Prop := fairQuotaRow.holds Tryz.pinned (OpenSpec.ofChange fairQuotaWrong)

/- THE SECOND FORM. 'bulk': how many values and letters a reading holds, each counted each time it is reached (what is shared counts as often as it is met; a slice's spare places count too). A statement '..UptoSaid' is the law's where the arguments, and the package variables that the reading takes, are together of bulk at most 1048576: NARROWER than '..Said'. Prove '..Said' where nothing that the law and all that it calls make is longer than what came in: it says more and counts as full. Else prove '..UptoSaid'. A law counts once. -/
mutual
def uptoBulk {H : Type} : DataW H → Nat
  | .lit (.string bytes) => bytes.length + 1
  | .lit _ => 1
  | .nil => 1
  | .ptr d => uptoBulk d + 1
  | .slice elems spare => uptoBulkAll elems + uptoBulkAll spare + 1
  | .agg parts => uptoBulkAll parts + 1
  | .iface _ d => uptoBulk d + 1
  | .map entries => uptoBulkEntries entries + 1
  | .held _ => 1
def uptoBulkAll {H : Type} : List (DataW H) → Nat
  | [] => 0
  | d :: r => uptoBulk d + uptoBulkAll r
def uptoBulkEntries {H : Type} : List (Lit × DataW H) → Nat
  | [] => 0
  | x :: r => uptoBulkEntry x + uptoBulkEntries r
def uptoBulkEntry {H : Type} : Lit × DataW H → Nat
  | (.string bytes, d) => bytes.length + uptoBulk d + 1
  | (_, d) => uptoBulk d + 1
 end
def uptoSmall : (H : Type) → List (DataW H) → Bool := fun _ ds => decide (uptoBulkAll ds ≤ 1048576)
def OpenSpec.upto (s : _root_.Go.ChangeSpec) : _root_.Go.OpenSpec := { _root_.Go.OpenSpec.ofChange s with cond := some uptoSmall }

/-- 'wardmotelaw09.FairMeasures', WHERE WHAT IT READS IS OF BULK AT MOST 1048576: true; the input reads as it did. -/
def fairMeasuresUptoRow : OpenClaim := { program := "ytkiaaefkobfkgaagreat", sum := "d5782d502884a690ba9389d3385f92678c5908015ff1028f87fe7730b7c721c5", func := "wardmote/wardmotelaw09.FairMeasures", spec := "fairMeasures", inPlace := ["math/bits.Sub64", "math/bits.Add64"], unfollowed := true, recurses := true, named := ["math/bits.divideError", "math/bits.overflowError"], apart := false, narrowed := true }
def FairMeasuresUptoSaid : Prop := fairMeasuresUptoRow.holds Tryz.pinned (OpenSpec.upto fairMeasuresSpec)

/-- 'wardmotelaw09.FairPairs', WHERE WHAT IT READS IS OF BULK AT MOST 1048576: true; the input reads as it did. -/
def fairPairsUptoRow : OpenClaim := { program := "ytkiaaefkobfkgaagreat", sum := "d5782d502884a690ba9389d3385f92678c5908015ff1028f87fe7730b7c721c5", func := "wardmote/wardmotelaw09.FairPairs", spec := "fairPairs", inPlace := ["math/bits.Sub64", "math/bits.Add64"], unfollowed := true, recurses := true, named := ["math/bits.divideError", "math/bits.overflowError"], apart := false, narrowed := true }
def FairPairsUptoSaid : Prop := fairPairsUptoRow.holds Tryz.pinned (OpenSpec.upto fairPairsSpec)

/-- 'wardmotelaw09.FairBiases', WHERE WHAT IT READS IS OF BULK AT MOST 1048576: true; the input reads as it did. -/
def fairBiasesUptoRow : OpenClaim := { program := "ytkiaaefkobfkgaagreat", sum := "d5782d502884a690ba9389d3385f92678c5908015ff1028f87fe7730b7c721c5", func := "wardmote/wardmotelaw09.FairBiases", spec := "fairBiases", inPlace := ["math/bits.Sub64", "math/bits.Add64"], unfollowed := true, recurses := true, named := ["math/bits.divideError", "math/bits.overflowError"], apart := false, narrowed := true }
def FairBiasesUptoSaid : Prop := fairBiasesUptoRow.holds Tryz.pinned (OpenSpec.upto fairBiasesSpec)

/-- 'wardmotelaw09.FairBreaks', WHERE WHAT IT READS IS OF BULK AT MOST 1048576: true; the input reads as it did. -/
def fairBreaksUptoRow : OpenClaim := { program := "ytkiaaefkobfkgaagreat", sum := "d5782d502884a690ba9389d3385f92678c5908015ff1028f87fe7730b7c721c5", func := "wardmote/wardmotelaw09.FairBreaks", spec := "fairBreaks", inPlace := ["math/bits.Sub64", "math/bits.Add64"], unfollowed := true, recurses := true, named := ["math/bits.divideError", "math/bits.overflowError"], apart := false, narrowed := true }
def FairBreaksUptoSaid : Prop := fairBreaksUptoRow.holds Tryz.pinned (OpenSpec.upto fairBreaksSpec)

/-- 'wardmotelaw06.QuotaChecks', WHERE WHAT IT READS IS OF BULK AT MOST 1048576: true; the input reads as it did. -/
def quotaChecksUptoRow : OpenClaim := { program := "ytkiaaefkobfkgaagreat", sum := "d5782d502884a690ba9389d3385f92678c5908015ff1028f87fe7730b7c721c5", func := "wardmote/wardmotelaw06.QuotaChecks", spec := "quotaChecks", inPlace := ["math/bits.Sub64", "math/bits.Add64"], unfollowed := true, recurses := true, named := ["math/bits.divideError", "math/bits.overflowError"], apart := false, narrowed := true }
def QuotaChecksUptoSaid : Prop := quotaChecksUptoRow.holds Tryz.pinned (OpenSpec.upto quotaChecksSpec)

/-- 'wardmotelaw06.QuotaGives', WHERE WHAT IT READS IS OF BULK AT MOST 1048576: true; the input reads as it did. -/
def quotaGivesUptoRow : OpenClaim := { program := "ytkiaaefkobfkgaagreat", sum := "d5782d502884a690ba9389d3385f92678c5908015ff1028f87fe7730b7c721c5", func := "wardmote/wardmotelaw06.QuotaGives", spec := "quotaGives", inPlace := ["math/bits.Sub64", "math/bits.Add64"], unfollowed := true, recurses := true, named := ["math/bits.divideError", "math/bits.overflowError"], apart := false, narrowed := true }
def QuotaGivesUptoSaid : Prop := quotaGivesUptoRow.holds Tryz.pinned (OpenSpec.upto quotaGivesSpec)

/-- 'wardmotelaw06.QuotaSettles', WHERE WHAT IT READS IS OF BULK AT MOST 1048576: true; the input reads as it did. -/
def quotaSettlesUptoRow : OpenClaim := { program := "ytkiaaefkobfkgaagreat", sum := "d5782d502884a690ba9389d3385f92678c5908015ff1028f87fe7730b7c721c5", func := "wardmote/wardmotelaw06.QuotaSettles", spec := "quotaSettles", inPlace := ["math/bits.Sub64", "math/bits.Add64"], unfollowed := true, recurses := true, named := ["math/bits.divideError", "math/bits.overflowError"], apart := false, narrowed := true }
def QuotaSettlesUptoSaid : Prop := quotaSettlesUptoRow.holds Tryz.pinned (OpenSpec.upto quotaSettlesSpec)

/-- 'wardmotelaw06.QuotaScales', WHERE WHAT IT READS IS OF BULK AT MOST 1048576: true; the input reads as it did. -/
def quotaScalesUptoRow : OpenClaim := { program := "ytkiaaefkobfkgaagreat", sum := "d5782d502884a690ba9389d3385f92678c5908015ff1028f87fe7730b7c721c5", func := "wardmote/wardmotelaw06.QuotaScales", spec := "quotaScales", inPlace := ["math/bits.Sub64", "math/bits.Add64"], unfollowed := true, recurses := true, named := ["math/bits.divideError", "math/bits.overflowError"], apart := false, narrowed := true }
def QuotaScalesUptoSaid : Prop := quotaScalesUptoRow.holds Tryz.pinned (OpenSpec.upto quotaScalesSpec)

/-- 'wardmotelaw06.QuotaSums', WHERE WHAT IT READS IS OF BULK AT MOST 1048576: true; the input reads as it did. -/
def quotaSumsUptoRow : OpenClaim := { program := "ytkiaaefkobfkgaagreat", sum := "d5782d502884a690ba9389d3385f92678c5908015ff1028f87fe7730b7c721c5", func := "wardmote/wardmotelaw06.QuotaSums", spec := "quotaSums", inPlace := ["math/bits.Sub64", "math/bits.Add64"], unfollowed := true, recurses := true, named := ["math/bits.divideError", "math/bits.overflowError"], apart := false, narrowed := true }
def QuotaSumsUptoSaid : Prop := quotaSumsUptoRow.holds Tryz.pinned (OpenSpec.upto quotaSumsSpec)

/-- 'wardmotelaw06.QuotaLots', WHERE WHAT IT READS IS OF BULK AT MOST 1048576: true; the input reads as it did. -/
def quotaLotsUptoRow : OpenClaim := { program := "ytkiaaefkobfkgaagreat", sum := "d5782d502884a690ba9389d3385f92678c5908015ff1028f87fe7730b7c721c5", func := "wardmote/wardmotelaw06.QuotaLots", spec := "quotaLots", inPlace := ["math/bits.Sub64", "math/bits.Add64"], unfollowed := true, recurses := true, named := ["math/bits.divideError", "math/bits.overflowError"], apart := false, narrowed := true }
def QuotaLotsUptoSaid : Prop := quotaLotsUptoRow.holds Tryz.pinned (OpenSpec.upto quotaLotsSpec)

/-- 'wardmotelaw06.QuotaOrders', WHERE WHAT IT READS IS OF BULK AT MOST 1048576: true; the input reads as it did. -/
def quotaOrdersUptoRow : OpenClaim := { program := "ytkiaaefkobfkgaagreat", sum := "d5782d502884a690ba9389d3385f92678c5908015ff1028f87fe7730b7c721c5", func := "wardmote/wardmotelaw06.QuotaOrders", spec := "quotaOrders", inPlace := ["math/bits.Sub64", "math/bits.Add64"], unfollowed := true, recurses := true, named := ["math/bits.divideError", "math/bits.overflowError"], apart := false, narrowed := true }
def QuotaOrdersUptoSaid : Prop := quotaOrdersUptoRow.holds Tryz.pinned (OpenSpec.upto quotaOrdersSpec)

/-- 'wardmotelaw09.FairQuota', WHERE WHAT IT READS IS OF BULK AT MOST 1048576: true; the input reads as it did. -/
def fairQuotaUptoRow : OpenClaim := { program := "ytkiaaefkobfkgaagreat", sum := "d5782d502884a690ba9389d3385f92678c5908015ff1028f87fe7730b7c721c5", func := "wardmote/wardmotelaw09.FairQuota", spec := "fairQuota", inPlace := ["math/bits.Sub64", "math/bits.Add64"], unfollowed := true, recurses := true, named := ["math/bits.divideError", "math/bits.overflowError"], apart := false, narrowed := true }
def FairQuotaUptoSaid : Prop := fairQuotaUptoRow.holds Tryz.pinned (OpenSpec.upto fairQuotaSpec)

end Rows
end Go.Proofs.YtkiaaefkobfkgaaGreat
