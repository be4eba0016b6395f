/- Several texts in one: RefR, RefS. -/
import Derived.Test.YtegejfcfoanaoaaJ21

/- The reference's numbers: Out. -/
namespace Go.Proofs.Ytegejfcfoanaoaa
open Go.RowKit

end Go.Proofs.Ytegejfcfoanaoaa

/- The reference's numbers: Out, of a number that is too great; shares of the reference: one. -/
namespace Go.Proofs.Ytegejfcfoanaoaa
open Go.RowKit

end Go.Proofs.Ytegejfcfoanaoaa
