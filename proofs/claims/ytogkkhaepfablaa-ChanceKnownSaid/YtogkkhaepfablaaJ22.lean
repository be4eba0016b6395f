/- Several texts in one: RefR, RefS. -/
import Derived.Test.YtogkkhaepfablaaJ21

/- The reference's numbers: Out. -/
namespace Go.Proofs.Ytogkkhaepfablaa
open Go.RowKit

end Go.Proofs.Ytogkkhaepfablaa

/- The reference's numbers: Out, of a number that is too great; shares of the reference: one. -/
namespace Go.Proofs.Ytogkkhaepfablaa
open Go.RowKit

end Go.Proofs.Ytogkkhaepfablaa
