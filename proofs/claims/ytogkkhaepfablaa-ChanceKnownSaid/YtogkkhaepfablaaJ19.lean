/- Several texts in one: RefL, RefM. -/
import Derived.Test.YtogkkhaepfablaaJ18
import Derived.Deep.LoopGhost

/- The reference's numbers: parts, Order, Divisor. -/
namespace Go.Proofs.Ytogkkhaepfablaa
open Go.RowKit

end Go.Proofs.Ytogkkhaepfablaa

/- The reference's numbers: Long1. -/
namespace Go.Proofs.Ytogkkhaepfablaa
open Go.RowKit

end Go.Proofs.Ytogkkhaepfablaa
