/- Several texts in one: RefU. -/
import Derived.Test.YtogkkhaepfablaaJ23
import Derived.Test.YtogkkhaepfablaaJ13

/- The reference's fractions: Out, Quick, Of. -/
namespace Go.Proofs.Ytogkkhaepfablaa
open Go.RowKit

end Go.Proofs.Ytogkkhaepfablaa
