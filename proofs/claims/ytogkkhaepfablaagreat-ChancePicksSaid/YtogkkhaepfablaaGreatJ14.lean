/- Several texts in one: ShareE, ShareF, ShareG. -/
import Derived.Test.YtogkkhaepfablaaGreatJ13
import Derived.Deep.MidRow
namespace Go.Proofs.YtogkkhaepfablaaGreat
open Go.RowKit
end Go.Proofs.YtogkkhaepfablaaGreat
namespace Go.Proofs.YtogkkhaepfablaaGreat
open Go.RowKit
end Go.Proofs.YtogkkhaepfablaaGreat
namespace Go.Proofs.YtogkkhaepfablaaGreat
open Go.RowKit
end Go.Proofs.YtogkkhaepfablaaGreat
