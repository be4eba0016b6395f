/- Several texts in one: ShareE, ShareF, ShareG. -/
import Derived.Test.YtogkkhaepfablaaJ13
import Derived.Deep.MidRow

/- Shares: valid ones, two of them, products and comparisons. -/
namespace Go.Proofs.Ytogkkhaepfablaa
open Go.RowKit

theorem Blk.range {w : World} {g o : Nat} {t : TypeId} {cs : Array Value} (h : Blk w g t cs) (l : List Value) (hl : ∀ j v, l[j]? = some v → cs[o + j]? = some v) : w.rangeAt g o l :=
  fun j v hj => (h.cell (o + j)).trans (hl j v hj)

end Go.Proofs.Ytogkkhaepfablaa

/- Shares: products and comparisons of valid ones. -/
namespace Go.Proofs.Ytogkkhaepfablaa
open Go.RowKit

end Go.Proofs.Ytogkkhaepfablaa

/- Shares: Cmp, Mul, Make, Of. -/
namespace Go.Proofs.Ytogkkhaepfablaa
open Go.RowKit

end Go.Proofs.Ytogkkhaepfablaa
