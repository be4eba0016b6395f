/- Several texts in one: RefX, RefY. -/
import Derived.Test.YtkjnjooggicgiaaJ23
import Derived.Test.YtkjnjooggicgiaaJ25

/- The reference's shares: Right, of a valid share. -/
namespace Go.Proofs.Ytkjnjooggicgiaa
open Go.RowKit
attribute [local go_sem ↓] Go.wp_at_zero Go.wp_at_succ

end Go.Proofs.Ytkjnjooggicgiaa

/- The reference's shares: Cmp, of valid shares. -/
namespace Go.Proofs.Ytkjnjooggicgiaa
open Go.RowKit
attribute [local go_sem ↓] Go.wp_at_zero Go.wp_at_succ

end Go.Proofs.Ytkjnjooggicgiaa
