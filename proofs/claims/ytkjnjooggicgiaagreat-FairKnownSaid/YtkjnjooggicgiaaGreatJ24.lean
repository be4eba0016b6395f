/- Several texts in one: RefX, RefY. -/
import Derived.Test.YtkjnjooggicgiaaGreatJ23
import Derived.Test.YtkjnjooggicgiaaGreatJ25

/- The reference's shares: Right, of a valid share. -/
namespace Go.Proofs.YtkjnjooggicgiaaGreat
open Go.RowKit
attribute [local go_sem ↓] Go.wp_at_zero Go.wp_at_succ

end Go.Proofs.YtkjnjooggicgiaaGreat

/- The reference's shares: Cmp, of valid shares. -/
namespace Go.Proofs.YtkjnjooggicgiaaGreat
open Go.RowKit
attribute [local go_sem ↓] Go.wp_at_zero Go.wp_at_succ

end Go.Proofs.YtkjnjooggicgiaaGreat
