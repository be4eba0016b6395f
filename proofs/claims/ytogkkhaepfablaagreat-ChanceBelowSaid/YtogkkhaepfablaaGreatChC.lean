
/- Chance: another state by a label; the candidates. -/
import Derived.Test.YtogkkhaepfablaaGreatChB
import Derived.RangeFuncGives
import Derived.LoopNIn
import Derived.LoopIn
import Derived.TacticsInMore
import Derived.WalkMore
namespace Go.Proofs.YtogkkhaepfablaaGreat
open Go.RowKit
set_option linter.unusedSimpArgs false

def NxC (s x t : Nat) : Prop := ∀ w : World, Calls Tryz.prog 25 #[.agg #[.int .u64 s]] w (fun e w' => e = .returned (.tuple #[.int .u64 (x : Nat), .agg #[.int .u64 (t : Nat)]]) ∧ Lat w w')

theorem nxC (s : Nat) (hs : s < 18446744073709551616) : NxC s (chMix (chStep s)) (chStep s) := fun w => cNext_any s hs w
/-- The state that a label leads to. -/
def chSplit (s a : Nat) : Nat := chMix (chStep (s ^^^ chMix (chStep a)))
end Go.Proofs.YtogkkhaepfablaaGreat
