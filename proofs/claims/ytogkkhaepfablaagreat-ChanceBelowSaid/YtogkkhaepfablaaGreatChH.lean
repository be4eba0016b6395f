
/- wide: Zero, of, turned, Sign, Cmp. -/
import Derived.Test.YtogkkhaepfablaaGreatChX
namespace Go.Proofs.YtogkkhaepfablaaGreat
open Go.RowKit
set_option linter.unusedSimpArgs false

set_option maxRecDepth 100000 in
set_option maxHeartbeats 1000000 in
theorem zero_any (x : W8) (hx : x.ok) (w : World) : Calls Tryz.prog 121 #[.agg #[.int .u64 x.a0, .int .u64 x.a1, .int .u64 x.a2, .int .u64 x.a3, .int .u64 x.a4, .int .u64 x.a5, .int .u64 x.a6, .int .u64 x.a7]] w (fun e w' => e = .returned (.bool (decide (x.mag = 0))) ∧ Lat w w') := by
  have HQ := Lib.hid (fun w => size_eq hx W8.zero_ok w)
  obtain ⟨v, hv⟩ : ∃ v, decide (x.mag = W8.zero.mag) = v := ⟨_, rfl⟩
  have hv0 : decide (x.mag = 0) = v := by rw [← hv]; rfl
  rw [hv0]
  have HQ : Hid (∀ w, (binOp .eql 104 (.agg #[.int .u64 x.a0, .int .u64 x.a1, .int .u64 x.a2, .int .u64 x.a3, .int .u64 x.a4, .int .u64 x.a5, .int .u64 x.a6, .int .u64 x.a7]) (.agg #[.int .u64 W8.zero.a0, .int .u64 W8.zero.a1, .int .u64 W8.zero.a2, .int .u64 W8.zero.a3, .int .u64 W8.zero.a4, .int .u64 W8.zero.a5, .int .u64 W8.zero.a6, .int .u64 W8.zero.a7])).run Tryz.prog w = .ok (.bool v) w) := by rw [hv] at HQ; exact HQ
  clear hv hv0
  go_enter Tryz.func121, Tryz.ntmps121
  go_wp2_with (refine wpList_bin rfl .eql 104 104 (.tmp 3) (.tmp 4) (by rfl) #[.int .u64 x.a0, .int .u64 x.a1, .int .u64 x.a2, .int .u64 x.a3, .int .u64 x.a4, .int .u64 x.a5, .int .u64 x.a6, .int .u64 x.a7] #[.int .u64 W8.zero.a0, .int .u64 W8.zero.a1, .int .u64 W8.zero.a2, .int .u64 W8.zero.a3, .int .u64 W8.zero.a4, .int .u64 W8.zero.a5, .int .u64 W8.zero.a6, .int .u64 W8.zero.a7] _ (by rfl) (by rfl) (by kernel_rfl) (HQ.out _) ?_)
  refine name1 (Q := fun W => bodyPost _ _ _ _ _ W) ?_
  intro W hl hs k1
  go_ret
  exact ⟨rfl, hl⟩

end Go.Proofs.YtogkkhaepfablaaGreat
