
/- Chance: what ChanceKnown needs: facts of numbers, q, the limits. -/
import Derived.Test.YtogkkhaepfablaaK37
import Derived.Test.YtogkkhaepfablaaPkB
import Derived.Test.YtogkkhaepfablaaShBad
import Derived.Test.YtogkkhaepfablaaCsB
import Derived.Test.YtogkkhaepfablaaCwD
namespace Go.Proofs.Ytogkkhaepfablaa
open Go.RowKit Go.Shelf
set_option linter.unusedSimpArgs false
set_option linter.unusedVariables false

set_option maxRecDepth 100000 in
set_option maxHeartbeats 4000000 in
theorem q_is (n d N D : Int) (h0 : d ≠ 0) (b : -1000 ≤ n ∧ n ≤ 1000 ∧ -1000 ≤ d ∧ d ≤ 1000) (hN : lowN n d = N) (hD : lowD n d = D) (b2 : -1000 ≤ N ∧ N ≤ 1000 ∧ -1000 ≤ D ∧ D ≤ 1000) (w : World) :
    Calls Try.prog 24 #[.int .i64 n, .int .i64 d] w (fun e w' => e = .returned (.agg #[.int .u64 (W8.of N).a0, .int .u64 (W8.of N).a1, .int .u64 (W8.of N).a2, .int .u64 (W8.of N).a3, .int .u64 (W8.of N).a4, .int .u64 (W8.of N).a5, .int .u64 (W8.of N).a6, .int .u64 (W8.of N).a7, .int .u64 (W8.of D).a0, .int .u64 (W8.of D).a1, .int .u64 (W8.of D).a2, .int .u64 (W8.of D).a3, .int .u64 (W8.of D).a4, .int .u64 (W8.of D).a5, .int .u64 (W8.of D).a6, .int .u64 (W8.of D).a7]) ∧ Lat w w') := by
  have hO := shOf_ok n d h0 (by omega) (by omega) (by omega) (by omega)
  go_enter Try.func24, Try.ntmps24
  go_wp2_with fail
  refine name1 (Q := fun W => Calls _ _ _ W _) ?_
  intro W hl hs k4
  refine (hO W).mono ?_
  rintro e w1 ⟨u, v, r, rfl, hq, l1⟩
  have hq1 : u = W8.of N ∧ v = W8.of D := by
    rw [hN, hD] at hq
    have hp := P511_pos
    have h2 : (1000 : Int) < P511 := by decide
    rcases hq with ⟨_, _, _, _, h, h', _⟩ | ⟨h, _⟩
    · exact ⟨h, h'⟩
    · omega
  have K4 := k4.later l1
  have L1 := hl.trans l1
  have hs1 : w.heap.size < w1.heap.size := by have := l1.size; omega
  have HQ := Lib.hid hq1
  clear hq hO k4 hl l1 hs hq1
  go_upto_region 2 with (fail)
  refine name1 (Q := fun W => Code.wp _ _ _ _ W) ?_
  intro U1 m1 hsu k5
  have K5 := K4.later m1
  have M1 := L1.trans m1
  go_wp2_with (first
    | (refine wpList_get rfl 55 (.tmp 5) (by rfl) w1.heap.size (by rfl) k5 _ Try.underlying55 rfl (by kernel_rfl) ?_)
    | (refine wpList_put rfl 55 (.tmp 4) (.tmp 13) (by rfl) (by rfl) w.heap.size (by rfl) #[.int .u64 u.a0, .int .u64 u.a1, .int .u64 u.a2, .int .u64 u.a3, .int .u64 u.a4, .int .u64 u.a5, .int .u64 u.a6, .int .u64 u.a7, .int .u64 v.a0, .int .u64 v.a1, .int .u64 v.a2, .int .u64 v.a3, .int .u64 v.a4, .int .u64 v.a5, .int .u64 v.a6, .int .u64 v.a7] (by rfl) K5 (by rfl) (by kernel_rfl) (by simp [Value.oneCell']) ?_; intro U2 hp2; have M2 := hp2.lat w M1 (Nat.le_refl _); have K6 := hp2.blk))
  have e0 := K6.cell 0
  have e1 := K6.cell 1
  have e2 := K6.cell 2
  have e3 := K6.cell 3
  have e4 := K6.cell 4
  have e5 := K6.cell 5
  have e6 := K6.cell 6
  have e7 := K6.cell 7
  have e8 := K6.cell 8
  have e9 := K6.cell 9
  have e10 := K6.cell 10
  have e11 := K6.cell 11
  have e12 := K6.cell 12
  have e13 := K6.cell 13
  have e14 := K6.cell 14
  have e15 := K6.cell 15
  refine bodyPost_ret (v := .agg #[.int .u64 u.a0, .int .u64 u.a1, .int .u64 u.a2, .int .u64 u.a3, .int .u64 u.a4, .int .u64 u.a5, .int .u64 u.a6, .int .u64 u.a7, .int .u64 v.a0, .int .u64 v.a1, .int .u64 v.a2, .int .u64 v.a3, .int .u64 v.a4, .int .u64 v.a5, .int .u64 v.a6, .int .u64 v.a7]) (by simp [results, Try.results24, go_sem, e0, e1, e2, e3, e4, e5, e6, e7, e8, e9, e10, e11, e12, e13, e14, e15]) rfl ?_
  obtain ⟨rfl, rfl⟩ := HQ.out
  exact ⟨rfl, M2⟩

/-- The least and the greatest wide number. -/
def leastW : W8 := ⟨0, 0, 0, 0, 0, 0, 0, 9223372036854775808⟩
def mostW : W8 := ⟨18446744073709551615, 18446744073709551615, 18446744073709551615, 18446744073709551615, 18446744073709551615, 18446744073709551615, 18446744073709551615, 9223372036854775807⟩
theorem leastW_ok : leastW.ok ∧ leastW.toInt = -P511 := ⟨by intro y hy; simp only [W8.list, leastW, List.mem_cons, List.not_mem_nil, or_false] at hy; rcases hy with rfl | rfl | rfl | rfl | rfl | rfl | rfl | rfl <;> decide, by decide +kernel⟩
theorem mostW_ok : mostW.ok ∧ mostW.toInt = P511 - 1 := ⟨by intro y hy; simp only [W8.list, mostW, List.mem_cons, List.not_mem_nil, or_false] at hy; rcases hy with rfl | rfl | rfl | rfl | rfl | rfl | rfl | rfl <;> decide, by decide +kernel⟩
theorem ckW : widE 0 (P511 - 1) = 0 := by decide +kernel
theorem ckB : belE 0 9223372036854775807 = 0 ∧ 0 ≤ belV 0 9223372036854775807 := by decide +kernel
theorem ckS : (shufOpt 0 400).isSome = true := by decide +kernel
theorem ckS0 : shufOpt 0 0 = some ([], 0) := by decide +kernel
theorem ck16 : widV 0 16 = 15 ∧ widE 0 16 = 0 ∧ widS 0 16 ≠ 0 ∧ widS 0 16 < 18446744073709551616 := by decide +kernel
theorem ckSplit : chSplit 0 0 ≠ 0 ∧ chSplit 0 0 < 18446744073709551616 := by decide +kernel
end Go.Proofs.Ytogkkhaepfablaa
