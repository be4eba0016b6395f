
/- Chance: another state by a label; the candidates. -/
import Derived.Test.YtogkkhaepfablaaChB
import Derived.RangeFuncGives
import Derived.LoopNIn
import Derived.LoopIn
import Derived.TacticsInMore
import Derived.WalkMore
namespace Go.Proofs.Ytogkkhaepfablaa
open Go.RowKit
set_option linter.unusedSimpArgs false

def NxC (s x t : Nat) : Prop := ∀ w : World, Calls Try.prog 13 #[.agg #[.int .u64 s]] w (fun e w' => e = .returned (.tuple #[.int .u64 (x : Nat), .agg #[.int .u64 (t : Nat)]]) ∧ Lat w w')

set_option maxRecDepth 100000 in
set_option maxHeartbeats 1000000 in
theorem split_in (c a x1 t1 b x2 t2 : Nat) (label : Int) (hw : IntKind.u64.wrap label = (a : Int)) (hx : bits .xor .u64 (c : Int) (x1 : Int) = (b : Int)) (H1 : NxC a x1 t1) (H2 : NxC b x2 t2) (w : World) :
    Calls Try.prog 16 #[.agg #[.int .u64 c], .int .i64 label] w (fun e w' => e = .returned (.agg #[.int .u64 (x2 : Nat)]) ∧ Lat w w') := by
  go_enter Try.func16, Try.ntmps16
  go_wp2_with fail
  refine name2 (Q := fun W => Calls _ _ _ W _) ?_
  intro W1 l1 hs1 k1 k2
  refine (H1 W1).mono ?_
  rintro e W2 ⟨rfl, l2⟩
  have k1 := k1.later l2
  have k2 := k2.later l2
  have L2 := l1.trans l2
  have hs2 := l2.size
  clear l1 l2
  have c0 : W2.cell? ⟨w.heap.size, 0, none⟩ = some (.int .u64 (c : Int)) := k1.cell 0
  have d0 : W2.cell? ⟨w.heap.size + 1, 0, none⟩ = some (.int .u64 0) := k2.cell 0
  have e0 := k2.frozen 0
  have lt1 := k1.lt
  have lt2 := k2.lt
  clear k1 hs1
  go_wp2_with fail
  refine name1 (Q := fun W => Calls _ _ _ W _) ?_
  intro W3 l3 hs3 k3
  refine (H2 W3).mono ?_
  rintro e W4 ⟨rfl, l4⟩
  have k2 := k2.later (l3.trans l4)
  have L4 := L2.trans (l3.trans l4)
  clear c0 d0 e0 lt1 lt2 l3 l4 hs3 k3 L2 hs2
  have d0 : W4.cell? ⟨w.heap.size + 1, 0, none⟩ = some (.int .u64 0) := k2.cell 0
  have e0 := k2.frozen 0
  have lt2 := k2.lt
  go_wp2
  refine name_set (Q := fun W => bodyPost _ _ _ _ _ (W.alloc _)) k2 ?_
  intro W5 k5 h1 h2 h3
  have L5 := h3.narrow L4 (by omega)
  clear h3 h2 h1
  refine name1 (Q := fun W => bodyPost _ _ _ _ _ W) ?_
  intro W6 l6 hs6 k6
  have g0 : W6.cell? ⟨w.heap.size + 1, 0, none⟩ = some (.int .u64 (x2 : Int)) := (k5.later l6).cell 0
  refine bodyPost_ret (v := .agg #[.int .u64 (x2 : Int)]) (by simp [results, Try.results16, go_sem, g0]) rfl ?_
  exact ⟨rfl, L5.trans l6⟩
theorem nxC (s : Nat) (hs : s < 18446744073709551616) : NxC s (chMix (chStep s)) (chStep s) := fun w => cNext_any s hs w
/-- The state that a label leads to. -/
def chSplit (s a : Nat) : Nat := chMix (chStep (s ^^^ chMix (chStep a)))
theorem cSplit_any (s : Nat) (hs : s < 18446744073709551616) (label : Int) (w : World) :
    Calls Try.prog 16 #[.agg #[.int .u64 s], .int .i64 label] w (fun e w' => e = .returned (.agg #[.int .u64 (chSplit s (label % 18446744073709551616).toNat : Nat)]) ∧ Lat w w') := by
  obtain ⟨a, ha⟩ := Int.eq_ofNat_of_zero_le (Int.emod_nonneg label (show (18446744073709551616 : Int) ≠ 0 by decide))
  have ha2 : a < 18446744073709551616 := by have := Int.emod_lt_of_pos label (show (0 : Int) < 18446744073709551616 by decide); omega
  rw [ha, Int.toNat_natCast]
  have hx := chMix_lt (chStep a)
  exact split_in s a _ _ _ _ _ label (by rw [IntKind.wrap_u64, ha]) (bits_xor_u64_nat _ _ hs hx) (nxC a ha2) (nxC _ (Nat.xor_lt_two_pow (n := 64) hs hx)) w

end Go.Proofs.Ytogkkhaepfablaa
