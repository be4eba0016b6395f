/- Several texts in one: CnA, CnB, CnC. -/
import Derived.Test.YtogkkhaepfablaaChC
import Derived.Test.YtogkkhaepfablaaCwA
import Derived.Test.YtogkkhaepfablaaInv
import Derived.Test.YtogkkhaepfablaaCwD
import Derived.Test.YtogkkhaepfablaaK26

/- Chance: the reference's next number, and another state by a label. -/
namespace Go.Proofs.Ytogkkhaepfablaa
open Go.RowKit
set_option linter.unusedSimpArgs false

/-- The facts of one number, as the reference's walk needs them. -/
structure MixR (s a b c x : Nat) : Prop where
  e0 : IntKind.u64.wrap ((s : Int) + 11400714819323198485) = (a : Int)
  e1 : ∃ y : Int, IntKind.u64.wrap ((a : Int) / 1073741824) = y ∧ IntKind.u64.wrap (bits .xor .u64 (a : Int) y * 13787848793156543929) = (b : Int)
  e2 : ∃ y : Int, IntKind.u64.wrap ((b : Int) / 134217728) = y ∧ IntKind.u64.wrap (bits .xor .u64 (b : Int) y * 10723151780598845931) = (c : Int)
  e3 : ∃ y : Int, IntKind.u64.wrap ((c : Int) / 2147483648) = y ∧ bits .xor .u64 (c : Int) y = (x : Int)
theorem mixR (s : Nat) (hs : s < 18446744073709551616) : MixR s (chStep s) (chM1 (chStep s)) (chM2 (chM1 (chStep s))) (chMix (chStep s)) := by
  obtain ⟨h0, h1, h2, h3⟩ := mixF s hs
  have b1 := chStep_lt s
  have b2 := chM1_lt (chStep s)
  have b3 := chM2_lt (chM1 (chStep s))
  exact ⟨h0, ⟨_, by rw [IntKind.wrap_u64]; exact Int.emod_eq_of_lt (by omega) (by omega), h1⟩, ⟨_, by rw [IntKind.wrap_u64]; exact Int.emod_eq_of_lt (by omega) (by omega), h2⟩, ⟨_, by rw [IntKind.wrap_u64]; exact Int.emod_eq_of_lt (by omega) (by omega), h3⟩⟩

set_option maxRecDepth 100000 in
set_option maxHeartbeats 1000000 in
theorem rNext_in (s a b c x : Nat) (F : MixR s a b c x) (w : World) :
    Calls Try.prog 15 #[.agg #[.int .u64 s]] w (fun e w' => e = .returned (.tuple #[.int .u64 (x : Nat), .agg #[.int .u64 (a : Nat)]]) ∧ Lat w w') := by
  obtain ⟨e0, ⟨y1, f1, e1⟩, ⟨y2, f2, e2⟩, ⟨y3, f3', e3⟩⟩ := F
  go_enter Try.func15, Try.ntmps15
  go_upto_region 1 with (fail)
  refine name2 (Q := fun W => Code.wp _ _ _ _ W) ?_
  intro W1 l1 hs1 k1 k3
  have c1 : W1.cell? ⟨w.heap.size, 0, none⟩ = some (.int .u64 (s : Int)) := k1.cell 0
  have f3 := k3.frozen 0
  have h3 := k3.lt
  have d3 : W1.cell? ⟨w.heap.size + 1, 0, none⟩ = some (.int .u64 0) := k3.cell 0
  go_wp2
  refine name_set (Q := fun W => bodyPost _ _ _ _ _ W) k3 ?_
  intro W2 k5 g1 g2 g3
  have L2 := g3.narrow l1 (by omega)
  have g0 : W2.cell? ⟨w.heap.size + 1, 0, none⟩ = some (.int .u64 (a : Int)) := k5.cell 0
  refine bodyPost_ret (v := .tuple #[.int .u64 (x : Int), .agg #[.int .u64 (a : Int)]]) (by simp [results, Try.results15, go_sem, g0]) rfl ?_
  exact ⟨rfl, L2⟩
def RxC (s x t : Nat) : Prop := ∀ w : World, Calls Try.prog 15 #[.agg #[.int .u64 s]] w (fun e w' => e = .returned (.tuple #[.int .u64 (x : Nat), .agg #[.int .u64 (t : Nat)]]) ∧ Lat w w')
theorem rxC (s : Nat) (hs : s < 18446744073709551616) : RxC s (chMix (chStep s)) (chStep s) := fun w => rNext_in s _ _ _ _ (mixR s hs) w

set_option maxRecDepth 100000 in
set_option maxHeartbeats 1000000 in
theorem rSplit_in (c a x1 t1 b x2 t2 : Nat) (label : Int) (hw : IntKind.u64.wrap label = (a : Int)) (hx : bits .xor .u64 (c : Int) (x1 : Int) = (b : Int)) (H1 : RxC a x1 t1) (H2 : RxC b x2 t2) (w : World) :
    Calls Try.prog 17 #[.agg #[.int .u64 c], .int .i64 label] w (fun e w' => e = .returned (.agg #[.int .u64 (x2 : Nat)]) ∧ Lat w w') := by
  go_enter Try.func17, Try.ntmps17
  go_wp2_with fail
  refine name2 (Q := fun W => Calls _ _ _ W _) ?_
  intro W1 l1 hs1 k1 k2
  refine (H1 W1).mono ?_
  rintro e W2 ⟨rfl, l2⟩
  have k1 := k1.later l2
  have k2 := k2.later l2
  have L2 := l1.trans l2
  have hs2 := l2.size
  clear l1 l2
  have c0 : W2.cell? ⟨w.heap.size, 0, none⟩ = some (.int .u64 (c : Int)) := k1.cell 0
  have d0 : W2.cell? ⟨w.heap.size + 1, 0, none⟩ = some (.int .u64 0) := k2.cell 0
  have e0 := k2.frozen 0
  have lt1 := k1.lt
  have lt2 := k2.lt
  clear k1 hs1
  go_wp2_with fail
  refine name1 (Q := fun W => Calls _ _ _ W _) ?_
  intro W3 l3 hs3 k3
  refine (H2 W3).mono ?_
  rintro e W4 ⟨rfl, l4⟩
  have k2 := k2.later (l3.trans l4)
  have L4 := L2.trans (l3.trans l4)
  clear c0 d0 e0 lt1 lt2 l3 l4 hs3 k3 L2 hs2
  have d0 : W4.cell? ⟨w.heap.size + 1, 0, none⟩ = some (.int .u64 0) := k2.cell 0
  have e0 := k2.frozen 0
  have lt2 := k2.lt
  go_wp2
  refine name_set (Q := fun W => bodyPost _ _ _ _ _ (W.alloc _)) k2 ?_
  intro W5 k5 h1 h2 h3
  have L5 := h3.narrow L4 (by omega)
  clear h3 h2 h1
  refine name1 (Q := fun W => bodyPost _ _ _ _ _ W) ?_
  intro W6 l6 hs6 k6
  have g0 : W6.cell? ⟨w.heap.size + 1, 0, none⟩ = some (.int .u64 (x2 : Int)) := (k5.later l6).cell 0
  refine bodyPost_ret (v := .agg #[.int .u64 (x2 : Int)]) (by simp [results, Try.results17, go_sem, g0]) rfl ?_
  exact ⟨rfl, L5.trans l6⟩
theorem rSplit_any (s : Nat) (hs : s < 18446744073709551616) (label : Int) (w : World) :
    Calls Try.prog 17 #[.agg #[.int .u64 s], .int .i64 label] w (fun e w' => e = .returned (.agg #[.int .u64 (chSplit s (label % 18446744073709551616).toNat : Nat)]) ∧ Lat w w') := by
  obtain ⟨a, ha⟩ := Int.eq_ofNat_of_zero_le (Int.emod_nonneg label (show (18446744073709551616 : Int) ≠ 0 by decide))
  have ha2 : a < 18446744073709551616 := by have := Int.emod_lt_of_pos label (show (0 : Int) < 18446744073709551616 by decide); omega
  rw [ha, Int.toNat_natCast]
  have hx := chMix_lt (chStep a)
  exact rSplit_in s a _ _ _ _ _ label (by rw [IntKind.wrap_u64, ha]) (bits_xor_u64_nat _ _ hs hx) (rxC a ha2) (rxC _ (Nat.xor_lt_two_pow (n := 64) hs hx)) w
end Go.Proofs.Ytogkkhaepfablaa

/- Chance: the law of the numbers and the states. -/
namespace Go.Proofs.Ytogkkhaepfablaa
open Go.RowKit Go.Shelf
set_option linter.unusedSimpArgs false

noncomputable def cn7_rows (x c d p : Nat) (label : Int) : List SRow := [
  ⟨Op.move (Operand.tmp 5), some 23, none, [], fun v _ => v = .int .u64 (x : Nat)⟩,
  ⟨Op.move (Operand.tmp 7), some 24, none, [], fun v _ => v = .int .u64 (x : Nat)⟩,
  ⟨Op.binOp BinOp.neq 22 (Operand.tmp 23) (Operand.tmp 24) 22, some 25, none, [0, 1], fun v _ => v = .bool false⟩,
  ⟨Op.move (Operand.tmp 25), some 26, none, [2], fun v _ => v = .bool false⟩,
  ⟨Op.load 24 (Operand.tmp 6), some 27, some (3, false), [3], fun v _ => v = .agg #[.int .u64 (d : Nat)]⟩,
  ⟨Op.load 24 (Operand.tmp 8), some 28, some (3, false), [3], fun v _ => v = .agg #[.int .u64 (d : Nat)]⟩,
  ⟨Op.binOp BinOp.neq 24 (Operand.tmp 27) (Operand.tmp 28) 24, some 29, some (3, false), [4, 5, 3], fun v _ => v = .bool false⟩,
  ⟨Op.pick (Operand.tmp 26) (Operand.const (Value.bool true)) (Operand.tmp 29), some 30, none, [3, 6], fun v _ => v = .bool false⟩,
  ⟨Op.move (Operand.tmp 30), some 31, none, [7, 3], fun v _ => v = .bool false⟩,
  ⟨Op.load 24 (Operand.tmp 2), some 32, some (8, false), [8], fun v _ => v = .agg #[.int .u64 (c : Nat)]⟩,
  ⟨Op.move (Operand.tmp 1), some 33, some (8, false), [8], fun v _ => v = .int .i64 label⟩,
  ⟨Op.call { callee := Callee.value (Operand.func 16), args := #[Operand.tmp 32, Operand.tmp 33], argTypes := #[24, 3] }, some 34, some (8, false), [9, 10, 8, 8], fun v _ => v = .agg #[.int .u64 (p : Nat)]⟩,
  ⟨Op.load 24 (Operand.tmp 2), some 35, some (8, false), [8], fun v _ => v = .agg #[.int .u64 (c : Nat)]⟩,
  ⟨Op.move (Operand.tmp 1), some 36, some (8, false), [8], fun v _ => v = .int .i64 label⟩,
  ⟨Op.call { callee := Callee.value (Operand.func 17), args := #[Operand.tmp 35, Operand.tmp 36], argTypes := #[24, 3] }, some 37, some (8, false), [12, 13, 11, 8], fun v _ => v = .agg #[.int .u64 (p : Nat)]⟩,
  ⟨Op.binOp BinOp.neq 24 (Operand.tmp 34) (Operand.tmp 37) 24, some 38, some (8, false), [11, 14, 8], fun v _ => v = .bool false⟩,
  ⟨Op.pick (Operand.tmp 31) (Operand.const (Value.bool true)) (Operand.tmp 38), some 39, none, [8, 15], fun v _ => v = .bool false⟩]
noncomputable def cn7_base (x g2 g6 g8 k c0 : Nat) (label : Int) : List (Nat × Value) := [(5, .int .u64 (x : Nat)), (7, .int .u64 (x : Nat)), (6, .pointer (some ⟨g6, 0, none⟩)), (8, .pointer (some ⟨g8, 0, none⟩)), (2, .pointer (some ⟨g2, 0, none⟩)), (1, .int .i64 label), (11, .int .i64 (k : Nat)), (0, .agg #[.int .u64 (c0 : Nat)]), (3, undef), (9, .bool true), (10, .bool false)]

set_option maxRecDepth 100000 in
set_option maxHeartbeats 4000000 in
theorem cn7_steps (V : World) (x c d p g2 g6 g8 k c0 : Nat) (label : Int) (R2 : ∀ w', Lat V w' → w'.rangeAt g2 0 [.int .u64 (c : Nat)]) (R6 : ∀ w', Lat V w' → w'.rangeAt g6 0 [.int .u64 (d : Nat)]) (R8 : ∀ w', Lat V w' → w'.rangeAt g8 0 [.int .u64 (d : Nat)])
    (J24 : (Try.prog.info? 24).map (·.size) = some 1) (hgd24 : Hid (Try.prog.eqGuardType Try.prog.depth 24 = false))
    (HD : Hid (∀ w, (binOp .neq 24 (.agg #[.int .u64 (d : Nat)]) (.agg #[.int .u64 (d : Nat)])).run Try.prog w = .ok (.bool false) w)) (HP : Hid (∀ w, (binOp .neq 24 (.agg #[.int .u64 (p : Nat)]) (.agg #[.int .u64 (p : Nat)])).run Try.prog w = .ok (.bool false) w))
    (HS1 : ∀ w, Calls Try.prog 16 #[.agg #[.int .u64 c], .int .i64 label] w (fun e w' => e = .returned (.agg #[.int .u64 (p : Nat)]) ∧ Lat w w')) (HS2 : ∀ w, Calls Try.prog 17 #[.agg #[.int .u64 c], .int .i64 label] w (fun e w' => e = .returned (.agg #[.int .u64 (p : Nat)]) ∧ Lat w w')) :
    AllSteps Try.prog (cn7_rows x c d p label) (cn7_base x g2 g6 g8 k c0 label) V (cn7_rows x c d p label) := by
  refine AllSteps.next (fun _ _ _ h _ => h) (fun j b h => by cases h) (fun a w hl hb hd o ho => by have e1 := hb 5 _ rfl; exact Runs.val (yv_move (S := fun _ => True) e1 o w ho trivial) ⟨Lat.refl _, fun _ => rfl⟩) ?_
  refine AllSteps.next (fun _ _ _ h _ => h) (fun j b h => by cases h) (fun a w hl hb hd o ho => by have e1 := hb 7 _ rfl; exact Runs.val (yv_move (S := fun _ => True) e1 o w ho trivial) ⟨Lat.refl _, fun _ => rfl⟩) ?_
  refine AllSteps.next (fun _ _ _ h _ => h) (fun j b h => by cases h) (fun a w hl hb hd o ho => by obtain ⟨v1, e1, q1⟩ := hd 0 _ _ (by simp) rfl rfl; obtain ⟨v2, e2, q2⟩ := hd 1 _ _ (by simp) rfl rfl; subst q1; subst q2; obtain ⟨d, op, ty, p, af, g⟩ := o; simp only at ho; subst ho; exact Runs.val (by unfold execOp; generalize a.eval = ev at e1 e2 ⊢; simp only [e1, e2]; go_simp) ⟨Lat.refl _, fun _ => rfl⟩) ?_
  refine AllSteps.next (fun _ _ _ h _ => h) (fun j b h => by cases h) (fun a w hl hb hd o ho => by obtain ⟨v1, e1, q1⟩ := hd 2 _ _ (by simp) rfl rfl; subst q1; exact Runs.val (yv_move (S := fun _ => True) e1 o w ho trivial) ⟨Lat.refl _, fun _ => rfl⟩) ?_
  refine AllSteps.next (fun _ _ _ h _ => h) (fun j b h => by cases h; exact ⟨_, rfl, ⟨_, rfl⟩, by simp, fun _ _ h => h⟩) (fun a w hl hb hd o ho => by have e1 := hb 6 _ rfl; exact Runs.val (yv_load (S := Lat V) e1 R6 Try.underlying24 rfl J24 o w ho hl) ⟨Lat.refl _, fun _ => rfl⟩) ?_
  refine AllSteps.next (fun _ _ _ h _ => h) (fun j b h => by cases h; exact ⟨_, rfl, ⟨_, rfl⟩, by simp, fun _ _ h => h⟩) (fun a w hl hb hd o ho => by have e1 := hb 8 _ rfl; exact Runs.val (yv_load (S := Lat V) e1 R8 Try.underlying24 rfl J24 o w ho hl) ⟨Lat.refl _, fun _ => rfl⟩) ?_
  refine AllSteps.next (fun _ _ _ h _ => h) (fun j b h => by cases h; exact ⟨_, rfl, ⟨_, rfl⟩, by simp, fun _ _ h => h⟩) (fun a w hl hb hd o ho => by obtain ⟨v1, e1, q1⟩ := hd 4 _ _ (by simp) rfl rfl; obtain ⟨v2, e2, q2⟩ := hd 5 _ _ (by simp) rfl rfl; subst q1; subst q2; exact Runs.val (yv_bin (S := fun _ => True) e1 e2 hgd24.out HD.out o w ho trivial) ⟨Lat.refl _, fun _ => rfl⟩) ?_
  refine AllSteps.next (fun _ _ _ h _ => h) (fun j b h => by cases h) (fun a w hl hb hd o ho => by obtain ⟨v1, e1, q1⟩ := hd 3 _ _ (by simp) rfl rfl; obtain ⟨v2, e2, q2⟩ := hd 6 _ _ (by simp) rfl rfl; subst q1; subst q2; exact Runs.val (yv_pickN (S := fun _ => True) e1 e2 o w ho trivial) ⟨Lat.refl _, fun _ => rfl⟩) ?_
  refine AllSteps.next (fun _ _ _ h _ => h) (fun j b h => by cases h) (fun a w hl hb hd o ho => by obtain ⟨v1, e1, q1⟩ := hd 7 _ _ (by simp) rfl rfl; subst q1; exact Runs.val (yv_move (S := fun _ => True) e1 o w ho trivial) ⟨Lat.refl _, fun _ => rfl⟩) ?_
  refine AllSteps.next (fun _ _ _ h _ => h) (fun j b h => by cases h; exact ⟨_, rfl, ⟨_, rfl⟩, by simp, fun _ _ h => h⟩) (fun a w hl hb hd o ho => by have e1 := hb 2 _ rfl; exact Runs.val (yv_load (S := Lat V) e1 R2 Try.underlying24 rfl J24 o w ho hl) ⟨Lat.refl _, fun _ => rfl⟩) ?_
  refine AllSteps.next (fun _ _ _ h _ => h) (fun j b h => by cases h; exact ⟨_, rfl, ⟨_, rfl⟩, by simp, fun _ _ h => h⟩) (fun a w hl hb hd o ho => by have e1 := hb 1 _ rfl; exact Runs.val (yv_move (S := fun _ => True) e1 o w ho trivial) ⟨Lat.refl _, fun _ => rfl⟩) ?_
  refine AllSteps.next (fun _ _ _ h _ => h) (fun j b h => by cases h; exact ⟨_, rfl, ⟨_, rfl⟩, by simp, fun _ _ h => h⟩) (fun a w hl hb hd o ho => by obtain ⟨v1, e1, q1⟩ := hd 9 _ _ (by simp) rfl rfl; subst q1; obtain ⟨v2, e2, q2⟩ := hd 10 _ _ (by simp) rfl rfl; subst q2; exact Runs.call (yv_call (f := 16) (fun _ => by go_simp) o ho (by simp only [List.map_toArray, List.map_cons, List.map_nil, eval_const, e1, e2])) ((HS1 w).mono fun e w' h => ⟨_, h.1, h.2, fun _ => rfl⟩)) ?_
  refine AllSteps.next (fun _ _ _ h _ => h) (fun j b h => by cases h; exact ⟨_, rfl, ⟨_, rfl⟩, by simp, fun _ _ h => h⟩) (fun a w hl hb hd o ho => by have e1 := hb 2 _ rfl; exact Runs.val (yv_load (S := Lat V) e1 R2 Try.underlying24 rfl J24 o w ho hl) ⟨Lat.refl _, fun _ => rfl⟩) ?_
  refine AllSteps.next (fun _ _ _ h _ => h) (fun j b h => by cases h; exact ⟨_, rfl, ⟨_, rfl⟩, by simp, fun _ _ h => h⟩) (fun a w hl hb hd o ho => by have e1 := hb 1 _ rfl; exact Runs.val (yv_move (S := fun _ => True) e1 o w ho trivial) ⟨Lat.refl _, fun _ => rfl⟩) ?_
  refine AllSteps.next (fun _ _ _ h _ => h) (fun j b h => by cases h; exact ⟨_, rfl, ⟨_, rfl⟩, by simp, fun _ _ h => h⟩) (fun a w hl hb hd o ho => by obtain ⟨v1, e1, q1⟩ := hd 12 _ _ (by simp) rfl rfl; subst q1; obtain ⟨v2, e2, q2⟩ := hd 13 _ _ (by simp) rfl rfl; subst q2; exact Runs.call (yv_call (f := 17) (fun _ => by go_simp) o ho (by simp only [List.map_toArray, List.map_cons, List.map_nil, eval_const, e1, e2])) ((HS2 w).mono fun e w' h => ⟨_, h.1, h.2, fun _ => rfl⟩)) ?_
  refine AllSteps.next (fun _ _ _ h _ => h) (fun j b h => by cases h; exact ⟨_, rfl, ⟨_, rfl⟩, by simp, fun _ _ h => h⟩) (fun a w hl hb hd o ho => by obtain ⟨v1, e1, q1⟩ := hd 11 _ _ (by simp) rfl rfl; obtain ⟨v2, e2, q2⟩ := hd 14 _ _ (by simp) rfl rfl; subst q1; subst q2; exact Runs.val (yv_bin (S := fun _ => True) e1 e2 hgd24.out HP.out o w ho trivial) ⟨Lat.refl _, fun _ => rfl⟩) ?_
  refine AllSteps.next (fun _ _ _ h _ => h) (fun j b h => by cases h) (fun a w hl hb hd o ho => by obtain ⟨v1, e1, q1⟩ := hd 8 _ _ (by simp) rfl rfl; obtain ⟨v2, e2, q2⟩ := hd 15 _ _ (by simp) rfl rfl; subst q1; subst q2; exact Runs.val (yv_pickN (S := fun _ => True) e1 e2 o w ho trivial) ⟨Lat.refl _, fun _ => rfl⟩) ?_
  exact AllSteps.none

theorem peel {l : List Value} {n : Nat} (h : l.length = n + 1) : ∃ t l', l = t :: l' ∧ l'.length = n := by
  cases l with
  | nil => simp at h
  | cons t l => exact ⟨t, l, rfl, by simpa using h⟩
theorem arr42 (T : Array Value) (h : T.size = 42) : ∃ t0 t1 t2 t3 t4 t5 t6 t7 t8 t9 t10 t11 t12 t13 t14 t15 t16 t17 t18 t19 t20 t21 t22 t23 t24 t25 t26 t27 t28 t29 t30 t31 t32 t33 t34 t35 t36 t37 t38 t39 t40 t41, T = #[t0, t1, t2, t3, t4, t5, t6, t7, t8, t9, t10, t11, t12, t13, t14, t15, t16, t17, t18, t19, t20, t21, t22, t23, t24, t25, t26, t27, t28, t29, t30, t31, t32, t33, t34, t35, t36, t37, t38, t39, t40, t41] := by
  obtain ⟨l⟩ := T
  have h : l.length = 42 := h
  obtain ⟨t0, l0, e0, h0⟩ := peel h
  obtain ⟨t1, l1, e1, h1⟩ := peel h0
  obtain ⟨t2, l2, e2, h2⟩ := peel h1
  obtain ⟨t3, l3, e3, h3⟩ := peel h2
  obtain ⟨t4, l4, e4, h4⟩ := peel h3
  obtain ⟨t5, l5, e5, h5⟩ := peel h4
  obtain ⟨t6, l6, e6, h6⟩ := peel h5
  obtain ⟨t7, l7, e7, h7⟩ := peel h6
  obtain ⟨t8, l8, e8, h8⟩ := peel h7
  obtain ⟨t9, l9, e9, h9⟩ := peel h8
  obtain ⟨t10, l10, e10, h10⟩ := peel h9
  obtain ⟨t11, l11, e11, h11⟩ := peel h10
  obtain ⟨t12, l12, e12, h12⟩ := peel h11
  obtain ⟨t13, l13, e13, h13⟩ := peel h12
  obtain ⟨t14, l14, e14, h14⟩ := peel h13
  obtain ⟨t15, l15, e15, h15⟩ := peel h14
  obtain ⟨t16, l16, e16, h16⟩ := peel h15
  obtain ⟨t17, l17, e17, h17⟩ := peel h16
  obtain ⟨t18, l18, e18, h18⟩ := peel h17
  obtain ⟨t19, l19, e19, h19⟩ := peel h18
  obtain ⟨t20, l20, e20, h20⟩ := peel h19
  obtain ⟨t21, l21, e21, h21⟩ := peel h20
  obtain ⟨t22, l22, e22, h22⟩ := peel h21
  obtain ⟨t23, l23, e23, h23⟩ := peel h22
  obtain ⟨t24, l24, e24, h24⟩ := peel h23
  obtain ⟨t25, l25, e25, h25⟩ := peel h24
  obtain ⟨t26, l26, e26, h26⟩ := peel h25
  obtain ⟨t27, l27, e27, h27⟩ := peel h26
  obtain ⟨t28, l28, e28, h28⟩ := peel h27
  obtain ⟨t29, l29, e29, h29⟩ := peel h28
  obtain ⟨t30, l30, e30, h30⟩ := peel h29
  obtain ⟨t31, l31, e31, h31⟩ := peel h30
  obtain ⟨t32, l32, e32, h32⟩ := peel h31
  obtain ⟨t33, l33, e33, h33⟩ := peel h32
  obtain ⟨t34, l34, e34, h34⟩ := peel h33
  obtain ⟨t35, l35, e35, h35⟩ := peel h34
  obtain ⟨t36, l36, e36, h36⟩ := peel h35
  obtain ⟨t37, l37, e37, h37⟩ := peel h36
  obtain ⟨t38, l38, e38, h38⟩ := peel h37
  obtain ⟨t39, l39, e39, h39⟩ := peel h38
  obtain ⟨t40, l40, e40, h40⟩ := peel h39
  obtain ⟨t41, l41, e41, h41⟩ := peel h40
  have e42 := List.eq_nil_of_length_eq_zero h41
  subst e42 e41 e40 e39 e38 e37 e36 e35 e34 e33 e32 e31 e30 e29 e28 e27 e26 e25 e24 e23 e22 e21 e20 e19 e18 e17 e16 e15 e14 e13 e12 e11 e10 e9 e8 e7 e6 e5 e4 e3 e2 e1 e0
  exact ⟨_, _, _, _, _, _, _, _, _, _, _, _, _, _, _, _, _, _, _, _, _, _, _, _, _, _, _, _, _, _, _, _, _, _, _, _, _, _, _, _, _, _, rfl⟩

/-- One round of the law, with its numbers. -/
structure CnR (c x d p : Nat) (label : Int) : Prop where
  n1 : NxC c x d
  n2 : RxC c x d
  s1 : ∀ w, Calls Try.prog 16 #[.agg #[.int .u64 c], .int .i64 label] w (fun e w' => e = .returned (.agg #[.int .u64 (p : Nat)]) ∧ Lat w w')
  s2 : ∀ w, Calls Try.prog 17 #[.agg #[.int .u64 c], .int .i64 label] w (fun e w' => e = .returned (.agg #[.int .u64 (p : Nat)]) ∧ Lat w w')
  hd : Hid (∀ w, (binOp .neq 24 (.agg #[.int .u64 (d : Nat)]) (.agg #[.int .u64 (d : Nat)])).run Try.prog w = .ok (.bool false) w)
  hp : Hid (∀ w, (binOp .neq 24 (.agg #[.int .u64 (p : Nat)]) (.agg #[.int .u64 (p : Nat)])).run Try.prog w = .ok (.bool false) w)
  lt : d < 18446744073709551616
theorem chance_ne (d : Nat) (h : d < 18446744073709551616) : Hid (∀ w, (binOp .neq 24 (.agg #[.int .u64 (d : Nat)]) (.agg #[.int .u64 (d : Nat)])).run Try.prog w = .ok (.bool false) w) := fun w => by
  have h := chance_neq (s := (d : Int)) (t := (d : Int)) ⟨by omega, by unfold W64; omega⟩ ⟨by omega, by unfold W64; omega⟩ w
  rw [decide_eq_true rfl] at h
  exact h
theorem cnR (label : Int) (c : Nat) (hc : c < 18446744073709551616) : ∃ x d p : Nat, CnR c x d p label :=
  ⟨_, _, _, nxC c hc, rxC c hc, cSplit_any c hc label, rSplit_any c hc label, chance_ne _ (chStep_lt c), chance_ne _ (chMix_lt _), chStep_lt c⟩

set_option maxRecDepth 100000 in
set_option maxHeartbeats 4000000 in
theorem cNextLaw_from (HWK : ∀ w, Calls Try.prog 8 #[] w (fun e w' => e = .returned (.bool true) ∧ Lat w w')) (c0 : Nat) (hc0 : c0 < 18446744073709551616) (label : Int) (w : World) :
    Calls Try.prog 5 #[.agg #[.int .u64 (c0 : Nat)], .int .i64 label] w (fun e w' => e = .returned (.bool true) ∧ Lat w w') := by
  have HR := cnR label
  go_enter Try.func5, Try.ntmps5
  go_upto_region 1 with (fail)
  refine name1 (Q := fun W => Code.wp _ _ _ _ W) ?_
  intro W1 l1 hs1 k2
  obtain ⟨g2, hg2⟩ : ∃ z, w.heap.size = z := ⟨_, rfl⟩
  rw [hg2] at k2 hs1 ⊢
  go_wp2_with fail
  refine (HWK W1).mono ?_
  rintro e W2 ⟨rfl, l2⟩
  replace k2 := k2.later l2
  have L2 := l1.trans l2
  clear l1 l2 HWK hs1
  go_wp2_with fail
  go_loopw [11] (fun i wr => ∃ k c : Nat, k ≤ 5 ∧ i = .int .i64 k ∧ c < 18446744073709551616 ∧ Blk wr g2 24 #[.int .u64 (c : Nat)] ∧ Lat w wr) (fun i _ => 5 - (intOf i).toNat)
  case atStart => exact ⟨0, c0, by omega, rfl, hc0, k2, L2⟩
  case round =>
    obtain ⟨k, c, hk, rfl, hc, k2, L2⟩ := hrel
    by_cases hlt : k < 5
    · obtain ⟨x, d, p, hCN⟩ := HR c hc
      obtain ⟨n1, n2, s1, s2, hd, hp, hdl⟩ := hCN
      have N1 := Lib.hid n1
      have N2 := Lib.hid n2
      have S1 := Lib.hid s1
      have S2 := Lib.hid s2
      clear n1 n2 s1 s2 HR hc
      have hltI : (k : Int) < 5 := by omega
      have c2 : wr.cell? ⟨g2, 0, none⟩ = some (.int .u64 (c : Int)) := k2.cell 0
      go_wp2_with fail
      refine (N1.out wr).mono ?_
      rintro e V1 ⟨rfl, l1⟩
      replace k2 := k2.later l1
      have L3 := L2.trans l1
      clear l1 L2 c2 N1
      go_upto_region 6 with (fail)
      refine name1 (Q := fun W => Code.wp _ _ _ _ W) ?_
      intro V2 l2 hs2 k6
      replace k2 := k2.later l2
      have L4 := L3.trans l2
      clear l2 L3
      obtain ⟨g6, hg6⟩ : ∃ z, V1.heap.size = z := ⟨_, rfl⟩
      rw [hg6] at k6 hs2 ⊢
      clear hg6
      have c2 : V2.cell? ⟨g2, 0, none⟩ = some (.int .u64 (c : Int)) := k2.cell 0
      go_wp2_with fail
      refine (N2.out V2).mono ?_
      rintro e V3 ⟨rfl, l3⟩
      replace k2 := k2.later l3
      replace k6 := k6.later l3
      have L5 := L4.trans l3
      clear l3 L4 c2 N2 hs2
      go_upto_region 7 with (fail)
      refine name1 (Q := fun W => Code.wp _ _ _ _ W) ?_
      intro V4 l4 hs4 k8
      replace k2 := k2.later l4
      replace k6 := k6.later l4
      have L6 := L5.trans l4
      clear l4 L5
      obtain ⟨g8, hg8⟩ : ∃ z, V3.heap.size = z := ⟨_, rfl⟩
      rw [hg8] at k8 hs4 ⊢
      clear hg8
      rename_i K7 hK7
      have R2 : ∀ w', Lat V4 w' → w'.rangeAt g2 0 [.int .u64 (c : Nat)] := fun w' h => Blk.rangeAll (l := [.int .u64 (c : Nat)]) (k2.later h)
      have R6 : ∀ w', Lat V4 w' → w'.rangeAt g6 0 [.int .u64 (d : Nat)] := fun w' h => Blk.rangeAll (l := [.int .u64 (d : Nat)]) (k6.later h)
      have R8 : ∀ w', Lat V4 w' → w'.rangeAt g8 0 [.int .u64 (d : Nat)] := fun w' h => Blk.rangeAll (l := [.int .u64 (d : Nat)]) (k8.later h)
      have J24 : (Try.prog.info? 24).map (·.size) = some 1 := by kernel_rfl
      have hgd24 : Hid (Try.prog.eqGuardType Try.prog.depth 24 = false) := by show _ = _; kernel_rfl
      refine wp_region_slots (cn7_rows x c d p label) (cn7_base x g2 g6 g8 k c0 label) 42 17 [[], [], [0, 1], [2], [3], [3], [4, 5, 3], [3, 6], [7, 3], [8], [8], [9, 10, 8, 8], [8], [8], [12, 13, 11, 8], [11, 14, 8], [8, 15]] (by kernel_rfl) (by kernel_rfl) (by kernel_rfl) (by kernel_rfl) (by kernel_rfl) (by kernel_rfl) (by rfl) rfl ?_ ?_ ?_
      ·
        exact base_of (base_cons (by rfl) (base_cons (by rfl) (base_cons (by rfl) (base_cons (by rfl) (base_cons (by rfl) (base_cons (by rfl) (base_cons (by rfl) (base_cons (by rfl) (base_cons (by rfl) (base_cons (by rfl) (base_cons (by rfl) (base_nil _))))))))))))
      · exact cn7_steps V4 x c d p g2 g6 g8 k c0 label R2 R6 R8 J24 hgd24 hd hp S1.out S2.out
      · intro a W hsz hdf hL hba hsl
        obtain ⟨v, h0, hv⟩ := hsl 16 _ _ rfl rfl
        have hv' : v = .bool false := hv
        subst hv'
        refine hK7 _ _ ?_
        obtain ⟨T, df⟩ := a
        obtain rfl : df = [] := hdf
        have p6 := hba 6 _ rfl
        have p2 := hba 2 _ rfl
        have p11 := hba 11 _ rfl
        have p0 := hba 0 _ rfl
        have p1 := hba 1 _ rfl
        have p3 := hba 3 _ rfl
        have p9 := hba 9 _ rfl
        have p10 := hba 10 _ rfl
        obtain ⟨t0, t1, t2, t3, t4, t5, t6, t7, t8, t9, t10, t11, t12, t13, t14, t15, t16, t17, t18, t19, t20, t21, t22, t23, t24, t25, t26, t27, t28, t29, t30, t31, t32, t33, t34, t35, t36, t37, t38, t39, t40, t41, rfl⟩ := arr42 T hsz
        obtain rfl : t39 = .bool false := Option.some.inj h0
        obtain rfl : t6 = .pointer (some ⟨g6, 0, none⟩) := Option.some.inj p6
        obtain rfl : t2 = .pointer (some ⟨g2, 0, none⟩) := Option.some.inj p2
        obtain rfl : t11 = .int .i64 (k : Nat) := Option.some.inj p11
        obtain rfl : t0 = .agg #[.int .u64 (c0 : Nat)] := Option.some.inj p0
        obtain rfl : t1 = .int .i64 label := Option.some.inj p1
        obtain rfl : t3 = undef := Option.some.inj p3
        obtain rfl : t9 = .bool true := Option.some.inj p9
        obtain rfl : t10 = .bool false := Option.some.inj p10
        replace k2 := k2.later hL
        replace k6 := k6.later hL
        have L7 := L6.trans hL
        clear L6 hsl hv h0 hba p6 p2 p11 p0 p1 p3 p9 p10 hsz hL R2 R6 R8 hK7 k8 hs4 hd hp S1 S2
        have c6 : W.cell? ⟨g6, 0, none⟩ = some (.int .u64 (d : Int)) := k6.cell 0
        have c2 : W.cell? ⟨g2, 0, none⟩ = some (.int .u64 (c : Int)) := k2.cell 0
        have f2 := k2.frozen 0
        have h2 := k2.lt
        go_wp2
        refine ⟨⟨k + 1, d, by omega, by simp, hdl, ?_, L7.setCell (p := ⟨g2, 0, none⟩) (by rw [← hg2]; exact Nat.le_refl _) _⟩, by simp [intOf]; omega⟩
        have := k2.set 0 (.int .u64 (d : Nat))
        simpa using this
    · obtain rfl : k = 5 := by omega
      clear HR hg2
      go_wp2
      go_ret
      exact ⟨rfl, L2⟩
end Go.Proofs.Ytogkkhaepfablaa

/- Chance: the law of the numbers and the states, joined. -/
namespace Go.Proofs.Ytogkkhaepfablaa
open Go.RowKit

theorem cNextLaw_any (s label : Int) (w : World) (h0 : 0 ≤ s) (h1 : s < 18446744073709551616) :
    Calls Try.prog 5 #[.agg #[.int .u64 s], .int .i64 label] w (fun e w' => e = .returned (.bool true) ∧ Lat w w') := by
  obtain ⟨n, rfl⟩ := Int.eq_ofNat_of_zero_le h0
  exact cNextLaw_from works_any n (by omega) label w
end Go.Proofs.Ytogkkhaepfablaa
