
/- Chance: works answers true, in every world. -/
import Derived.Test.YtogkkhaepfablaaCwC
import Derived.Test.YtogkkhaepfablaaK29
namespace Go.Proofs.Ytogkkhaepfablaa
open Go.RowKit Go.Shelf
set_option linter.unusedSimpArgs false
set_option linter.unusedVariables false

/-- One half, in a slot. -/
def QV (v : Value) (_w : World) : Prop := ∃ a b : W8, v = .agg #[.int .u64 a.a0, .int .u64 a.a1, .int .u64 a.a2, .int .u64 a.a3, .int .u64 a.a4, .int .u64 a.a5, .int .u64 a.a6, .int .u64 a.a7, .int .u64 b.a0, .int .u64 b.a1, .int .u64 b.a2, .int .u64 b.a3, .int .u64 b.a4, .int .u64 b.a5, .int .u64 b.a6, .int .u64 b.a7] ∧ a.ok ∧ b.ok ∧ a.toInt = 1 ∧ b.toInt = 2
theorem QV.mono {v : Value} {w w' : World} (h : QV v w) (_hl : Lat w w') : QV v w' := h
theorem QV.run {w w' : World} {e : Ending} {d : Prop} (h : ∃ u v : W8, e = .returned (.agg #[.int .u64 u.a0, .int .u64 u.a1, .int .u64 u.a2, .int .u64 u.a3, .int .u64 u.a4, .int .u64 u.a5, .int .u64 u.a6, .int .u64 u.a7, .int .u64 v.a0, .int .u64 v.a1, .int .u64 v.a2, .int .u64 v.a3, .int .u64 v.a4, .int .u64 v.a5, .int .u64 v.a6, .int .u64 v.a7]) ∧ u.ok ∧ v.ok ∧ u.toInt = 1 ∧ v.toInt = 2 ∧ Lat w w') : ∃ v, e = .returned v ∧ (Lat w w' ∧ (d → QV v w')) := by
  obtain ⟨u, v, e, h1, h2, h3, h4, hl⟩ := h
  exact ⟨_, e, hl, fun _ => ⟨u, v, rfl, h1, h2, h3, h4⟩⟩
theorem spell171 (T : Array Value) (h : T.size = 171) : ∃ f : Nat → Value, (∀ k, f k = T.getD k undef) ∧ T = #[f 0, f 1, f 2, f 3, f 4, f 5, f 6, f 7, f 8, f 9, f 10, f 11, f 12, f 13, f 14, f 15, f 16, f 17, f 18, f 19, f 20, f 21, f 22, f 23, f 24, f 25, f 26, f 27, f 28, f 29, f 30, f 31, f 32, f 33, f 34, f 35, f 36, f 37, f 38, f 39, f 40, f 41, f 42, f 43, f 44, f 45, f 46, f 47, f 48, f 49, f 50, f 51, f 52, f 53, f 54, f 55, f 56, f 57, f 58, f 59, f 60, f 61, f 62, f 63, f 64, f 65, f 66, f 67, f 68, f 69, f 70, f 71, f 72, f 73, f 74, f 75, f 76, f 77, f 78, f 79, f 80, f 81, f 82, f 83, f 84, f 85, f 86, f 87, f 88, f 89, f 90, f 91, f 92, f 93, f 94, f 95, f 96, f 97, f 98, f 99, f 100, f 101, f 102, f 103, f 104, f 105, f 106, f 107, f 108, f 109, f 110, f 111, f 112, f 113, f 114, f 115, f 116, f 117, f 118, f 119, f 120, f 121, f 122, f 123, f 124, f 125, f 126, f 127, f 128, f 129, f 130, f 131, f 132, f 133, f 134, f 135, f 136, f 137, f 138, f 139, f 140, f 141, f 142, f 143, f 144, f 145, f 146, f 147, f 148, f 149, f 150, f 151, f 152, f 153, f 154, f 155, f 156, f 157, f 158, f 159, f 160, f 161, f 162, f 163, f 164, f 165, f 166, f 167, f 168, f 169, f 170] := ⟨fun k => T.getD k undef, fun _ => rfl, (spell 171 T h).trans (by kernel_rfl)⟩
noncomputable def cwa_rows (o0 o1 : W8) (g6 : Nat) : List SRow := [
  ⟨Op.load 24 (Operand.tmp 6), some 37, none, [], fun v _ => v = .agg #[.int .u64 0]⟩,
  ⟨Op.call { callee := Callee.value (Operand.func 21), args := #[Operand.const (Value.int IntKind.i64 1)], argTypes := #[3] }, some 38, none, [], fun v _ => v = .agg #[.int .u64 o1.a0, .int .u64 o1.a1, .int .u64 o1.a2, .int .u64 o1.a3, .int .u64 o1.a4, .int .u64 o1.a5, .int .u64 o1.a6, .int .u64 o1.a7]⟩,
  ⟨Op.call { callee := Callee.value (Operand.func 18), args := #[Operand.tmp 37, Operand.tmp 38], argTypes := #[24, 44] }, some 39, none, [0, 1, 1], fun v _ => v = .tuple #[.agg #[.int .u64 o0.a0, .int .u64 o0.a1, .int .u64 o0.a2, .int .u64 o0.a3, .int .u64 o0.a4, .int .u64 o0.a5, .int .u64 o0.a6, .int .u64 o0.a7], .agg #[.int .u64 0], .int .i64 0]⟩,
  ⟨Op.move (Operand.tmp 39), some 36, none, [2], fun v _ => v = .tuple #[.agg #[.int .u64 o0.a0, .int .u64 o0.a1, .int .u64 o0.a2, .int .u64 o0.a3, .int .u64 o0.a4, .int .u64 o0.a5, .int .u64 o0.a6, .int .u64 o0.a7], .agg #[.int .u64 0], .int .i64 0]⟩,
  ⟨Op.extract (Operand.tmp 36) 0, some 40, none, [3], fun v _ => v = .agg #[.int .u64 o0.a0, .int .u64 o0.a1, .int .u64 o0.a2, .int .u64 o0.a3, .int .u64 o0.a4, .int .u64 o0.a5, .int .u64 o0.a6, .int .u64 o0.a7]⟩,
  ⟨Op.extract (Operand.tmp 36) 1, some 41, none, [3], fun v _ => v = .agg #[.int .u64 0]⟩,
  ⟨Op.extract (Operand.tmp 36) 2, some 42, none, [3], fun v _ => v = .int .i64 0⟩,
  ⟨Op.alloc 44, some 7, none, [], fun _ _ => True⟩,
  ⟨Op.alloc 24, some 8, none, [], fun _ _ => True⟩,
  ⟨Op.store 44 (Operand.tmp 7) (Operand.tmp 40), none, none, [7, 4, 2, 0, 1, 2, 3, 4, 7, 8], fun _ _ => True⟩,
  ⟨Op.store 24 (Operand.tmp 8) (Operand.tmp 41), none, none, [8, 5, 9, 0, 1, 2, 3, 4, 5, 7, 8, 9], fun _ _ => True⟩,
  ⟨Op.assign (Operand.tmp 42), some 9, none, [6, 10, 0, 1, 2, 3, 4, 5, 6, 7, 8, 9, 10], fun v _ => v = .int .i64 0⟩]
noncomputable def cwa_base (o0 o1 : W8) (g6 : Nat) : List (Nat × Value) := [(6, .pointer (some ⟨g6, 0, none⟩))]
def cwa_mem : List MRow := [⟨7, 7, 44, #[.int .u64 0, .int .u64 0, .int .u64 0, .int .u64 0, .int .u64 0, .int .u64 0, .int .u64 0, .int .u64 0], 9, 40, 4⟩, ⟨8, 8, 24, #[.int .u64 0], 10, 41, 5⟩]
theorem cwa_pure (o0 o1 : W8) (g6 : Nat) : AllPure (cwa_rows o0 o1 g6) := ⟨fun _ _ _ h => h, ⟨fun _ _ _ h => h, ⟨fun _ _ _ h => h, ⟨fun _ _ _ h => h, ⟨fun _ _ _ h => h, ⟨fun _ _ _ h => h, ⟨fun _ _ _ h => h, ⟨fun _ _ _ h => h, ⟨fun _ _ _ h => h, ⟨fun _ _ _ h => h, ⟨fun _ _ _ h => h, ⟨fun _ _ _ h => h, trivial⟩⟩⟩⟩⟩⟩⟩⟩⟩⟩⟩⟩
set_option maxRecDepth 100000 in
set_option maxHeartbeats 4000000 in
theorem cwa_allm (o0 o1 : W8) (g6 : Nat) : AllMem Try.prog (cwa_rows o0 o1 g6) cwa_mem := by
  refine ⟨⟨fun ev w o ho => ?_, by rfl, fun r v w hr => ?_, by rfl, fun r hr => ?_, by rfl, fun r v w hr h => ?_, by kernel_rfl⟩, ?_⟩
  · obtain ⟨d, op, ty, p, af, g⟩ := o
    simp only at ho
    subst ho
    unfold execOp
    go_simp
  · obtain rfl := Option.some.inj (show some _ = some r from hr); trivial
  · obtain rfl := Option.some.inj (show some _ = some r from hr); exact ⟨by simp, by simp⟩
  · obtain rfl := Option.some.inj (show some _ = some r from hr); exact ⟨_, h, rfl, by simp [Value.oneCell']⟩
  refine ⟨⟨fun ev w o ho => ?_, by rfl, fun r v w hr => ?_, by rfl, fun r hr => ?_, by rfl, fun r v w hr h => ?_, by kernel_rfl⟩, ?_⟩
  · obtain ⟨d, op, ty, p, af, g⟩ := o
    simp only at ho
    subst ho
    unfold execOp
    go_simp
  · obtain rfl := Option.some.inj (show some _ = some r from hr); trivial
  · obtain rfl := Option.some.inj (show some _ = some r from hr); exact ⟨by simp, by simp⟩
  · obtain rfl := Option.some.inj (show some _ = some r from hr); exact ⟨_, h, rfl, by simp [Value.oneCell']⟩
  trivial
set_option maxRecDepth 100000 in
set_option maxHeartbeats 4000000 in
theorem cwa_steps (V : World) (o0 o1 : W8) (g6 : Nat) (R6 : ∀ w', Lat V w' → w'.rangeAt g6 0 [.int .u64 0]) (J24 : (Try.prog.info? 24).map (·.size) = some 1)
    (HO : ∀ w, Calls Try.prog 21 #[.int .i64 1] w (fun e w' => e = .returned (.agg #[.int .u64 o1.a0, .int .u64 o1.a1, .int .u64 o1.a2, .int .u64 o1.a3, .int .u64 o1.a4, .int .u64 o1.a5, .int .u64 o1.a6, .int .u64 o1.a7]) ∧ Lat w w'))
    (HW : ∀ w, Calls Try.prog 18 #[.agg #[.int .u64 0], .agg #[.int .u64 o1.a0, .int .u64 o1.a1, .int .u64 o1.a2, .int .u64 o1.a3, .int .u64 o1.a4, .int .u64 o1.a5, .int .u64 o1.a6, .int .u64 o1.a7]] w (fun e w' => e = .returned (.tuple #[.agg #[.int .u64 o0.a0, .int .u64 o0.a1, .int .u64 o0.a2, .int .u64 o0.a3, .int .u64 o0.a4, .int .u64 o0.a5, .int .u64 o0.a6, .int .u64 o0.a7], .agg #[.int .u64 0], .int .i64 0]) ∧ Lat w w')) :
    StepsAt Try.prog (cwa_rows o0 o1 g6) (cwa_base o0 o1 g6) V (cwa_mem.flatMap fun M => [M.ia, M.is]) 0 (cwa_rows o0 o1 g6) := by
  refine StepsAt.next (fun _ _ _ h _ => h) (fun j b h => by cases h) (fun a w hl hb hd o ho => by have e1 := hb 6 _ rfl; exact Runs.val (yv_load (S := Lat V) e1 R6 Try.underlying24 rfl J24 o w ho hl) ⟨Lat.refl _, fun _ => rfl⟩) ?_
  refine StepsAt.next (fun _ _ _ h _ => h) (fun j b h => by cases h) (fun a w hl hb hd o ho => by exact Runs.call (yv_call (f := 21) (fun _ => by go_simp) o ho (by simp only [List.map_toArray, List.map_cons, List.map_nil, eval_const])) ((HO w).mono fun e w' h => ⟨_, h.1, h.2, fun _ => rfl⟩)) ?_
  refine StepsAt.next (fun _ _ _ h _ => h) (fun j b h => by cases h) (fun a w hl hb hd o ho => by obtain ⟨v1, e1, q1⟩ := hd 0 _ _ (by simp) rfl rfl; subst q1; obtain ⟨v2, e2, q2⟩ := hd 1 _ _ (by simp) rfl rfl; subst q2; exact Runs.call (yv_call (f := 18) (fun _ => by go_simp) o ho (by simp only [List.map_toArray, List.map_cons, List.map_nil, eval_const, e1, e2])) ((HW w).mono fun e w' h => ⟨_, h.1, h.2, fun _ => rfl⟩)) ?_
  refine StepsAt.next (fun _ _ _ h _ => h) (fun j b h => by cases h) (fun a w hl hb hd o ho => by obtain ⟨v1, e1, q1⟩ := hd 2 _ _ (by simp) rfl rfl; subst q1; exact Runs.val (yv_move (S := fun _ => True) e1 o w ho trivial) ⟨Lat.refl _, fun _ => rfl⟩) ?_
  refine StepsAt.next (fun _ _ _ h _ => h) (fun j b h => by cases h) (fun a w hl hb hd o ho => by obtain ⟨v1, e1, q1⟩ := hd 3 _ _ (by simp) rfl rfl; subst q1; obtain ⟨d, op, ty, p, af, g⟩ := o; simp only at ho; subst ho; have ec : ∀ v, a.eval (.const v) = v := fun _ => rfl; exact Runs.val (by unfold execOp; generalize a.eval = ev at e1 ec ⊢; simp only [e1, ec]; go_simp) ⟨Lat.refl _, fun _ => rfl⟩) ?_
  refine StepsAt.next (fun _ _ _ h _ => h) (fun j b h => by cases h) (fun a w hl hb hd o ho => by obtain ⟨v1, e1, q1⟩ := hd 3 _ _ (by simp) rfl rfl; subst q1; obtain ⟨d, op, ty, p, af, g⟩ := o; simp only at ho; subst ho; have ec : ∀ v, a.eval (.const v) = v := fun _ => rfl; exact Runs.val (by unfold execOp; generalize a.eval = ev at e1 ec ⊢; simp only [e1, ec]; go_simp) ⟨Lat.refl _, fun _ => rfl⟩) ?_
  refine StepsAt.next (fun _ _ _ h _ => h) (fun j b h => by cases h) (fun a w hl hb hd o ho => by obtain ⟨v1, e1, q1⟩ := hd 3 _ _ (by simp) rfl rfl; subst q1; obtain ⟨d, op, ty, p, af, g⟩ := o; simp only at ho; subst ho; have ec : ∀ v, a.eval (.const v) = v := fun _ => rfl; exact Runs.val (by unfold execOp; generalize a.eval = ev at e1 ec ⊢; simp only [e1, ec]; go_simp) ⟨Lat.refl _, fun _ => rfl⟩) ?_
  refine StepsAt.skip (by simp [cwa_mem]) ?_
  refine StepsAt.skip (by simp [cwa_mem]) ?_
  refine StepsAt.skip (by simp [cwa_mem]) ?_
  refine StepsAt.skip (by simp [cwa_mem]) ?_
  refine StepsAt.next (fun _ _ _ h _ => h) (fun j b h => by cases h) (fun a w hl hb hd o ho => by obtain ⟨v1, e1, q1⟩ := hd 6 _ _ (by simp) rfl rfl; subst q1; exact Runs.val (yv_assignS (S := fun _ => True) e1 o w ho trivial) ⟨Lat.refl _, fun _ => rfl⟩) ?_
  exact StepsAt.none
noncomputable def cwb_rows (o15 o16 : W8) (t16 g6 g7 g8 : Nat) : List SRow := [
  ⟨Op.load 24 (Operand.tmp 6), some 44, none, [], fun v _ => v = .agg #[.int .u64 0]⟩,
  ⟨Op.call { callee := Callee.value (Operand.func 21), args := #[Operand.const (Value.int IntKind.i64 16)], argTypes := #[3] }, some 45, none, [], fun v _ => v = .agg #[.int .u64 o16.a0, .int .u64 o16.a1, .int .u64 o16.a2, .int .u64 o16.a3, .int .u64 o16.a4, .int .u64 o16.a5, .int .u64 o16.a6, .int .u64 o16.a7]⟩,
  ⟨Op.call { callee := Callee.value (Operand.func 18), args := #[Operand.tmp 44, Operand.tmp 45], argTypes := #[24, 44] }, some 46, none, [0, 1, 1], fun v _ => v = .tuple #[.agg #[.int .u64 o15.a0, .int .u64 o15.a1, .int .u64 o15.a2, .int .u64 o15.a3, .int .u64 o15.a4, .int .u64 o15.a5, .int .u64 o15.a6, .int .u64 o15.a7], .agg #[.int .u64 (t16 : Nat)], .int .i64 0]⟩,
  ⟨Op.move (Operand.tmp 46), some 43, none, [2], fun v _ => v = .tuple #[.agg #[.int .u64 o15.a0, .int .u64 o15.a1, .int .u64 o15.a2, .int .u64 o15.a3, .int .u64 o15.a4, .int .u64 o15.a5, .int .u64 o15.a6, .int .u64 o15.a7], .agg #[.int .u64 (t16 : Nat)], .int .i64 0]⟩,
  ⟨Op.extract (Operand.tmp 43) 0, some 47, none, [3], fun v _ => v = .agg #[.int .u64 o15.a0, .int .u64 o15.a1, .int .u64 o15.a2, .int .u64 o15.a3, .int .u64 o15.a4, .int .u64 o15.a5, .int .u64 o15.a6, .int .u64 o15.a7]⟩,
  ⟨Op.extract (Operand.tmp 43) 1, some 48, none, [3], fun v _ => v = .agg #[.int .u64 (t16 : Nat)]⟩,
  ⟨Op.extract (Operand.tmp 43) 2, some 49, none, [3], fun v _ => v = .int .i64 0⟩,
  ⟨Op.alloc 44, some 10, none, [], fun _ _ => True⟩,
  ⟨Op.alloc 24, some 11, none, [], fun _ _ => True⟩,
  ⟨Op.store 44 (Operand.tmp 10) (Operand.tmp 47), none, none, [7, 4, 2, 0, 1, 2, 3, 4, 7, 8], fun _ _ => True⟩,
  ⟨Op.store 24 (Operand.tmp 11) (Operand.tmp 48), none, none, [8, 5, 9, 0, 1, 2, 3, 4, 5, 7, 8, 9], fun _ _ => True⟩,
  ⟨Op.assign (Operand.tmp 49), some 12, none, [6, 10, 0, 1, 2, 3, 4, 5, 6, 7, 8, 9, 10], fun v _ => v = .int .i64 0⟩]
noncomputable def cwb_base (o15 o16 : W8) (t16 g6 g7 g8 : Nat) : List (Nat × Value) := [(6, .pointer (some ⟨g6, 0, none⟩)), (7, .pointer (some ⟨g7, 0, none⟩)), (8, .pointer (some ⟨g8, 0, none⟩)), (9, .int .i64 0)]
def cwb_mem : List MRow := [⟨7, 10, 44, #[.int .u64 0, .int .u64 0, .int .u64 0, .int .u64 0, .int .u64 0, .int .u64 0, .int .u64 0, .int .u64 0], 9, 47, 4⟩, ⟨8, 11, 24, #[.int .u64 0], 10, 48, 5⟩]
theorem cwb_pure (o15 o16 : W8) (t16 g6 g7 g8 : Nat) : AllPure (cwb_rows o15 o16 t16 g6 g7 g8) := ⟨fun _ _ _ h => h, ⟨fun _ _ _ h => h, ⟨fun _ _ _ h => h, ⟨fun _ _ _ h => h, ⟨fun _ _ _ h => h, ⟨fun _ _ _ h => h, ⟨fun _ _ _ h => h, ⟨fun _ _ _ h => h, ⟨fun _ _ _ h => h, ⟨fun _ _ _ h => h, ⟨fun _ _ _ h => h, ⟨fun _ _ _ h => h, trivial⟩⟩⟩⟩⟩⟩⟩⟩⟩⟩⟩⟩
set_option maxRecDepth 100000 in
set_option maxHeartbeats 4000000 in
theorem cwb_allm (o15 o16 : W8) (t16 g6 g7 g8 : Nat) : AllMem Try.prog (cwb_rows o15 o16 t16 g6 g7 g8) cwb_mem := by
  refine ⟨⟨fun ev w o ho => ?_, by rfl, fun r v w hr => ?_, by rfl, fun r hr => ?_, by rfl, fun r v w hr h => ?_, by kernel_rfl⟩, ?_⟩
  · obtain ⟨d, op, ty, p, af, g⟩ := o
    simp only at ho
    subst ho
    unfold execOp
    go_simp
  · obtain rfl := Option.some.inj (show some _ = some r from hr); trivial
  · obtain rfl := Option.some.inj (show some _ = some r from hr); exact ⟨by simp, by simp⟩
  · obtain rfl := Option.some.inj (show some _ = some r from hr); exact ⟨_, h, rfl, by simp [Value.oneCell']⟩
  refine ⟨⟨fun ev w o ho => ?_, by rfl, fun r v w hr => ?_, by rfl, fun r hr => ?_, by rfl, fun r v w hr h => ?_, by kernel_rfl⟩, ?_⟩
  · obtain ⟨d, op, ty, p, af, g⟩ := o
    simp only at ho
    subst ho
    unfold execOp
    go_simp
  · obtain rfl := Option.some.inj (show some _ = some r from hr); trivial
  · obtain rfl := Option.some.inj (show some _ = some r from hr); exact ⟨by simp, by simp⟩
  · obtain rfl := Option.some.inj (show some _ = some r from hr); exact ⟨_, h, rfl, by simp [Value.oneCell']⟩
  trivial
set_option maxRecDepth 100000 in
set_option maxHeartbeats 4000000 in
theorem cwb_steps (V : World) (o15 o16 : W8) (t16 g6 g7 g8 : Nat) (R6 : ∀ w', Lat V w' → w'.rangeAt g6 0 [.int .u64 0]) (J24 : (Try.prog.info? 24).map (·.size) = some 1)
    (HO : ∀ w, Calls Try.prog 21 #[.int .i64 16] w (fun e w' => e = .returned (.agg #[.int .u64 o16.a0, .int .u64 o16.a1, .int .u64 o16.a2, .int .u64 o16.a3, .int .u64 o16.a4, .int .u64 o16.a5, .int .u64 o16.a6, .int .u64 o16.a7]) ∧ Lat w w'))
    (HW : ∀ w, Calls Try.prog 18 #[.agg #[.int .u64 0], .agg #[.int .u64 o16.a0, .int .u64 o16.a1, .int .u64 o16.a2, .int .u64 o16.a3, .int .u64 o16.a4, .int .u64 o16.a5, .int .u64 o16.a6, .int .u64 o16.a7]] w (fun e w' => e = .returned (.tuple #[.agg #[.int .u64 o15.a0, .int .u64 o15.a1, .int .u64 o15.a2, .int .u64 o15.a3, .int .u64 o15.a4, .int .u64 o15.a5, .int .u64 o15.a6, .int .u64 o15.a7], .agg #[.int .u64 (t16 : Nat)], .int .i64 0]) ∧ Lat w w')) :
    StepsAt Try.prog (cwb_rows o15 o16 t16 g6 g7 g8) (cwb_base o15 o16 t16 g6 g7 g8) V (cwb_mem.flatMap fun M => [M.ia, M.is]) 0 (cwb_rows o15 o16 t16 g6 g7 g8) := by
  refine StepsAt.next (fun _ _ _ h _ => h) (fun j b h => by cases h) (fun a w hl hb hd o ho => by have e1 := hb 6 _ rfl; exact Runs.val (yv_load (S := Lat V) e1 R6 Try.underlying24 rfl J24 o w ho hl) ⟨Lat.refl _, fun _ => rfl⟩) ?_
  refine StepsAt.next (fun _ _ _ h _ => h) (fun j b h => by cases h) (fun a w hl hb hd o ho => by exact Runs.call (yv_call (f := 21) (fun _ => by go_simp) o ho (by simp only [List.map_toArray, List.map_cons, List.map_nil, eval_const])) ((HO w).mono fun e w' h => ⟨_, h.1, h.2, fun _ => rfl⟩)) ?_
  refine StepsAt.next (fun _ _ _ h _ => h) (fun j b h => by cases h) (fun a w hl hb hd o ho => by obtain ⟨v1, e1, q1⟩ := hd 0 _ _ (by simp) rfl rfl; subst q1; obtain ⟨v2, e2, q2⟩ := hd 1 _ _ (by simp) rfl rfl; subst q2; exact Runs.call (yv_call (f := 18) (fun _ => by go_simp) o ho (by simp only [List.map_toArray, List.map_cons, List.map_nil, eval_const, e1, e2])) ((HW w).mono fun e w' h => ⟨_, h.1, h.2, fun _ => rfl⟩)) ?_
  refine StepsAt.next (fun _ _ _ h _ => h) (fun j b h => by cases h) (fun a w hl hb hd o ho => by obtain ⟨v1, e1, q1⟩ := hd 2 _ _ (by simp) rfl rfl; subst q1; exact Runs.val (yv_move (S := fun _ => True) e1 o w ho trivial) ⟨Lat.refl _, fun _ => rfl⟩) ?_
  refine StepsAt.next (fun _ _ _ h _ => h) (fun j b h => by cases h) (fun a w hl hb hd o ho => by obtain ⟨v1, e1, q1⟩ := hd 3 _ _ (by simp) rfl rfl; subst q1; obtain ⟨d, op, ty, p, af, g⟩ := o; simp only at ho; subst ho; have ec : ∀ v, a.eval (.const v) = v := fun _ => rfl; exact Runs.val (by unfold execOp; generalize a.eval = ev at e1 ec ⊢; simp only [e1, ec]; go_simp) ⟨Lat.refl _, fun _ => rfl⟩) ?_
  refine StepsAt.next (fun _ _ _ h _ => h) (fun j b h => by cases h) (fun a w hl hb hd o ho => by obtain ⟨v1, e1, q1⟩ := hd 3 _ _ (by simp) rfl rfl; subst q1; obtain ⟨d, op, ty, p, af, g⟩ := o; simp only at ho; subst ho; have ec : ∀ v, a.eval (.const v) = v := fun _ => rfl; exact Runs.val (by unfold execOp; generalize a.eval = ev at e1 ec ⊢; simp only [e1, ec]; go_simp) ⟨Lat.refl _, fun _ => rfl⟩) ?_
  refine StepsAt.next (fun _ _ _ h _ => h) (fun j b h => by cases h) (fun a w hl hb hd o ho => by obtain ⟨v1, e1, q1⟩ := hd 3 _ _ (by simp) rfl rfl; subst q1; obtain ⟨d, op, ty, p, af, g⟩ := o; simp only at ho; subst ho; have ec : ∀ v, a.eval (.const v) = v := fun _ => rfl; exact Runs.val (by unfold execOp; generalize a.eval = ev at e1 ec ⊢; simp only [e1, ec]; go_simp) ⟨Lat.refl _, fun _ => rfl⟩) ?_
  refine StepsAt.skip (by simp [cwb_mem]) ?_
  refine StepsAt.skip (by simp [cwb_mem]) ?_
  refine StepsAt.skip (by simp [cwb_mem]) ?_
  refine StepsAt.skip (by simp [cwb_mem]) ?_
  refine StepsAt.next (fun _ _ _ h _ => h) (fun j b h => by cases h) (fun a w hl hb hd o ho => by obtain ⟨v1, e1, q1⟩ := hd 6 _ _ (by simp) rfl rfl; subst q1; exact Runs.val (yv_assignS (S := fun _ => True) e1 o w ho trivial) ⟨Lat.refl _, fun _ => rfl⟩) ?_
  exact StepsAt.none
noncomputable def cwc_rows (t2 g6 g7 g8 g10 : Nat) : List SRow := [
  ⟨Op.load 24 (Operand.tmp 6), some 51, none, [], fun v _ => v = .agg #[.int .u64 0]⟩,
  ⟨Op.call { callee := Callee.value (Operand.func 24), args := #[Operand.const (Value.int IntKind.i64 1), Operand.const (Value.int IntKind.i64 2)], argTypes := #[3, 3] }, some 52, none, [], QV ⟩,
  ⟨Op.call { callee := Callee.value (Operand.func 25), args := #[Operand.tmp 51, Operand.tmp 52], argTypes := #[24, 55] }, some 53, none, [0, 1, 1], fun v _ => v = .tuple #[.bool false, .agg #[.int .u64 (t2 : Nat)], .int .i64 0]⟩,
  ⟨Op.move (Operand.tmp 53), some 50, none, [2], fun v _ => v = .tuple #[.bool false, .agg #[.int .u64 (t2 : Nat)], .int .i64 0]⟩,
  ⟨Op.extract (Operand.tmp 50) 0, some 54, none, [3], fun v _ => v = .bool false⟩,
  ⟨Op.extract (Operand.tmp 50) 1, some 55, none, [3], fun v _ => v = .agg #[.int .u64 (t2 : Nat)]⟩,
  ⟨Op.extract (Operand.tmp 50) 2, some 56, none, [3], fun v _ => v = .int .i64 0⟩,
  ⟨Op.alloc 24, some 14, none, [], fun _ _ => True⟩,
  ⟨Op.assign (Operand.tmp 54), some 13, none, [4, 2, 0, 1, 2, 3, 4, 7], fun v _ => v = .bool false⟩,
  ⟨Op.store 24 (Operand.tmp 14) (Operand.tmp 55), none, none, [7, 5, 8, 0, 1, 2, 3, 4, 5, 7, 8], fun _ _ => True⟩,
  ⟨Op.assign (Operand.tmp 56), some 15, none, [6, 9, 0, 1, 2, 3, 4, 5, 6, 7, 8, 9], fun v _ => v = .int .i64 0⟩]
noncomputable def cwc_base (t2 g6 g7 g8 g10 : Nat) : List (Nat × Value) := [(6, .pointer (some ⟨g6, 0, none⟩)), (7, .pointer (some ⟨g7, 0, none⟩)), (8, .pointer (some ⟨g8, 0, none⟩)), (9, .int .i64 0), (10, .pointer (some ⟨g10, 0, none⟩)), (12, .int .i64 0)]
def cwc_mem : List MRow := [⟨7, 14, 24, #[.int .u64 0], 9, 55, 5⟩]
theorem cwc_pure (t2 g6 g7 g8 g10 : Nat) : AllPure (cwc_rows t2 g6 g7 g8 g10) := ⟨fun _ _ _ h => h, ⟨fun _ _ _ h => h, ⟨fun _ _ _ h => h, ⟨fun _ _ _ h => h, ⟨fun _ _ _ h => h, ⟨fun _ _ _ h => h, ⟨fun _ _ _ h => h, ⟨fun _ _ _ h => h, ⟨fun _ _ _ h => h, ⟨fun _ _ _ h => h, ⟨fun _ _ _ h => h, trivial⟩⟩⟩⟩⟩⟩⟩⟩⟩⟩⟩
set_option maxRecDepth 100000 in
set_option maxHeartbeats 4000000 in
theorem cwc_allm (t2 g6 g7 g8 g10 : Nat) : AllMem Try.prog (cwc_rows t2 g6 g7 g8 g10) cwc_mem := by
  refine ⟨⟨fun ev w o ho => ?_, by rfl, fun r v w hr => ?_, by rfl, fun r hr => ?_, by rfl, fun r v w hr h => ?_, by kernel_rfl⟩, ?_⟩
  · obtain ⟨d, op, ty, p, af, g⟩ := o
    simp only at ho
    subst ho
    unfold execOp
    go_simp
  · obtain rfl := Option.some.inj (show some _ = some r from hr); trivial
  · obtain rfl := Option.some.inj (show some _ = some r from hr); exact ⟨by simp, by simp⟩
  · obtain rfl := Option.some.inj (show some _ = some r from hr); exact ⟨_, h, rfl, by simp [Value.oneCell']⟩
  trivial
set_option maxRecDepth 100000 in
set_option maxHeartbeats 4000000 in
theorem cwc_steps (V : World) (t2 g6 g7 g8 g10 : Nat) (R6 : ∀ w', Lat V w' → w'.rangeAt g6 0 [.int .u64 0]) (J24 : (Try.prog.info? 24).map (·.size) = some 1)
    (HCN : ∀ (u v : W8), u.ok → v.ok → u.toInt = 1 → v.toInt = 2 → ∀ w, Calls Try.prog 25 #[.agg #[.int .u64 0], .agg #[.int .u64 u.a0, .int .u64 u.a1, .int .u64 u.a2, .int .u64 u.a3, .int .u64 u.a4, .int .u64 u.a5, .int .u64 u.a6, .int .u64 u.a7, .int .u64 v.a0, .int .u64 v.a1, .int .u64 v.a2, .int .u64 v.a3, .int .u64 v.a4, .int .u64 v.a5, .int .u64 v.a6, .int .u64 v.a7]] w (fun e w' => e = .returned (.tuple #[.bool false, .agg #[.int .u64 (t2 : Nat)], .int .i64 0]) ∧ Lat w w')) :
    StepsAt Try.prog (cwc_rows t2 g6 g7 g8 g10) (cwc_base t2 g6 g7 g8 g10) V (cwc_mem.flatMap fun M => [M.ia, M.is]) 0 (cwc_rows t2 g6 g7 g8 g10) := by
  refine StepsAt.next (fun _ _ _ h _ => h) (fun j b h => by cases h) (fun a w hl hb hd o ho => by have e1 := hb 6 _ rfl; exact Runs.val (yv_load (S := Lat V) e1 R6 Try.underlying24 rfl J24 o w ho hl) ⟨Lat.refl _, fun _ => rfl⟩) ?_
  refine StepsAt.next (fun _ _ _ h _ => h) (fun j b h => by cases h) (fun a w hl hb hd o ho => by exact Runs.call (yv_call (f := 24) (fun _ => by go_simp) o ho (by simp only [List.map_toArray, List.map_cons, List.map_nil, eval_const])) ((qPost_any w).mono fun e w' h => QV.run h)) ?_
  refine StepsAt.next (fun _ _ _ h _ => h) (fun j b h => by cases h) (fun a w hl hb hd o ho => by obtain ⟨v1, e1, q1⟩ := hd 0 _ _ (by simp) rfl rfl; subst q1; obtain ⟨v2, e2, q2⟩ := hd 1 _ _ (by simp) rfl rfl; obtain ⟨u2, v2', rfl, ou2, ov2, iu2, iv2⟩ := (show QV v2 w from q2); exact Runs.call (yv_call (f := 25) (fun _ => by go_simp) o ho (by simp only [List.map_toArray, List.map_cons, List.map_nil, eval_const, e1, e2])) ((HCN u2 v2' ou2 ov2 iu2 iv2 w).mono fun e w' h => ⟨_, h.1, h.2, fun _ => rfl⟩)) ?_
  refine StepsAt.next (fun _ _ _ h _ => h) (fun j b h => by cases h) (fun a w hl hb hd o ho => by obtain ⟨v1, e1, q1⟩ := hd 2 _ _ (by simp) rfl rfl; subst q1; exact Runs.val (yv_move (S := fun _ => True) e1 o w ho trivial) ⟨Lat.refl _, fun _ => rfl⟩) ?_
  refine StepsAt.next (fun _ _ _ h _ => h) (fun j b h => by cases h) (fun a w hl hb hd o ho => by obtain ⟨v1, e1, q1⟩ := hd 3 _ _ (by simp) rfl rfl; subst q1; obtain ⟨d, op, ty, p, af, g⟩ := o; simp only at ho; subst ho; have ec : ∀ v, a.eval (.const v) = v := fun _ => rfl; exact Runs.val (by unfold execOp; generalize a.eval = ev at e1 ec ⊢; simp only [e1, ec]; go_simp) ⟨Lat.refl _, fun _ => rfl⟩) ?_
  refine StepsAt.next (fun _ _ _ h _ => h) (fun j b h => by cases h) (fun a w hl hb hd o ho => by obtain ⟨v1, e1, q1⟩ := hd 3 _ _ (by simp) rfl rfl; subst q1; obtain ⟨d, op, ty, p, af, g⟩ := o; simp only at ho; subst ho; have ec : ∀ v, a.eval (.const v) = v := fun _ => rfl; exact Runs.val (by unfold execOp; generalize a.eval = ev at e1 ec ⊢; simp only [e1, ec]; go_simp) ⟨Lat.refl _, fun _ => rfl⟩) ?_
  refine StepsAt.next (fun _ _ _ h _ => h) (fun j b h => by cases h) (fun a w hl hb hd o ho => by obtain ⟨v1, e1, q1⟩ := hd 3 _ _ (by simp) rfl rfl; subst q1; obtain ⟨d, op, ty, p, af, g⟩ := o; simp only at ho; subst ho; have ec : ∀ v, a.eval (.const v) = v := fun _ => rfl; exact Runs.val (by unfold execOp; generalize a.eval = ev at e1 ec ⊢; simp only [e1, ec]; go_simp) ⟨Lat.refl _, fun _ => rfl⟩) ?_
  refine StepsAt.skip (by simp [cwc_mem]) ?_
  refine StepsAt.next (fun _ _ _ h _ => h) (fun j b h => by cases h) (fun a w hl hb hd o ho => by obtain ⟨v1, e1, q1⟩ := hd 4 _ _ (by simp) rfl rfl; subst q1; exact Runs.val (yv_assignS (S := fun _ => True) e1 o w ho trivial) ⟨Lat.refl _, fun _ => rfl⟩) ?_
  refine StepsAt.skip (by simp [cwc_mem]) ?_
  refine StepsAt.next (fun _ _ _ h _ => h) (fun j b h => by cases h) (fun a w hl hb hd o ho => by obtain ⟨v1, e1, q1⟩ := hd 6 _ _ (by simp) rfl rfl; subst q1; exact Runs.val (yv_assignS (S := fun _ => True) e1 o w ho trivial) ⟨Lat.refl _, fun _ => rfl⟩) ?_
  exact StepsAt.none
set_option maxRecDepth 100000 in
set_option maxHeartbeats 8000000 in
theorem works_any (w : World) : Calls Try.prog 8 #[] w (fun e w' => e = .returned (.bool true) ∧ Lat w w') := by
  obtain ⟨s1, hs1⟩ : ∃ s, chStep 0 = s := ⟨_, rfl⟩
  obtain ⟨s2, hs2⟩ : ∃ s, chStep s1 = s := ⟨_, rfl⟩
  obtain ⟨s3, hs3⟩ : ∃ s, chStep s2 = s := ⟨_, rfl⟩
  have n1 : NxC 0 16294208416658607535 s1 := by have := nxC 0 (by decide); rw [ln3.1, hs1] at this; exact this
  have n2 : NxC s1 7960286522194355700 s2 := by
    have := nxC s1 (by rw [← hs1]; exact chStep_lt _)
    have h := ln3.2.1
    rw [hs1] at h
    rw [h, hs2] at this
    exact this
  have n3 : NxC s2 487617019471545679 s3 := by
    have := nxC s2 (by rw [← hs2]; exact chStep_lt _)
    have h := ln3.2.2
    rw [hs1, hs2] at h
    rw [h, hs3] at this
    exact this
  have N1 := Lib.hid n1
  have N2 := Lib.hid n2
  have N3 := Lib.hid n3
  clear hs1 hs2 hs3 n1 n2 n3
  go_enter Try.func8, Try.ntmps8
  go_upto_region 3 with (fail)
  refine name1 (Q := fun W => Code.wp _ _ _ _ W) ?_
  intro W hl hs k1
  go_loopw [23] (fun i wr => Lat w wr ∧ ((i = .int .i64 0 ∧ Blk wr w.heap.size 24 #[.int .u64 (0 : Nat)]) ∨ (i = .int .i64 1 ∧ Blk wr w.heap.size 24 #[.int .u64 (s1 : Nat)]) ∨ (i = .int .i64 2 ∧ Blk wr w.heap.size 24 #[.int .u64 (s2 : Nat)]) ∨ i = .int .i64 3)) (fun i _ => 3 - (intOf i).toNat)
  case atStart => exact ⟨hl, .inl ⟨rfl, k1⟩⟩
  case round =>
    obtain ⟨hlr, hrel⟩ := hrel
    clear k1 hl hs
    rcases hrel with ⟨rfl, k1⟩ | ⟨rfl, k1⟩ | ⟨rfl, k1⟩ | rfl
    · have c0 : wr.cell? ⟨w.heap.size, 0, none⟩ = some (.int .u64 (0 : Nat)) := k1.cell 0
      have hix := cw_ix0
      go_wp2_with fail
      refine (N1.out wr).mono ?_
      rintro e w1 ⟨rfl, l1⟩
      have k1 := k1.later l1
      have L1 := hlr.trans l1
      clear c0 l1 hlr
      go_upto_region 8 with (fail)
      refine name1 (Q := fun W => Code.wp _ _ _ _ W) ?_
      intro w2 l2 hs2 k5
      have k1 := k1.later l2
      have L2 := L1.trans l2
      clear l2 L1
      have c5 : w2.cell? ⟨w1.heap.size, 0, none⟩ = some (.int .u64 (s1 : Nat)) := k5.cell 0
      have c1 : w2.cell? ⟨w.heap.size, 0, none⟩ = some (.int .u64 (0 : Nat)) := k1.cell 0
      have f1 := k1.frozen 0
      have h1 := k1.lt
      go_wp2
      have j1 : Blk (w2.setCell ⟨w.heap.size, 0, none⟩ (.int .u64 (s1 : Nat))) w.heap.size 24 #[.int .u64 (s1 : Nat)] := by have := k1.set 0 (.int .u64 (s1 : Nat)); simpa using this
      exact ⟨⟨L2.setCell (p := ⟨w.heap.size, 0, none⟩) (Nat.le_refl _) _, .inr (.inl ⟨rfl, j1⟩)⟩, by simp [intOf]⟩
    · have c0 : wr.cell? ⟨w.heap.size, 0, none⟩ = some (.int .u64 (s1 : Nat)) := k1.cell 0
      have hix := cw_ix1
      go_wp2_with fail
      refine (N2.out wr).mono ?_
      rintro e w1 ⟨rfl, l1⟩
      have k1 := k1.later l1
      have L1 := hlr.trans l1
      clear c0 l1 hlr
      go_upto_region 8 with (fail)
      refine name1 (Q := fun W => Code.wp _ _ _ _ W) ?_
      intro w2 l2 hs2 k5
      have k1 := k1.later l2
      have L2 := L1.trans l2
      clear l2 L1
      have c5 : w2.cell? ⟨w1.heap.size, 0, none⟩ = some (.int .u64 (s2 : Nat)) := k5.cell 0
      have c1 : w2.cell? ⟨w.heap.size, 0, none⟩ = some (.int .u64 (s1 : Nat)) := k1.cell 0
      have f1 := k1.frozen 0
      have h1 := k1.lt
      go_wp2
      have j1 : Blk (w2.setCell ⟨w.heap.size, 0, none⟩ (.int .u64 (s2 : Nat))) w.heap.size 24 #[.int .u64 (s2 : Nat)] := by have := k1.set 0 (.int .u64 (s2 : Nat)); simpa using this
      exact ⟨⟨L2.setCell (p := ⟨w.heap.size, 0, none⟩) (Nat.le_refl _) _, .inr (.inr (.inl ⟨rfl, j1⟩))⟩, by simp [intOf]⟩
    · have c0 : wr.cell? ⟨w.heap.size, 0, none⟩ = some (.int .u64 (s2 : Nat)) := k1.cell 0
      have hix := cw_ix2
      go_wp2_with fail
      refine (N3.out wr).mono ?_
      rintro e w1 ⟨rfl, l1⟩
      have k1 := k1.later l1
      have L1 := hlr.trans l1
      clear c0 l1 hlr
      go_upto_region 8 with (fail)
      refine name1 (Q := fun W => Code.wp _ _ _ _ W) ?_
      intro w2 l2 hs2 k5
      have k1 := k1.later l2
      have L2 := L1.trans l2
      clear l2 L1
      have c5 : w2.cell? ⟨w1.heap.size, 0, none⟩ = some (.int .u64 (s3 : Nat)) := k5.cell 0
      have c1 : w2.cell? ⟨w.heap.size, 0, none⟩ = some (.int .u64 (s2 : Nat)) := k1.cell 0
      have f1 := k1.frozen 0
      have h1 := k1.lt
      go_wp2
      have j1 : Blk (w2.setCell ⟨w.heap.size, 0, none⟩ (.int .u64 (s3 : Nat))) w.heap.size 24 #[.int .u64 (s3 : Nat)] := by have := k1.set 0 (.int .u64 (s3 : Nat)); simpa using this
      exact ⟨⟨L2.setCell (p := ⟨w.heap.size, 0, none⟩) (Nat.le_refl _) _, .inr (.inr (.inr rfl))⟩, by simp [intOf]⟩
    · obtain ⟨o0, ho0⟩ : ∃ o, W8.of 0 = o := ⟨_, rfl⟩
      obtain ⟨o1, ho1⟩ : ∃ o, W8.of 1 = o := ⟨_, rfl⟩
      obtain ⟨o5, ho5⟩ : ∃ o, W8.of 5 = o := ⟨_, rfl⟩
      obtain ⟨o15, ho15⟩ : ∃ o, W8.of 15 = o := ⟨_, rfl⟩
      obtain ⟨o16, ho16⟩ : ∃ o, W8.of 16 = o := ⟨_, rfl⟩
      obtain ⟨om, hom⟩ : ∃ o, W8.of (-1) = o := ⟨_, rfl⟩
      obtain ⟨t16, ht16⟩ : ∃ t, widS 0 16 = t := ⟨_, rfl⟩
      obtain ⟨t2, ht2⟩ : ∃ t, widS 0 2 = t := ⟨_, rfl⟩
      have z0 : ((0 : Nat) : Int) = 0 := rfl
      have HO1 : ∀ w, Calls Try.prog 21 #[.int .i64 1] w (fun e w' => e = .returned (.agg #[.int .u64 o1.a0, .int .u64 o1.a1, .int .u64 o1.a2, .int .u64 o1.a3, .int .u64 o1.a4, .int .u64 o1.a5, .int .u64 o1.a6, .int .u64 o1.a7]) ∧ Lat w w') := fun w => by rw [← ho1]; exact of_any 1 (by decide) (by decide) w
      have HO16 : ∀ w, Calls Try.prog 21 #[.int .i64 16] w (fun e w' => e = .returned (.agg #[.int .u64 o16.a0, .int .u64 o16.a1, .int .u64 o16.a2, .int .u64 o16.a3, .int .u64 o16.a4, .int .u64 o16.a5, .int .u64 o16.a6, .int .u64 o16.a7]) ∧ Lat w w') := fun w => by rw [← ho16]; exact of_any 16 (by decide) (by decide) w
      have HO15 : ∀ w, Calls Try.prog 21 #[.int .i64 15] w (fun e w' => e = .returned (.agg #[.int .u64 o15.a0, .int .u64 o15.a1, .int .u64 o15.a2, .int .u64 o15.a3, .int .u64 o15.a4, .int .u64 o15.a5, .int .u64 o15.a6, .int .u64 o15.a7]) ∧ Lat w w') := fun w => by rw [← ho15]; exact of_any 15 (by decide) (by decide) w
      have HO5 : ∀ w, Calls Try.prog 21 #[.int .i64 5] w (fun e w' => e = .returned (.agg #[.int .u64 o5.a0, .int .u64 o5.a1, .int .u64 o5.a2, .int .u64 o5.a3, .int .u64 o5.a4, .int .u64 o5.a5, .int .u64 o5.a6, .int .u64 o5.a7]) ∧ Lat w w') := fun w => by rw [← ho5]; exact of_any 5 (by decide) (by decide) w
      have HOm : ∀ w, Calls Try.prog 21 #[.int .i64 (-1)] w (fun e w' => e = .returned (.agg #[.int .u64 om.a0, .int .u64 om.a1, .int .u64 om.a2, .int .u64 om.a3, .int .u64 om.a4, .int .u64 om.a5, .int .u64 om.a6, .int .u64 om.a7]) ∧ Lat w w') := fun w => by rw [← hom]; exact of_any (-1) (by decide) (by decide) w
      have HW1 : ∀ w, Calls Try.prog 18 #[.agg #[.int .u64 0], .agg #[.int .u64 o1.a0, .int .u64 o1.a1, .int .u64 o1.a2, .int .u64 o1.a3, .int .u64 o1.a4, .int .u64 o1.a5, .int .u64 o1.a6, .int .u64 o1.a7]] w (fun e w' => e = .returned (.tuple #[.agg #[.int .u64 o0.a0, .int .u64 o0.a1, .int .u64 o0.a2, .int .u64 o0.a3, .int .u64 o0.a4, .int .u64 o0.a5, .int .u64 o0.a6, .int .u64 o0.a7], .agg #[.int .u64 0], .int .i64 0]) ∧ Lat w w') := fun w => by
        have := wide_w 1 (by decide) (by decide) w
        rw [lk1.1, lk1.2.1, lk1.2.2, ho0, ho1] at this
        exact this
      have HW16 : ∀ w, Calls Try.prog 18 #[.agg #[.int .u64 0], .agg #[.int .u64 o16.a0, .int .u64 o16.a1, .int .u64 o16.a2, .int .u64 o16.a3, .int .u64 o16.a4, .int .u64 o16.a5, .int .u64 o16.a6, .int .u64 o16.a7]] w (fun e w' => e = .returned (.tuple #[.agg #[.int .u64 o15.a0, .int .u64 o15.a1, .int .u64 o15.a2, .int .u64 o15.a3, .int .u64 o15.a4, .int .u64 o15.a5, .int .u64 o15.a6, .int .u64 o15.a7], .agg #[.int .u64 (t16 : Nat)], .int .i64 0]) ∧ Lat w w') := fun w => by
        have := wide_w 16 (by decide) (by decide) w
        rw [lk16.1, lk16.2, ho15, ho16, ht16] at this
        exact this
      have HCN : ∀ (u v : W8), u.ok → v.ok → u.toInt = 1 → v.toInt = 2 → ∀ w, Calls Try.prog 25 #[.agg #[.int .u64 0], .agg #[.int .u64 u.a0, .int .u64 u.a1, .int .u64 u.a2, .int .u64 u.a3, .int .u64 u.a4, .int .u64 u.a5, .int .u64 u.a6, .int .u64 u.a7, .int .u64 v.a0, .int .u64 v.a1, .int .u64 v.a2, .int .u64 v.a3, .int .u64 v.a4, .int .u64 v.a5, .int .u64 v.a6, .int .u64 v.a7]] w (fun e w' => e = .returned (.tuple #[.bool false, .agg #[.int .u64 (t2 : Nat)], .int .i64 0]) ∧ Lat w w') := fun u v h1 h2 h3 h4 w => by
        have := coinHalf u v h1 h2 h3 h4 w
        rw [ht2] at this
        exact this
      have HS1 : ∀ w, Calls Try.prog 9 #[.agg #[.int .u64 0], .int .i64 1] w (ShufEnd w [0] 0 0) := fun w => shuffle_one 0 w
      have HS4 : ∀ w, Calls Try.prog 9 #[.agg #[.int .u64 0], .int .i64 401] w (fun e w' => e = .returned (.tuple #[.slice none 0 0, .agg #[.int .u64 0], .int .i64 2]) ∧ Lat w w') := fun w => shuffle_far 0 401 (by decide) w
      have HE7 : Hid (∀ w, (binOp .eql 44 (.agg #[.int .u64 o0.a0, .int .u64 o0.a1, .int .u64 o0.a2, .int .u64 o0.a3, .int .u64 o0.a4, .int .u64 o0.a5, .int .u64 o0.a6, .int .u64 o0.a7]) (.agg #[.int .u64 W8.zero.a0, .int .u64 W8.zero.a1, .int .u64 W8.zero.a2, .int .u64 W8.zero.a3, .int .u64 W8.zero.a4, .int .u64 W8.zero.a5, .int .u64 W8.zero.a6, .int .u64 W8.zero.a7])).run Try.prog w = .ok (.bool true) w) := fun w => by
        rw [← ho0, ← W8.zero_eq, wide_eq W8.zero_ok W8.zero_ok]
        simp
      have HE10 : Hid (∀ w, (binOp .eql 44 (.agg #[.int .u64 o15.a0, .int .u64 o15.a1, .int .u64 o15.a2, .int .u64 o15.a3, .int .u64 o15.a4, .int .u64 o15.a5, .int .u64 o15.a6, .int .u64 o15.a7]) (.agg #[.int .u64 o15.a0, .int .u64 o15.a1, .int .u64 o15.a2, .int .u64 o15.a3, .int .u64 o15.a4, .int .u64 o15.a5, .int .u64 o15.a6, .int .u64 o15.a7])).run Try.prog w = .ok (.bool true) w) := fun w => by
        rw [← ho15, wide_eq (W8.of_ok 15) (W8.of_ok 15)]
        simp
      have H0 := Lib.hid (show W8.of 5 = o5 ∧ W8.of (-1) = om from ⟨ho5, hom⟩)
      clear ho0 ho1 ho5 ho15 ho16 hom ht16 ht2 z0 N1 N2 N3
      go_upto_region 11 with (fail)
      refine name1 (Q := fun W => Code.wp _ _ _ _ W) ?_
      intro Va la0 hsa k6
      have LA := hlr.trans la0
      obtain ⟨g6, hg6⟩ : ∃ z, wr.heap.size = z := ⟨_, rfl⟩
      rw [hg6] at k6 ⊢
      clear la0 hsa hg6 hlr
      obtain ⟨T10, hT10⟩ : ∃ t, belS 0 10 = t := ⟨_, rfl⟩
      obtain ⟨T1, hT1⟩ : ∃ t, belS 0 1 = t := ⟨_, rfl⟩
      obtain ⟨T5, hT5⟩ : ∃ t, widS 0 5 = t := ⟨_, rfl⟩
      have HB10 : ∀ w, Calls Try.prog 14 #[.agg #[.int .u64 0], .int .i64 10] w (fun e w' => e = .returned (.tuple #[.int .i64 5, .agg #[.int .u64 (T10 : Nat)], .int .i64 0]) ∧ Lat w w') := fun w => by
        have := cBelow_any 0 (by decide) 10 (by decide) w
        rw [lb10.1, lb10.2.1, hT10] at this
        exact this
      have HB1 : ∀ w, Calls Try.prog 14 #[.agg #[.int .u64 0], .int .i64 1] w (fun e w' => e = .returned (.tuple #[.int .i64 0, .agg #[.int .u64 (T1 : Nat)], .int .i64 0]) ∧ Lat w w') := fun w => by
        have := cBelow_any 0 (by decide) 1 (by decide) w
        rw [lb1.1, lb1.2.1, hT1] at this
        exact this
      have HB0 : ∀ w, Calls Try.prog 14 #[.agg #[.int .u64 0], .int .i64 0] w (fun e w' => e = .returned (.tuple #[.int .i64 0, .agg #[.int .u64 0], .int .i64 2]) ∧ Lat w w') := fun w => by
        have := cBelow_any 0 (by decide) 0 (by decide) w
        rw [lb0.1, lb0.2.1, lb0.2.2] at this
        exact this
      have HPN : ∀ w, Calls Try.prog 22 #[.agg #[.int .u64 0], .slice none 0 0] w (fun e w' => e = .returned (.tuple #[.int .i64 0, .agg #[.int .u64 0], .int .i64 7]) ∧ Lat w w') := fun w => pickNil w
      have HPM : ∀ (g : Nat) (w : World), Blk w g 44 #[.int .u64 om.a0, .int .u64 om.a1, .int .u64 om.a2, .int .u64 om.a3, .int .u64 om.a4, .int .u64 om.a5, .int .u64 om.a6, .int .u64 om.a7] → Calls Try.prog 22 #[.agg #[.int .u64 0], .slice (some ⟨g, 0, none⟩) 1 1] w (fun e w' => e = .returned (.tuple #[.int .i64 0, .agg #[.int .u64 0], .int .i64 2]) ∧ Lat w w') := fun g w h => pickNeg g w (by rw [H0.out.2]; exact h)
      have HPD : ∀ (g : Nat) (w : World), Blk w g 44 #[.int .u64 W8.zero.a0, .int .u64 W8.zero.a1, .int .u64 W8.zero.a2, .int .u64 W8.zero.a3, .int .u64 W8.zero.a4, .int .u64 W8.zero.a5, .int .u64 W8.zero.a6, .int .u64 W8.zero.a7, .int .u64 o5.a0, .int .u64 o5.a1, .int .u64 o5.a2, .int .u64 o5.a3, .int .u64 o5.a4, .int .u64 o5.a5, .int .u64 o5.a6, .int .u64 o5.a7, .int .u64 W8.zero.a0, .int .u64 W8.zero.a1, .int .u64 W8.zero.a2, .int .u64 W8.zero.a3, .int .u64 W8.zero.a4, .int .u64 W8.zero.a5, .int .u64 W8.zero.a6, .int .u64 W8.zero.a7] → Calls Try.prog 22 #[.agg #[.int .u64 0], .slice (some ⟨g, 0, none⟩) 3 3] w (fun e w' => e = .returned (.tuple #[.int .i64 1, .agg #[.int .u64 (T5 : Nat)], .int .i64 0]) ∧ Lat w w') := fun g w h => by
        have := pickMid g w (by rw [H0.out.1]; exact h)
        rw [hT5] at this
        exact this
      have HT10 : (0 ≤ (T10 : Int) ∧ (T10 : Int) < W64) ∧ decide ((T10 : Int) = 0) = false := by
        have h1 := lb10.2.2.1
        have h2 := lb10.2.2.2
        rw [hT10] at h1 h2
        exact ⟨by unfold W64; omega, decide_eq_false (by omega)⟩
      have HT1 : (0 ≤ (T1 : Int) ∧ (T1 : Int) < W64) ∧ decide ((T1 : Int) = 0) = false := by
        have h1 := lb1.2.2.1
        have h2 := lb1.2.2.2
        rw [hT1] at h1 h2
        exact ⟨by unfold W64; omega, decide_eq_false (by omega)⟩
      have HT5 : (0 ≤ (T5 : Int) ∧ (T5 : Int) < W64) ∧ decide ((T5 : Int) = 0) = false := by
        have h1 := lk5.2.2.1
        have h2 := lk5.2.2.2
        rw [hT5] at h1 h2
        exact ⟨by unfold W64; omega, decide_eq_false (by omega)⟩
      have HE24 : Hid (∀ w, (binOp .eql 24 (.agg #[.int .u64 0]) (.agg #[.int .u64 0])).run Try.prog w = .ok (.bool true) w) := fun w => chance_eql (s := 0) (t := 0) (by decide) (by decide) w
      have hgd44 : Hid (Try.prog.eqGuardType Try.prog.depth 44 = false) := by show _ = _; kernel_rfl
      have hgd24 : Hid (Try.prog.eqGuardType Try.prog.depth 24 = false) := by show _ = _; kernel_rfl
      have J24 : (Try.prog.info? 24).map (·.size) = some 1 := by kernel_rfl
      have J44 : (Try.prog.info? 44).map (·.size) = some 8 := by kernel_rfl
      clear hT10 hT1 hT5 H0
      have R6 : ∀ w', Lat Va w' → w'.rangeAt g6 0 [.int .u64 0] := fun w' hl => (k6.later hl).rangeAll
      rename_i KN hKN
      refine wp_region_mem (cwa_rows o0 o1 g6) (cwa_base o0 o1 g6) cwa_mem 171 12 [[], [], [0, 1, 1], [2], [3], [3], [3], [], [], [7, 4, 2, 0, 1, 2, 3, 4, 7, 8], [8, 5, 9, 0, 1, 2, 3, 4, 5, 7, 8, 9], [6, 10, 0, 1, 2, 3, 4, 5, 6, 7, 8, 9, 10]] (by kernel_rfl) (by kernel_rfl) (by kernel_rfl) (by kernel_rfl) (by kernel_rfl) (by kernel_rfl) (by kernel_rfl) (by rfl) rfl (base_of (base_cons rfl (base_nil _))) (cwa_pure o0 o1 g6) (cwa_allm o0 o1 g6) (cwa_steps Va o0 o1 g6 R6 J24 HO1 HW1) ?_
      · intro a9 W9 hsz9 hdf9 hL9 hbs hsl hmm
        obtain ⟨g7, c7, s7, n7, b7, p7, far7⟩ := hmm 0 _ rfl
        obtain ⟨g8, c8, s8, n8, b8, p8, far8⟩ := hmm 1 _ rfl
        obtain ⟨v9, h9, q9⟩ := hsl 4 _ _ rfl rfl
        obtain rfl : v9 = .agg #[.int .u64 o0.a0, .int .u64 o0.a1, .int .u64 o0.a2, .int .u64 o0.a3, .int .u64 o0.a4, .int .u64 o0.a5, .int .u64 o0.a6, .int .u64 o0.a7] := q9
        obtain rfl := slot_agg p7 h9
        clear h9
        obtain ⟨v9, h9, q9⟩ := hsl 5 _ _ rfl rfl
        obtain rfl : v9 = .agg #[.int .u64 0] := q9
        obtain rfl := slot_agg p8 h9
        clear h9
        have e7_8 : g7 ≠ g8 := far7 1 _ _ (by decide) rfl s8
        obtain ⟨v9, h9, q9⟩ := hsl 11 _ _ rfl rfl
        obtain rfl : v9 = .int .i64 0 := q9
        have w9 := slot_getD h9
        clear h9
        have w7 := slot_getD s7
        have w8 := slot_getD s8
        refine hKN _ _ ?_
        obtain ⟨T9, df9⟩ := a9
        obtain rfl : df9 = [] := hdf9
        obtain ⟨f, hf, rfl⟩ := spell171 T9 hsz9
        have X9 := fun k v h => (hf k).trans (slot_getD (hbs k v h))
        have x9 : f 9 = .int .i64 0 := (hf 9).trans w9
        have x7 : f 7 = .pointer (some ⟨g7, 0, none⟩) := (hf 7).trans w7
        have x8 : f 8 = .pointer (some ⟨g8, 0, none⟩) := (hf 8).trans w8
        clear hbs hsl hmm hf hsz9 hKN s7 p7 far7 s8 p8 far8 w9 w7 w8
        simp only [X9 6 _ rfl, x9, x7, x8]
        clear x9 x7 x8 X9
        replace k6 := k6.later hL9
        replace LA := LA.trans hL9
        obtain ⟨Y1, rfl⟩ : ∃ z, z = W9 := ⟨_, rfl⟩
        clear hL9 n7 n8 e7_8 R6 HO1 HW1
        go_upto_region 12 with (fail)
        have R6 : ∀ w', Lat Y1 w' → w'.rangeAt g6 0 [.int .u64 0] := fun w' hl => (k6.later hl).rangeAll
        rename_i KN hKN
        refine wp_region_mem (cwb_rows o15 o16 t16 g6 g7 g8) (cwb_base o15 o16 t16 g6 g7 g8) cwb_mem 171 12 [[], [], [0, 1, 1], [2], [3], [3], [3], [], [], [7, 4, 2, 0, 1, 2, 3, 4, 7, 8], [8, 5, 9, 0, 1, 2, 3, 4, 5, 7, 8, 9], [6, 10, 0, 1, 2, 3, 4, 5, 6, 7, 8, 9, 10]] (by kernel_rfl) (by kernel_rfl) (by kernel_rfl) (by kernel_rfl) (by kernel_rfl) (by kernel_rfl) (by kernel_rfl) (by rfl) rfl (base_of (base_cons rfl (base_cons rfl (base_cons rfl (base_cons rfl (base_nil _)))))) (cwb_pure o15 o16 t16 g6 g7 g8) (cwb_allm o15 o16 t16 g6 g7 g8) (cwb_steps Y1 o15 o16 t16 g6 g7 g8 R6 J24 HO16 HW16) ?_
        · intro a9 W9 hsz9 hdf9 hL9 hbs hsl hmm
          obtain ⟨g10, c10, s10, n10, b10, p10, far10⟩ := hmm 0 _ rfl
          obtain ⟨g11, c11, s11, n11, b11, p11, far11⟩ := hmm 1 _ rfl
          obtain ⟨v9, h9, q9⟩ := hsl 4 _ _ rfl rfl
          obtain rfl : v9 = .agg #[.int .u64 o15.a0, .int .u64 o15.a1, .int .u64 o15.a2, .int .u64 o15.a3, .int .u64 o15.a4, .int .u64 o15.a5, .int .u64 o15.a6, .int .u64 o15.a7] := q9
          obtain rfl := slot_agg p10 h9
          clear h9
          obtain ⟨v9, h9, q9⟩ := hsl 5 _ _ rfl rfl
          obtain rfl : v9 = .agg #[.int .u64 (t16 : Nat)] := q9
          obtain rfl := slot_agg p11 h9
          clear h9
          have e10_11 : g10 ≠ g11 := far10 1 _ _ (by decide) rfl s11
          obtain ⟨v9, h9, q9⟩ := hsl 11 _ _ rfl rfl
          obtain rfl : v9 = .int .i64 0 := q9
          have w12 := slot_getD h9
          clear h9
          have w10 := slot_getD s10
          have w11 := slot_getD s11
          refine hKN _ _ ?_
          obtain ⟨T9, df9⟩ := a9
          obtain rfl : df9 = [] := hdf9
          obtain ⟨f, hf, rfl⟩ := spell171 T9 hsz9
          have X9 := fun k v h => (hf k).trans (slot_getD (hbs k v h))
          have x12 : f 12 = .int .i64 0 := (hf 12).trans w12
          have x10 : f 10 = .pointer (some ⟨g10, 0, none⟩) := (hf 10).trans w10
          have x11 : f 11 = .pointer (some ⟨g11, 0, none⟩) := (hf 11).trans w11
          clear hbs hsl hmm hf hsz9 hKN s10 p10 far10 s11 p11 far11 w12 w10 w11
          simp only [X9 6 _ rfl, X9 7 _ rfl, X9 8 _ rfl, X9 9 _ rfl, x12, x10, x11]
          clear x12 x10 x11 X9
          replace k6 := k6.later hL9
          replace b7 := b7.later hL9
          replace b8 := b8.later hL9
          replace LA := LA.trans hL9
          obtain ⟨Y2, rfl⟩ : ∃ z, z = W9 := ⟨_, rfl⟩
          clear hL9 b11 n10 n11 e10_11 R6 HO16 HW16
          go_upto_region 13 with (fail)
          have R6 : ∀ w', Lat Y2 w' → w'.rangeAt g6 0 [.int .u64 0] := fun w' hl => (k6.later hl).rangeAll
          rename_i KN hKN
          refine wp_region_mem (cwc_rows t2 g6 g7 g8 g10) (cwc_base t2 g6 g7 g8 g10) cwc_mem 171 11 [[], [], [0, 1, 1], [2], [3], [3], [3], [], [4, 2, 0, 1, 2, 3, 4, 7], [7, 5, 8, 0, 1, 2, 3, 4, 5, 7, 8], [6, 9, 0, 1, 2, 3, 4, 5, 6, 7, 8, 9]] (by kernel_rfl) (by kernel_rfl) (by kernel_rfl) (by kernel_rfl) (by kernel_rfl) (by kernel_rfl) (by kernel_rfl) (by rfl) rfl (base_of (base_cons rfl (base_cons rfl (base_cons rfl (base_cons rfl (base_cons rfl (base_cons rfl (base_nil _)))))))) (cwc_pure t2 g6 g7 g8 g10) (cwc_allm t2 g6 g7 g8 g10) (cwc_steps Y2 t2 g6 g7 g8 g10 R6 J24 HCN) ?_
          · intro a9 W9 hsz9 hdf9 hL9 hbs hsl hmm
            obtain ⟨g14, c14, s14, n14, b14, p14, far14⟩ := hmm 0 _ rfl
            obtain ⟨v9, h9, q9⟩ := hsl 5 _ _ rfl rfl
            obtain rfl : v9 = .agg #[.int .u64 (t2 : Nat)] := q9
            obtain rfl := slot_agg p14 h9
            clear h9
            obtain ⟨v9, h9, q9⟩ := hsl 8 _ _ rfl rfl
            obtain rfl : v9 = .bool false := q9
            have w13 := slot_getD h9
            clear h9
            obtain ⟨v9, h9, q9⟩ := hsl 10 _ _ rfl rfl
            obtain rfl : v9 = .int .i64 0 := q9
            have w15 := slot_getD h9
            clear h9
            have w14 := slot_getD s14
            refine hKN _ _ ?_
            obtain ⟨T9, df9⟩ := a9
            obtain rfl : df9 = [] := hdf9
            obtain ⟨f, hf, rfl⟩ := spell171 T9 hsz9
            have X9 := fun k v h => (hf k).trans (slot_getD (hbs k v h))
            have x13 : f 13 = .bool false := (hf 13).trans w13
            have x15 : f 15 = .int .i64 0 := (hf 15).trans w15
            have x14 : f 14 = .pointer (some ⟨g14, 0, none⟩) := (hf 14).trans w14
            clear hbs hsl hmm hf hsz9 hKN s14 p14 far14 w13 w15 w14
            simp only [X9 6 _ rfl, X9 7 _ rfl, X9 8 _ rfl, X9 9 _ rfl, X9 10 _ rfl, X9 12 _ rfl, x13, x15, x14]
            clear x13 x15 x14 X9
            have k6 := k6.later hL9
            have k7 := b7.later hL9
            have k8 := b8.later hL9
            have k10 := b10.later hL9
            have LV := LA.trans hL9
            obtain ⟨V, rfl⟩ : ∃ z, z = W9 := ⟨_, rfl⟩
            clear hL9 b7 b8 b10 b14 n14 LA R6 HCN
            have c6 : V.cell? ⟨g6, 0, none⟩ = some (.int .u64 0) := k6.cell 0
            go_wp2_with fail
            refine (HS1 V).mono ?_
            rintro e V1 ⟨A, nn, cc, rfl, sl, l1⟩
            obtain rfl : nn = 1 := sl.1.symm
            replace k6 := k6.later l1
            replace k7 := k7.later l1
            replace k8 := k8.later l1
            replace k10 := k10.later l1
            replace LV := LV.trans l1
            clear l1 HS1 c6
            have c6 : V1.cell? ⟨g6, 0, none⟩ = some (.int .u64 0) := k6.cell 0
            have hl6 := k6.lt
            go_wp2_with fail
            refine name1 (Q := fun W => Calls _ _ _ W _) ?_
            intro V2 l2 hs2 k17
            refine (HS4 V2).mono ?_
            rintro e V3 ⟨rfl, l3⟩
            have l23 := l2.trans l3
            replace k6 := k6.later l23
            replace k7 := k7.later l23
            replace k8 := k8.later l23
            replace k10 := k10.later l23
            replace sl := sl.later l23
            replace LV := LV.trans l23
            clear l2 l3 l23 HS4 c6 hs2 k17 hl6
            go_upto_region 16 with (fail)
            refine name1 (Q := fun W => Code.wp _ _ _ _ W) ?_
            intro V16 l4 hs4 k20
            replace k6 := k6.later l4
            replace k7 := k7.later l4
            replace k8 := k8.later l4
            replace k10 := k10.later l4
            replace sl := sl.later l4
            replace LV := LV.trans l4
            clear l4 hs4 k20
            rename_i K16 hK16
            have R6 : ∀ w', Lat V16 w' → w'.rangeAt g6 0 [.int .u64 0] := fun w' h => Blk.rangeAll (l := [.int .u64 0]) (k6.later h)
            have R7 : ∀ w', Lat V16 w' → w'.rangeAt g7 0 [.int .u64 o0.a0, .int .u64 o0.a1, .int .u64 o0.a2, .int .u64 o0.a3, .int .u64 o0.a4, .int .u64 o0.a5, .int .u64 o0.a6, .int .u64 o0.a7] := fun w' h => Blk.rangeAll (l := [.int .u64 o0.a0, .int .u64 o0.a1, .int .u64 o0.a2, .int .u64 o0.a3, .int .u64 o0.a4, .int .u64 o0.a5, .int .u64 o0.a6, .int .u64 o0.a7]) (k7.later h)
            have R8 : ∀ w', Lat V16 w' → w'.rangeAt g8 0 [.int .u64 0] := fun w' h => Blk.rangeAll (l := [.int .u64 0]) (k8.later h)
            have R10 : ∀ w', Lat V16 w' → w'.rangeAt g10 0 [.int .u64 o15.a0, .int .u64 o15.a1, .int .u64 o15.a2, .int .u64 o15.a3, .int .u64 o15.a4, .int .u64 o15.a5, .int .u64 o15.a6, .int .u64 o15.a7] := fun w' h => Blk.rangeAll (l := [.int .u64 o15.a0, .int .u64 o15.a1, .int .u64 o15.a2, .int .u64 o15.a3, .int .u64 o15.a4, .int .u64 o15.a5, .int .u64 o15.a6, .int .u64 o15.a7]) (k10.later h)
            have HEQ : ∀ (g : Nat) (w : World), Lat V16 w → Blk w g 3 #[.int .i64 0] → Calls Try.prog 11 #[.slice A 1 cc, .slice (some ⟨g, 0, none⟩) 1 1] w (fun e w' => e = .returned (.bool true) ∧ Lat w w') := fun g w h b => equal_any A 1 cc [0] (some ⟨g, 0, none⟩) 1 1 [0] w (sl.later h) (Sl.of_blk' (t := 3) (xs := [0]) b rfl) (by decide) (by decide)
            refine wp_region_slots (cw16_rows A cc T10 T1 T5 o0 o5 o15 om) (cw16_base g6 g7 g8 g10 A cc) 171 103 [[], [], [1, 0], [2], [2], [2], [0, 3, 4, 5, 2], [6, 6], [7, 7], [7], [9, 8, 7], [10, 7], [10, 7], [10, 7], [8, 11, 12, 13, 10, 7], [7, 14], [15, 14], [16, 16], [16], [18, 17, 16], [19, 16], [19, 16], [19, 16], [17, 20, 21, 22, 19, 16], [16, 23], [24, 23], [25], [25], [26, 27, 25], [25, 28], [29, 25], [30], [30], [31, 32, 30], [30, 33], [34, 30], [35], [36, 35], [35, 37], [38, 35], [39], [39, 39], [40, 41, 39], [39, 42], [43, 41], [44], [45, 44], [44, 46], [47, 44], [48, 48], [48], [50, 49, 48], [51, 48], [51, 48], [51, 48], [49, 52, 53, 54, 51, 48], [48, 55], [56, 55], [57, 57], [57], [58, 57], [60, 57], [59, 61, 60, 57], [62, 57], [62, 57], [62, 57], [58, 63, 64, 65, 62, 57], [57, 66], [67, 66], [68, 68], [68], [68], [69, 68], [68], [71, 72, 73, 68], [70, 74, 72, 68], [75, 68], [75, 68], [75, 68], [69, 76, 77, 78, 75, 68], [68, 79], [80, 79], [81], [82, 81], [81, 83], [84, 81], [85], [86, 85], [85, 87], [88, 85], [89], [89], [90, 91, 89, 89], [89, 92], [93, 92], [94], [95, 94], [94, 96], [97, 94], [98], [99, 98], [98, 100], [101, 98, 0, 1, 2, 3, 4, 5, 6, 7, 8, 9, 10, 11, 12, 13, 14, 15, 16, 17, 18, 19, 20, 21, 22, 23, 24, 25, 26, 27, 28, 29, 30, 31, 32, 33, 34, 35, 36, 37, 38, 39, 40, 41, 42, 43, 44, 45, 46, 47, 48, 49, 50, 51, 52, 53, 54, 55, 56, 57, 58, 59, 60, 61, 62, 63, 64, 65, 66, 67, 68, 69, 70, 71, 72, 73, 74, 75, 76, 77, 78, 79, 80, 81, 82, 83, 84, 85, 86, 87, 88, 89, 90, 91, 92, 93, 94, 95, 96, 97, 98, 99, 100, 101]] (by kernel_rfl) (by kernel_rfl) (by kernel_rfl) (by kernel_rfl) (by kernel_rfl) (by kernel_rfl) (by rfl) rfl ?_ ?_ ?_
            ·
              exact base_of (base_cons (by rfl) (base_cons (by rfl) (base_cons (by rfl) (base_cons (by rfl) (base_cons (by rfl) (base_cons (by rfl) (base_cons (by rfl) (base_cons (by rfl) (base_cons (by rfl) (base_cons (by rfl) (base_cons (by rfl) (base_nil _))))))))))))
            · exact cw16_steps V16 g6 g7 g8 g10 A cc T10 T1 T5 o0 o5 o15 om HO15 HO5 HOm HE7 HE10 HB10 HB1 HB0 HPN HPM HPD HT10 HT1 HT5 HE24 hgd44 hgd24 J24 J44 R6 R7 R8 R10 HEQ
            · intro a W hsz hdf hL _ hsl
              obtain ⟨v, h0, hv⟩ := hsl 102 _ _ rfl rfl
              have hv' : v = .bool true := hv
              subst hv'
              refine hK16 _ _ ?_
              obtain ⟨T, df⟩ := a
              obtain rfl : df = [] := hdf
              have h0' : T[0]? = some (.bool true) := h0
              clear hsl hv h0 hsz
              go_wp2
              refine bodyPost_ret (v := .bool true) (by simp [results, Try.results8, go_sem, h0']) rfl ?_
              exact ⟨rfl, LV.trans hL⟩
end Go.Proofs.Ytogkkhaepfablaa
