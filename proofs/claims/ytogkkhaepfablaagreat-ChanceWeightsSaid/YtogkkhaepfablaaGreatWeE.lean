
/- Chance: the law of weights, walked (printed by gen_wee.py). -/
import Derived.Test.YtogkkhaepfablaaGreatK37
import Derived.Test.YtogkkhaepfablaaGreatK29
import Derived.Test.YtogkkhaepfablaaGreatK01
import Derived.Test.YtogkkhaepfablaaGreatK34
import Derived.Test.YtogkkhaepfablaaGreatCwC
namespace Go.Proofs.YtogkkhaepfablaaGreat
open Go.RowKit Go.Shelf
set_option linter.unusedSimpArgs false
set_option linter.unusedVariables false

theorem spell200 (T : Array Value) (h : T.size = 200) : ∃ f : Nat → Value, (∀ k, f k = T.getD k undef) ∧ T = #[f 0, f 1, f 2, f 3, f 4, f 5, f 6, f 7, f 8, f 9, f 10, f 11, f 12, f 13, f 14, f 15, f 16, f 17, f 18, f 19, f 20, f 21, f 22, f 23, f 24, f 25, f 26, f 27, f 28, f 29, f 30, f 31, f 32, f 33, f 34, f 35, f 36, f 37, f 38, f 39, f 40, f 41, f 42, f 43, f 44, f 45, f 46, f 47, f 48, f 49, f 50, f 51, f 52, f 53, f 54, f 55, f 56, f 57, f 58, f 59, f 60, f 61, f 62, f 63, f 64, f 65, f 66, f 67, f 68, f 69, f 70, f 71, f 72, f 73, f 74, f 75, f 76, f 77, f 78, f 79, f 80, f 81, f 82, f 83, f 84, f 85, f 86, f 87, f 88, f 89, f 90, f 91, f 92, f 93, f 94, f 95, f 96, f 97, f 98, f 99, f 100, f 101, f 102, f 103, f 104, f 105, f 106, f 107, f 108, f 109, f 110, f 111, f 112, f 113, f 114, f 115, f 116, f 117, f 118, f 119, f 120, f 121, f 122, f 123, f 124, f 125, f 126, f 127, f 128, f 129, f 130, f 131, f 132, f 133, f 134, f 135, f 136, f 137, f 138, f 139, f 140, f 141, f 142, f 143, f 144, f 145, f 146, f 147, f 148, f 149, f 150, f 151, f 152, f 153, f 154, f 155, f 156, f 157, f 158, f 159, f 160, f 161, f 162, f 163, f 164, f 165, f 166, f 167, f 168, f 169, f 170, f 171, f 172, f 173, f 174, f 175, f 176, f 177, f 178, f 179, f 180, f 181, f 182, f 183, f 184, f 185, f 186, f 187, f 188, f 189, f 190, f 191, f 192, f 193, f 194, f 195, f 196, f 197, f 198, f 199] := ⟨fun k => T.getD k undef, fun _ => rfl, (spell 200 T h).trans (by kernel_rfl)⟩
noncomputable def we13_rows (g12 : Nat) : List SRow := [
  ⟨Op.call { callee := Callee.value (Operand.func 17), args := #[Operand.const (Value.int IntKind.i64 7)], argTypes := #[34] }, some 63, none, [], fun v w => ∃ b1 : Nat, v = .func (.func 54) #[] #[.pointer (some ⟨b1, 0, none⟩)] ∧ Blk w b1 34 #[.int .i64 7]⟩,
  ⟨Op.move (Operand.tmp 11), some 64, none, [], fun v _ => v = .int .i64 0⟩,
  ⟨Op.load 24 (Operand.tmp 12), some 65, none, [], fun v _ => v = .agg #[.int .u64 0]⟩,
  ⟨Op.move (Operand.tmp 13), some 66, none, [], fun v _ => v = .int .i64 7⟩,
  ⟨Op.call { callee := Callee.value (Operand.tmp 63), args := #[Operand.tmp 64, Operand.tmp 65, Operand.tmp 66], argTypes := #[3, 24, 34] }, some 67, none, [0, 1, 2, 3, 0], fun v _ => v = .bool true⟩,
  ⟨Op.assign (Operand.tmp 67), some 6, none, [4, 4, 0, 1, 2, 3, 4], fun v _ => v = .bool true⟩]
noncomputable def we13_base (g12 : Nat) : List (Nat × Value) := [(11, .int .i64 0), (12, .pointer (some ⟨g12, 0, none⟩)), (13, .int .i64 7)]
set_option maxRecDepth 100000 in
set_option maxHeartbeats 4000000 in
theorem we13_steps (V : World) (g12 : Nat) (R12 : ∀ w', Lat V w' → w'.rangeAt g12 0 [.int .u64 0]) (J24 : (Tryz.prog.info? 24).map (·.size) = some 1) :
    AllSteps Tryz.prog (we13_rows g12) (we13_base g12) V (we13_rows g12) := by
  refine AllSteps.next (fun v w w' h l => by obtain ⟨b1, h1, h2⟩ := h; exact ⟨b1, h1, h2.later l⟩) (fun j b h => by cases h) (fun a w hl hb hd o ho => by exact Runs.call (yv_call (f := 17) (fun _ => by go_simp) o ho (by simp only [List.map_toArray, List.map_cons, List.map_nil, eval_const])) ((fails_any 7 w).mono fun e w' h => by obtain ⟨b1, h1, h2, h3⟩ := h; exact ⟨_, h1, h3, fun _ => ⟨b1, rfl, h2⟩⟩)) ?_
  refine AllSteps.next (fun _ _ _ h _ => h) (fun j b h => by cases h) (fun a w hl hb hd o ho => by have e1 := hb 11 _ rfl; exact Runs.val (yv_move (S := fun _ => True) e1 o w ho trivial) ⟨Lat.refl _, fun _ => rfl⟩) ?_
  refine AllSteps.next (fun _ _ _ h _ => h) (fun j b h => by cases h) (fun a w hl hb hd o ho => by have e1 := hb 12 _ rfl; exact Runs.val (yv_load (S := Lat V) e1 R12 Tryz.underlying24 rfl J24 o w ho hl) ⟨Lat.refl _, fun _ => rfl⟩) ?_
  refine AllSteps.next (fun _ _ _ h _ => h) (fun j b h => by cases h) (fun a w hl hb hd o ho => by have e1 := hb 13 _ rfl; exact Runs.val (yv_move (S := fun _ => True) e1 o w ho trivial) ⟨Lat.refl _, fun _ => rfl⟩) ?_
  refine AllSteps.next (fun _ _ _ h _ => h) (fun j b h => by cases h) (fun a w hl hb hd o ho => by obtain ⟨v1, e1, q1⟩ := hd 0 _ _ (by simp) rfl rfl; obtain ⟨b1, rfl, k1⟩ := q1; obtain ⟨v2, e2, q2⟩ := hd 1 _ _ (by simp) rfl rfl; subst q2; obtain ⟨v3, e3, q3⟩ := hd 2 _ _ (by simp) rfl rfl; subst q3; obtain ⟨v4, e4, q4⟩ := hd 3 _ _ (by simp) rfl rfl; subst q4; exact Runs.call (yv_callD (f := 54) (vals := #[.int .i64 0, .agg #[.int .u64 0], .int .i64 7]) (all := #[.int .i64 0, .agg #[.int .u64 0], .int .i64 7, .pointer (some ⟨b1, 0, none⟩)]) (fun _ => by go_simp) e1 (by simp) o ho (by simp only [List.map_toArray, List.map_cons, List.map_nil, e2, e3, e4])) ((fails_yes 7 b1 w k1).mono fun e w' h => ⟨_, h.1, h.2, fun _ => rfl⟩)) ?_
  refine AllSteps.next (fun _ _ _ h _ => h) (fun j b h => by cases h) (fun a w hl hb hd o ho => by obtain ⟨v1, e1, q1⟩ := hd 4 _ _ (by simp) rfl rfl; subst q1; exact Runs.val (yv_assignS (S := fun _ => True) e1 o w ho trivial) ⟨Lat.refl _, fun _ => rfl⟩) ?_
  exact AllSteps.none
noncomputable def we14_rows (A0 : Option Addr) (n0 c0 : Nat) (A9 : Option Addr) (j c9 : Nat) (sm : Int) (k : Nat) (en : Int) (g3 g5 g12 s dt : Nat) (om bv : W8) (fe : Int) : List SRow := [
  ⟨Op.load 24 (Operand.tmp 3), some 69, none, [], fun v _ => v = .agg #[.int .u64 (s : Nat)]⟩,
  ⟨Op.move (Operand.tmp 8), some 70, none, [], fun v _ => v = .int .i64 sm⟩,
  ⟨Op.call { callee := Callee.value (Operand.func 15), args := #[Operand.tmp 70], argTypes := #[3] }, some 71, none, [1], fun v _ => v = .agg #[.int .u64 om.a0, .int .u64 om.a1, .int .u64 om.a2, .int .u64 om.a3, .int .u64 om.a4, .int .u64 om.a5, .int .u64 om.a6, .int .u64 om.a7]⟩,
  ⟨Op.call { callee := Callee.value (Operand.func 13), args := #[Operand.tmp 69, Operand.tmp 71], argTypes := #[24, 26] }, some 72, none, [0, 2, 2], fun v _ => v = .tuple #[.agg #[.int .u64 bv.a0, .int .u64 bv.a1, .int .u64 bv.a2, .int .u64 bv.a3, .int .u64 bv.a4, .int .u64 bv.a5, .int .u64 bv.a6, .int .u64 bv.a7], .agg #[.int .u64 (dt : Nat)], .int .i64 fe]⟩,
  ⟨Op.move (Operand.tmp 72), some 68, none, [3], fun v _ => v = .tuple #[.agg #[.int .u64 bv.a0, .int .u64 bv.a1, .int .u64 bv.a2, .int .u64 bv.a3, .int .u64 bv.a4, .int .u64 bv.a5, .int .u64 bv.a6, .int .u64 bv.a7], .agg #[.int .u64 (dt : Nat)], .int .i64 fe]⟩,
  ⟨Op.extract (Operand.tmp 68) 0, some 73, none, [4], fun v _ => v = .agg #[.int .u64 bv.a0, .int .u64 bv.a1, .int .u64 bv.a2, .int .u64 bv.a3, .int .u64 bv.a4, .int .u64 bv.a5, .int .u64 bv.a6, .int .u64 bv.a7]⟩,
  ⟨Op.extract (Operand.tmp 68) 1, some 74, none, [4], fun v _ => v = .agg #[.int .u64 (dt : Nat)]⟩,
  ⟨Op.extract (Operand.tmp 68) 2, some 75, none, [4], fun v _ => v = .int .i64 fe⟩,
  ⟨Op.alloc 26, some 14, none, [], fun _ _ => True⟩,
  ⟨Op.alloc 24, some 15, none, [], fun _ _ => True⟩,
  ⟨Op.store 26 (Operand.tmp 14) (Operand.tmp 73), none, none, [8, 5, 3, 0, 1, 2, 3, 4, 5, 8, 9], fun _ _ => True⟩,
  ⟨Op.store 24 (Operand.tmp 15) (Operand.tmp 74), none, none, [9, 6, 10, 0, 1, 2, 3, 4, 5, 6, 8, 9, 10], fun _ _ => True⟩,
  ⟨Op.assign (Operand.tmp 75), some 16, none, [7, 11, 0, 1, 2, 3, 4, 5, 6, 7, 8, 9, 10, 11], fun v _ => v = .int .i64 fe⟩]
noncomputable def we14_base (A0 : Option Addr) (n0 c0 : Nat) (A9 : Option Addr) (j c9 : Nat) (sm : Int) (k : Nat) (en : Int) (g3 g5 g12 s dt : Nat) (om bv : W8) (fe : Int) : List (Nat × Value) := [(1, .slice A0 n0 c0), (3, .pointer (some ⟨g3, 0, none⟩)), (5, .pointer (some ⟨g5, 0, none⟩)), (7, .slice A9 j c9), (8, .int .i64 sm), (11, .int .i64 (k : Nat)), (12, .pointer (some ⟨g12, 0, none⟩)), (13, .int .i64 en)]
def we14_mem : List MRow := [⟨8, 14, 26, #[.int .u64 0, .int .u64 0, .int .u64 0, .int .u64 0, .int .u64 0, .int .u64 0, .int .u64 0, .int .u64 0], 10, 73, 5⟩, ⟨9, 15, 24, #[.int .u64 0], 11, 74, 6⟩]
theorem we14_pure (A0 : Option Addr) (n0 c0 : Nat) (A9 : Option Addr) (j c9 : Nat) (sm : Int) (k : Nat) (en : Int) (g3 g5 g12 s dt : Nat) (om bv : W8) (fe : Int) : AllPure (we14_rows A0 n0 c0 A9 j c9 sm k en g3 g5 g12 s dt om bv fe) := ⟨fun _ _ _ h => h, ⟨fun _ _ _ h => h, ⟨fun _ _ _ h => h, ⟨fun _ _ _ h => h, ⟨fun _ _ _ h => h, ⟨fun _ _ _ h => h, ⟨fun _ _ _ h => h, ⟨fun _ _ _ h => h, ⟨fun _ _ _ h => h, ⟨fun _ _ _ h => h, ⟨fun _ _ _ h => h, ⟨fun _ _ _ h => h, ⟨fun _ _ _ h => h, trivial⟩⟩⟩⟩⟩⟩⟩⟩⟩⟩⟩⟩⟩
set_option maxRecDepth 100000 in
set_option maxHeartbeats 4000000 in
theorem we14_allm (A0 : Option Addr) (n0 c0 : Nat) (A9 : Option Addr) (j c9 : Nat) (sm : Int) (k : Nat) (en : Int) (g3 g5 g12 s dt : Nat) (om bv : W8) (fe : Int) : AllMem Tryz.prog (we14_rows A0 n0 c0 A9 j c9 sm k en g3 g5 g12 s dt om bv fe) we14_mem := by
  refine ⟨⟨fun ev w o ho => ?_, by rfl, fun r v w hr => ?_, by rfl, fun r hr => ?_, by rfl, fun r v w hr h => ?_, by kernel_rfl⟩, ?_⟩
  · obtain ⟨d, op, ty, p, af, g⟩ := o
    simp only at ho
    subst ho
    unfold execOp
    go_simp
  · obtain rfl := Option.some.inj (show some _ = some r from hr); trivial
  · obtain rfl := Option.some.inj (show some _ = some r from hr); exact ⟨by simp, by simp⟩
  · obtain rfl := Option.some.inj (show some _ = some r from hr); exact ⟨_, h, rfl, by simp [Value.oneCell']⟩
  refine ⟨⟨fun ev w o ho => ?_, by rfl, fun r v w hr => ?_, by rfl, fun r hr => ?_, by rfl, fun r v w hr h => ?_, by kernel_rfl⟩, ?_⟩
  · obtain ⟨d, op, ty, p, af, g⟩ := o
    simp only at ho
    subst ho
    unfold execOp
    go_simp
  · obtain rfl := Option.some.inj (show some _ = some r from hr); trivial
  · obtain rfl := Option.some.inj (show some _ = some r from hr); exact ⟨by simp, by simp⟩
  · obtain rfl := Option.some.inj (show some _ = some r from hr); exact ⟨_, h, rfl, by simp [Value.oneCell']⟩
  trivial
set_option maxRecDepth 100000 in
set_option maxHeartbeats 4000000 in
theorem we14_steps (V : World) (A0 : Option Addr) (n0 c0 : Nat) (A9 : Option Addr) (j c9 : Nat) (sm : Int) (k : Nat) (en : Int) (g3 g5 g12 s dt : Nat) (om bv : W8) (fe : Int) (R3 : ∀ w', Lat V w' → w'.rangeAt g3 0 [.int .u64 (s : Nat)]) (J24 : (Tryz.prog.info? 24).map (·.size) = some 1)
    (HO : ∀ w, Calls Tryz.prog 15 #[.int .i64 sm] w (fun e w' => e = .returned (.agg #[.int .u64 om.a0, .int .u64 om.a1, .int .u64 om.a2, .int .u64 om.a3, .int .u64 om.a4, .int .u64 om.a5, .int .u64 om.a6, .int .u64 om.a7]) ∧ Lat w w'))
    (HW : ∀ w, Calls Tryz.prog 13 #[.agg #[.int .u64 (s : Nat)], .agg #[.int .u64 om.a0, .int .u64 om.a1, .int .u64 om.a2, .int .u64 om.a3, .int .u64 om.a4, .int .u64 om.a5, .int .u64 om.a6, .int .u64 om.a7]] w (fun e w' => e = .returned (.tuple #[.agg #[.int .u64 bv.a0, .int .u64 bv.a1, .int .u64 bv.a2, .int .u64 bv.a3, .int .u64 bv.a4, .int .u64 bv.a5, .int .u64 bv.a6, .int .u64 bv.a7], .agg #[.int .u64 (dt : Nat)], .int .i64 fe]) ∧ Lat w w')) :
    StepsAt Tryz.prog (we14_rows A0 n0 c0 A9 j c9 sm k en g3 g5 g12 s dt om bv fe) (we14_base A0 n0 c0 A9 j c9 sm k en g3 g5 g12 s dt om bv fe) V (we14_mem.flatMap fun M => [M.ia, M.is]) 0 (we14_rows A0 n0 c0 A9 j c9 sm k en g3 g5 g12 s dt om bv fe) := by
  refine StepsAt.next (fun _ _ _ h _ => h) (fun j b h => by cases h) (fun a w hl hb hd o ho => by have e1 := hb 3 _ rfl; exact Runs.val (yv_load (S := Lat V) e1 R3 Tryz.underlying24 rfl J24 o w ho hl) ⟨Lat.refl _, fun _ => rfl⟩) ?_
  refine StepsAt.next (fun _ _ _ h _ => h) (fun j b h => by cases h) (fun a w hl hb hd o ho => by have e1 := hb 8 _ rfl; exact Runs.val (yv_move (S := fun _ => True) e1 o w ho trivial) ⟨Lat.refl _, fun _ => rfl⟩) ?_
  refine StepsAt.next (fun _ _ _ h _ => h) (fun j b h => by cases h) (fun a w hl hb hd o ho => by obtain ⟨v1, e1, q1⟩ := hd 1 _ _ (by simp) rfl rfl; subst q1; exact Runs.call (yv_call (f := 15) (fun _ => by go_simp) o ho (by simp only [List.map_toArray, List.map_cons, List.map_nil, eval_const, e1])) ((HO w).mono fun e w' h => ⟨_, h.1, h.2, fun _ => rfl⟩)) ?_
  refine StepsAt.next (fun _ _ _ h _ => h) (fun j b h => by cases h) (fun a w hl hb hd o ho => by obtain ⟨v1, e1, q1⟩ := hd 0 _ _ (by simp) rfl rfl; subst q1; obtain ⟨v2, e2, q2⟩ := hd 2 _ _ (by simp) rfl rfl; subst q2; exact Runs.call (yv_call (f := 13) (fun _ => by go_simp) o ho (by simp only [List.map_toArray, List.map_cons, List.map_nil, eval_const, e1, e2])) ((HW w).mono fun e w' h => ⟨_, h.1, h.2, fun _ => rfl⟩)) ?_
  refine StepsAt.next (fun _ _ _ h _ => h) (fun j b h => by cases h) (fun a w hl hb hd o ho => by obtain ⟨v1, e1, q1⟩ := hd 3 _ _ (by simp) rfl rfl; subst q1; exact Runs.val (yv_move (S := fun _ => True) e1 o w ho trivial) ⟨Lat.refl _, fun _ => rfl⟩) ?_
  refine StepsAt.next (fun _ _ _ h _ => h) (fun j b h => by cases h) (fun a w hl hb hd o ho => by obtain ⟨v1, e1, q1⟩ := hd 4 _ _ (by simp) rfl rfl; subst q1; obtain ⟨d, op, ty, p, af, g⟩ := o; simp only at ho; subst ho; have ec : ∀ v, a.eval (.const v) = v := fun _ => rfl; exact Runs.val (by unfold execOp; generalize a.eval = ev at e1 ec ⊢; simp only [e1, ec]; go_simp) ⟨Lat.refl _, fun _ => rfl⟩) ?_
  refine StepsAt.next (fun _ _ _ h _ => h) (fun j b h => by cases h) (fun a w hl hb hd o ho => by obtain ⟨v1, e1, q1⟩ := hd 4 _ _ (by simp) rfl rfl; subst q1; obtain ⟨d, op, ty, p, af, g⟩ := o; simp only at ho; subst ho; have ec : ∀ v, a.eval (.const v) = v := fun _ => rfl; exact Runs.val (by unfold execOp; generalize a.eval = ev at e1 ec ⊢; simp only [e1, ec]; go_simp) ⟨Lat.refl _, fun _ => rfl⟩) ?_
  refine StepsAt.next (fun _ _ _ h _ => h) (fun j b h => by cases h) (fun a w hl hb hd o ho => by obtain ⟨v1, e1, q1⟩ := hd 4 _ _ (by simp) rfl rfl; subst q1; obtain ⟨d, op, ty, p, af, g⟩ := o; simp only at ho; subst ho; have ec : ∀ v, a.eval (.const v) = v := fun _ => rfl; exact Runs.val (by unfold execOp; generalize a.eval = ev at e1 ec ⊢; simp only [e1, ec]; go_simp) ⟨Lat.refl _, fun _ => rfl⟩) ?_
  refine StepsAt.skip (by simp [we14_mem]) ?_
  refine StepsAt.skip (by simp [we14_mem]) ?_
  refine StepsAt.skip (by simp [we14_mem]) ?_
  refine StepsAt.skip (by simp [we14_mem]) ?_
  refine StepsAt.next (fun _ _ _ h _ => h) (fun j b h => by cases h) (fun a w hl hb hd o ho => by obtain ⟨v1, e1, q1⟩ := hd 7 _ _ (by simp) rfl rfl; subst q1; exact Runs.val (yv_assignS (S := fun _ => True) e1 o w ho trivial) ⟨Lat.refl _, fun _ => rfl⟩) ?_
  exact StepsAt.none

theorem wr_succ {ns : List Int} {j : Nat} {x : Int} (h : ns[j]? = some x) : wRows ((ns.take (j + 1)).map W8.of) = wRows ((ns.take j).map W8.of) ++ [wRow (W8.of x)] := by
  obtain ⟨hlt, e⟩ := List.getElem?_eq_some_iff.1 h
  rw [List.take_succ_eq_append_getElem hlt, e]
  simp [wRows]
theorem wr_len (ns : List Int) (j : Nat) (h : j ≤ ns.length) : (wRows ((ns.take j).map W8.of)).length = j := by
  simp [wRows]
  omega
theorem preS_cap {ns : List Int} (h : ∀ x ∈ ns, 0 ≤ x ∧ x ≤ 65535) : ∀ j, preS ns j ≤ (j : Int) * 65535
  | 0 => by rw [preS_zero]; decide
  | j + 1 => by
    have ih := preS_cap h j
    cases e : ns[j]? with
    | some x => rw [preS_succ e]; have := (h x (List.mem_of_getElem? e)).2; omega
    | none =>
      have hl : ns.length ≤ j := List.getElem?_eq_none_iff.1 e
      have : preS ns (j + 1) = preS ns j := by unfold preS; rw [List.take_of_length_le hl, List.take_of_length_le (by omega)]
      omega
theorem we_sum {ns : List Int} (h : ∀ x ∈ ns, 0 ≤ x ∧ x ≤ 65535) {j : Nat} {x : Int} (hx : ns[j]? = some x) (hj : j < 12) : wrap64 (preS ns j + x) = preS ns (j + 1) := by
  have h1 := preS_cap h j
  have h2 := preS_top (fun y hy => (h y hy).1) j
  have h3 := h x (List.mem_of_getElem? hx)
  rw [preS_succ hx]
  exact IntWalk.wrap64_in _ (by omega)
set_option maxRecDepth 100000 in
set_option maxHeartbeats 4000000 in
theorem cWeights_from (HWK : ∀ w, Calls Tryz.prog 7 #[] w (fun e w' => e = .returned (.bool true) ∧ Lat w w')) (s : Nat) (A0 : Option Addr) (n0 c0 : Nat) (xs : List Int)
    (b1 b2 : Bool) (A1 A2 : Option Addr) (n1 c1 n2 c2 : Nat) (l1 l2 : Int) (w : World) (h1 : DrIn w A1 n1 l1) (h2 : DrIn w A2 n2 l2) (h0 : Sl w .u16 A0 n0 xs) (hx : ∀ x ∈ xs, 0 ≤ x ∧ x ≤ 65535) (hc : n0 ≤ c0)
    (m : Nat) (hm : m ≤ n0) (hm12 : m ≤ 12) (hmin : min ((n0 : Nat) : Int) 12 = (m : Int)) (HOF : ∀ z : Int, 0 ≤ z → z ≤ 65535 → ∀ w, Calls Tryz.prog 15 #[.int .i64 z] w (fun e w' => e = .returned (.agg #[.int .u64 (W8.of z).a0, .int .u64 (W8.of z).a1, .int .u64 (W8.of z).a2, .int .u64 (W8.of z).a3, .int .u64 (W8.of z).a4, .int .u64 (W8.of z).a5, .int .u64 (W8.of z).a6, .int .u64 (W8.of z).a7]) ∧ Lat w w')) (k t : Nat) (en : Int) (HUN' : ∀ w, DrIn w A1 n1 l1 → DrIn w A2 n2 l2 → Calls Tryz.prog 19 #[.agg #[.bool b1, .slice A1 n1 c1, .int .u32 l1, .bool b2, .slice A2 n2 c2, .int .u32 l2]] w (fun e w' => ∃ N D, ShFit N D ∧ 0 ≤ N ∧ N ≤ D ∧ e = .returned (.agg #[.int .u64 (W8.of N).a0, .int .u64 (W8.of N).a1, .int .u64 (W8.of N).a2, .int .u64 (W8.of N).a3, .int .u64 (W8.of N).a4, .int .u64 (W8.of N).a5, .int .u64 (W8.of N).a6, .int .u64 (W8.of N).a7, .int .u64 (W8.of D).a0, .int .u64 (W8.of D).a1, .int .u64 (W8.of D).a2, .int .u64 (W8.of D).a3, .int .u64 (W8.of D).a4, .int .u64 (W8.of D).a5, .int .u64 (W8.of D).a6, .int .u64 (W8.of D).a7]) ∧ Lat w w')) (HSUB' : ∀ N D, ShFit N D → 0 ≤ N → N ≤ D → ∀ w, Calls Tryz.prog 20 #[.agg #[.int .u64 (W8.of D).a0, .int .u64 (W8.of D).a1, .int .u64 (W8.of D).a2, .int .u64 (W8.of D).a3, .int .u64 (W8.of D).a4, .int .u64 (W8.of D).a5, .int .u64 (W8.of D).a6, .int .u64 (W8.of D).a7], .agg #[.int .u64 (W8.of N).a0, .int .u64 (W8.of N).a1, .int .u64 (W8.of N).a2, .int .u64 (W8.of N).a3, .int .u64 (W8.of N).a4, .int .u64 (W8.of N).a5, .int .u64 (W8.of N).a6, .int .u64 (W8.of N).a7]] w (fun e w' => e = .returned (.tuple #[.agg #[.int .u64 (W8.of (D - N)).a0, .int .u64 (W8.of (D - N)).a1, .int .u64 (W8.of (D - N)).a2, .int .u64 (W8.of (D - N)).a3, .int .u64 (W8.of (D - N)).a4, .int .u64 (W8.of (D - N)).a5, .int .u64 (W8.of (D - N)).a6, .int .u64 (W8.of (D - N)).a7], .int .i64 0]) ∧ Lat w w')) (HCP' : ∀ N D, ShFit N D → 0 ≤ N → N ≤ D → ∃ (ub : Bool) (tb : Nat) (eb : Int) (tp : Nat) (ep : Int) (kp : Nat), ((eb = 9 ∧ ep = 9) ∨ (eb = 0 ∧ ep = 0 ∧ tb = tp ∧ ub = decide (((kp : Nat) : Int) = 0) ∧ ∀ w, (Op.equalIn 10000 24 (.agg #[.int .u64 (tp : Nat)]) (.agg #[.int .u64 (tp : Nat)])).run Tryz.prog w = .ok true w)) ∧ (∀ w, Calls Tryz.prog 21 #[.agg #[.int .u64 s], .agg #[.int .u64 (W8.of N).a0, .int .u64 (W8.of N).a1, .int .u64 (W8.of N).a2, .int .u64 (W8.of N).a3, .int .u64 (W8.of N).a4, .int .u64 (W8.of N).a5, .int .u64 (W8.of N).a6, .int .u64 (W8.of N).a7, .int .u64 (W8.of D).a0, .int .u64 (W8.of D).a1, .int .u64 (W8.of D).a2, .int .u64 (W8.of D).a3, .int .u64 (W8.of D).a4, .int .u64 (W8.of D).a5, .int .u64 (W8.of D).a6, .int .u64 (W8.of D).a7]] w (CoinEnd w ub tb eb)) ∧ (∀ (g c : Nat) (w : World), Blk w g 26 #[.int .u64 (W8.of N).a0, .int .u64 (W8.of N).a1, .int .u64 (W8.of N).a2, .int .u64 (W8.of N).a3, .int .u64 (W8.of N).a4, .int .u64 (W8.of N).a5, .int .u64 (W8.of N).a6, .int .u64 (W8.of N).a7, .int .u64 (W8.of (D - N)).a0, .int .u64 (W8.of (D - N)).a1, .int .u64 (W8.of (D - N)).a2, .int .u64 (W8.of (D - N)).a3, .int .u64 (W8.of (D - N)).a4, .int .u64 (W8.of (D - N)).a5, .int .u64 (W8.of (D - N)).a6, .int .u64 (W8.of (D - N)).a7] → Calls Tryz.prog 16 #[.agg #[.int .u64 s], .slice (some ⟨g, 0, none⟩) 2 c] w (PickEnd w (kp : Nat) tp ep))) (HPI : PickIs s (xs.take m) (k : Nat) t en) (HCE : ∀ w, (Op.equalIn 10000 24 (.agg #[.int .u64 (t : Nat)]) (.agg #[.int .u64 (t : Nat)])).run Tryz.prog w = .ok true w) (om bv : W8) (dt : Nat) (fe q : Int) (HOM : ∀ w, Calls Tryz.prog 15 #[.int .i64 (xs.take m).sum] w (fun e w' => e = .returned (.agg #[.int .u64 om.a0, .int .u64 om.a1, .int .u64 om.a2, .int .u64 om.a3, .int .u64 om.a4, .int .u64 om.a5, .int .u64 om.a6, .int .u64 om.a7]) ∧ Lat w w')) (HWD : (∀ w, Calls Tryz.prog 13 #[.agg #[.int .u64 (s : Nat)], .agg #[.int .u64 om.a0, .int .u64 om.a1, .int .u64 om.a2, .int .u64 om.a3, .int .u64 om.a4, .int .u64 om.a5, .int .u64 om.a6, .int .u64 om.a7]] w (fun e w' => e = .returned (.tuple #[.agg #[.int .u64 bv.a0, .int .u64 bv.a1, .int .u64 bv.a2, .int .u64 bv.a3, .int .u64 bv.a4, .int .u64 bv.a5, .int .u64 bv.a6, .int .u64 bv.a7], .agg #[.int .u64 (dt : Nat)], .int .i64 fe]) ∧ Lat w w')) ∧ fe = widE s (xs.take m).sum ∧ (fe = 0 → dt = widS s (xs.take m).sum ∧ q = widV s (xs.take m).sum ∧ 0 ≤ q ∧ q < (xs.take m).sum ∧ ∀ w, Calls Tryz.prog 18 #[.agg #[.int .u64 bv.a0, .int .u64 bv.a1, .int .u64 bv.a2, .int .u64 bv.a3, .int .u64 bv.a4, .int .u64 bv.a5, .int .u64 bv.a6, .int .u64 bv.a7]] w (fun e w' => e = .returned (.tuple #[.int .i64 q, .int .i64 0]) ∧ Lat w w')))
    (HPK : ∀ (A : Option Addr) (c : Nat) (w : World), (m = 0 → A = none) → RowM w A 8 m (wRows ((xs.take m).map W8.of)) → Calls Tryz.prog 16 #[.agg #[.int .u64 s], .slice A m c] w (PickEnd w (k : Nat) t en)) :
    Calls Tryz.prog 4 #[.agg #[.int .u64 (s : Nat)], .slice A0 n0 c0, .agg #[.bool b1, .slice A1 n1 c1, .int .u32 l1, .bool b2, .slice A2 n2 c2, .int .u32 l2] ] w (fun e w' => e = .returned (.bool true) ∧ Lat w w') := by
  have HX := Lib.hid hx
  have HOFH := Lib.hid HOF
  have HPKH := Lib.hid HPK
  have HIH := Lib.hid HPI
  have HCEH := Lib.hid HCE
  have HUN := Lib.hid HUN'
  have HSUB := Lib.hid HSUB'
  have HCP := Lib.hid HCP'
  have HOMH := Lib.hid HOM
  have HWDH := Lib.hid HWD
  clear hx HOF HPK HPI HOM HWD HCE HUN' HSUB' HCP'
  go_enter Tryz.func4, Tryz.ntmps4
  go_upto_region 1 with (fail)
  refine name2 (Q := fun W => Code.wp _ _ _ _ W) ?_
  intro W l0 hsz k3 k5
  obtain ⟨g5, hg5⟩ : ∃ z, w.heap.size + 1 = z := ⟨_, rfl⟩
  obtain ⟨g3, hg3⟩ : ∃ z, w.heap.size = z := ⟨_, rfl⟩
  have hw3 : w.heap.size ≤ g3 := by omega
  rw [hg5] at k5
  rw [hg3] at k3
  rw [hg5, hg3]
  clear hg5 hg3 hsz
  have H1 := Lib.hid (h1.later l0)
  have H2 := Lib.hid (h2.later l0)
  have H0 := Lib.hid (h0.later l0)
  clear h1 h2 h0
  go_wp2_with fail
  refine (HWK W).mono ?_
  rintro e V0 ⟨rfl, la⟩
  replace k3 := k3.later la
  replace k5 := k5.later la
  replace l0 := l0.trans la
  have H1' := Lib.hid (H1.out.later la)
  have H2' := Lib.hid (H2.out.later la)
  have H0' := Lib.hid (H0.out.later la)
  clear la HWK H1 H2 H0
  go_upto_region 5 with (fail)
  have hmz : (0 : Int) ≤ (m : Int) := by omega
  have hmc : (m : Int) ≤ (c0 : Int) := by omega
  go_wp2
  have HMC := Lib.hid hmc
  clear hmc hc hmin
  obtain ⟨ns, hns⟩ : ∃ z, xs.take m = z := ⟨_, rfl⟩
  have HT := H0'.out.take hm
  rw [hns] at HT HPKH HIH HOMH HWDH
  have hlen : ns.length = m := HT.1
  have HN : Hid (∀ x ∈ ns, 0 ≤ x ∧ x ≤ 65535) := fun x h => HX.out x (by rw [← hns] at h; exact List.mem_of_mem_take h)
  go_loopw [7, 8, 39] (fun lv sv i wr => ∃ j : Nat, j ≤ m ∧ i = .int .i64 j ∧ sv = .int .i64 (preS ns j) ∧ (j = 0 → lv = .slice none 0 0) ∧ OwnM wr V0.heap.size 26 8 lv (wRows ((ns.take j).map W8.of)) ∧ Lat V0 wr) (fun _ _ i _ => m - (intOf i).toNat)
  case atStart => exact ⟨0, by omega, rfl, rfl, fun _ => rfl, OwnM.nil _ _ _ _, Lat.refl _⟩
  case round =>
    obtain ⟨j, hj, rfl, rfl, hnil, O, hlr⟩ := hrel
    by_cases hlt : j < m
    · obtain ⟨a, x, rfl, hbl, hx, hcell⟩ := (HT.later hlr).at hlt
      have hxi := HN.out x (List.mem_of_getElem? hx)
      have hwx : wrap64 x = x := IntWalk.wrap64_in _ (by omega)
      have HO1 := HOFH.out x hxi.1 hxi.2
      have hltI : (j : Int) < (m : Int) := by omega
      have b0 : (0 : Int) ≤ (j : Int) := by omega
      go_wp2_with fail
      refine (HO1 _).mono ?_
      rintro e V2 ⟨rfl, l2⟩
      have hps := we_sum HN.out hx (show j < 12 by omega)
      have hlen2 : (wRows ((ns.take j).map W8.of)).length ≤ 100000000 := by rw [wr_len ns j (by omega)]; omega
      have L2 := hlr.trans l2
      have O2 := O.later l2
      clear hlr O HO1 hcell hbl
      have la := Lat.alloc V2 (.cells #[.int .u64 (W8.of x).a0, .int .u64 (W8.of x).a1, .int .u64 (W8.of x).a2, .int .u64 (W8.of x).a3, .int .u64 (W8.of x).a4, .int .u64 (W8.of x).a5, .int .u64 (W8.of x).a6, .int .u64 (W8.of x).a7] 26)
      go_wp2_with (at_builtin; refine wpList_pushM rfl _ _ 45 (by rfl) V0.heap.size 26 26 (.agg #[.int .u64 0, .int .u64 0, .int .u64 0, .int .u64 0, .int .u64 0, .int .u64 0, .int .u64 0, .int .u64 0]) 8 64 Tryz.underlying45 wideInfoA rfl (by decide) (by decide) _ _ [.int .u64 (W8.of x).a0, .int .u64 (W8.of x).a1, .int .u64 (W8.of x).a2, .int .u64 (W8.of x).a3, .int .u64 (W8.of x).a4, .int .u64 (W8.of x).a5, .int .u64 (W8.of x).a6, .int .u64 (W8.of x).a7] (by simp [Value.oneCell']) _ V2.heap.size (by rfl) (O2.later la) (Blk.new _ _ _) rfl 1 (by rfl) hlen2 (Nat.le_trans L2.size la.size) ?_; intro v' w' h1 h2 h3)
      have L4 := h3 _ (L2.trans la) (Nat.le_refl _)
      go_roundw
      case rel => exact ⟨j + 1, by omega, by go_num, by rw [hps], fun h => absurd h (by omega), by rw [wr_succ hx]; exact h1, L4⟩
      case measure => simp [intOf]; omega
    · obtain rfl : j = m := by omega
      obtain ⟨A9, c9, rfl, R9, _, _, hA9⟩ := O.form
      have hwl : (wRows ((ns.take j).map W8.of)).length = j := wr_len ns j (by omega)
      have htk : ns.take j = ns := List.take_of_length_le (by omega)
      rw [htk] at R9 hwl
      rw [htk] at hA9
      rw [hwl] at R9 hA9
      rw [htk, hwl]
      have hsm : preS ns j = ns.sum := by rw [← hlen]; exact preS_all ns
      rw [hsm]
      replace k3 := k3.later hlr
      replace k5 := k5.later hlr
      have HH1 := Lib.hid (H1'.out.later hlr)
      have HH2 := Lib.hid (H2'.out.later hlr)
      have HHT := Lib.hid (HT.later hlr)
      have HP9 := HPKH.out A9 c9 wr (fun h => (Value.slice.inj (hnil h)).1) R9
      replace l0 := l0.trans hlr
      clear O hlr hnil H1' H2' HT HPKH H0' HOFH hsm hwl htk hA9
      have e3 : wr.cell? ⟨g3, 0, none⟩ = some (.int .u64 (s : Int)) := k3.cell 0
      go_wp2_with fail
      refine HP9.mono ?_
      rintro e V2 ⟨rfl, l2⟩
      clear e3 HP9
      go_upto_region 12 with (fail)
      refine name1 (Q := fun W => Code.wp _ _ _ _ W) ?_
      intro V3 l3 hs12 k12
      obtain ⟨g12, hg12⟩ : ∃ z, V2.heap.size = z := ⟨_, rfl⟩
      rw [hg12] at k12 ⊢
      replace k3 := k3.later (l2.trans l3)
      replace k5 := k5.later (l2.trans l3)
      replace l0 := l0.trans (l2.trans l3)
      have HHT' := Lib.hid (HHT.out.later (l2.trans l3))
      have HD1 := Lib.hid (HH1.out.later (l2.trans l3))
      have HD2 := Lib.hid (HH2.out.later (l2.trans l3))
      clear l2 l3 hs12 hg12 HHT HH1 HH2
      have J24 : (Tryz.prog.info? 24).map (·.size) = some 1 := by kernel_rfl
      rcases HIH.out with ⟨z1, z2, z3, z4⟩ | ⟨z1, z2, z3, z4, z5⟩ | ⟨z1, z2, z3, z4, K, z5, z6, z7, z8⟩
      · obtain rfl : k = 0 := by omega
        subst z3
        subst z4
        rw [z1]
        have R12 : ∀ w', Lat V3 w' → w'.rangeAt g12 0 [.int .u64 0] := fun w' hl => (k12.later hl).rangeAll
        clear HIH HHT' HD1 HD2 HX HN k3 k5 k12
        go_upto_region 13 with (fail)
        rename_i KN hKN
        refine wp_region_slots (we13_rows g12) (we13_base g12) 200 6 [[], [], [], [], [0, 1, 2, 3, 0], [4, 4, 0, 1, 2, 3, 4]] (by kernel_rfl) (by kernel_rfl) (by kernel_rfl) (by kernel_rfl) (by kernel_rfl) (by kernel_rfl) (by rfl) rfl (base_of (base_cons rfl (base_cons rfl (base_cons rfl (base_nil _))))) (we13_steps V3 g12 R12 J24) ?_
        · intro a9 W9 hsz9 hdf9 hL9 hbs hsl
          obtain ⟨v9, h9, q9⟩ := hsl 5 _ _ rfl rfl
          obtain rfl : v9 = .bool true := q9
          have w6 := slot_getD h9
          clear h9
          refine hKN _ _ ?_
          obtain ⟨T9, df9⟩ := a9
          obtain rfl : df9 = [] := hdf9
          obtain ⟨f, hf, rfl⟩ := spell200 T9 hsz9
          have x11 : f 11 = .int .i64 0 := (hf 11).trans (slot_getD (hbs 11 _ rfl))
          have x12 : f 12 = .pointer (some ⟨g12, 0, none⟩) := (hf 12).trans (slot_getD (hbs 12 _ rfl))
          have x13 : f 13 = .int .i64 7 := (hf 13).trans (slot_getD (hbs 13 _ rfl))
          have x6 := (hf 6).trans w6
          clear hbs hsl hf hsz9 hKN w6
          simp only [x11, x12, x13, x6]
          clear x11 x12 x13 x6
          have LF := l0.trans hL9
          clear l0 hL9
          go_wp2
          go_ret
          exact ⟨rfl, LF⟩
      · obtain rfl : k = 0 := by omega
        obtain ⟨HW1, hfe, _⟩ := HWDH.out
        rw [z2] at hfe
        subst hfe
        subst z5
        have hz : (ns.sum == 0) = false := by simp; omega
        have HO1 := HOMH.out
        have R3 : ∀ w', Lat V3 w' → w'.rangeAt g3 0 [.int .u64 (s : Nat)] := fun w' hl => (k3.later hl).rangeAll
        generalize ns.sum = sm at *
        clear HIH HWDH HOMH z1 z2
        go_upto_region 14 with (fail)
        rename_i KN hKN
        refine wp_region_mem (we14_rows A0 n0 c0 A9 j c9 sm 0 9 g3 g5 g12 s dt om bv 9) (we14_base A0 n0 c0 A9 j c9 sm 0 9 g3 g5 g12 s dt om bv 9) we14_mem 200 13 [[], [], [1], [0, 2, 2], [3], [4], [4], [4], [], [], [8, 5, 3, 0, 1, 2, 3, 4, 5, 8, 9], [9, 6, 10, 0, 1, 2, 3, 4, 5, 6, 8, 9, 10], [7, 11, 0, 1, 2, 3, 4, 5, 6, 7, 8, 9, 10, 11]] (by kernel_rfl) (by kernel_rfl) (by kernel_rfl) (by kernel_rfl) (by kernel_rfl) (by kernel_rfl) (by kernel_rfl) (by rfl) rfl (base_of (base_cons rfl (base_cons rfl (base_cons rfl (base_cons rfl (base_cons rfl (base_cons rfl (base_cons rfl (base_cons rfl (base_nil _)))))))))) (we14_pure A0 n0 c0 A9 j c9 sm 0 9 g3 g5 g12 s dt om bv 9) (we14_allm A0 n0 c0 A9 j c9 sm 0 9 g3 g5 g12 s dt om bv 9) (we14_steps V3 A0 n0 c0 A9 j c9 sm 0 9 g3 g5 g12 s dt om bv 9 R3 J24 HO1 HW1) ?_
        · intro a9 W9 hsz9 hdf9 hL9 hbs hsl hmm
          obtain ⟨g14, c14, s14, n14, b14, p14, far14⟩ := hmm 0 _ rfl
          obtain ⟨g15, c15, s15, n15, b15, p15, far15⟩ := hmm 1 _ rfl
          obtain ⟨v9, h9, q9⟩ := hsl 5 _ _ rfl rfl
          obtain rfl : v9 = .agg #[.int .u64 bv.a0, .int .u64 bv.a1, .int .u64 bv.a2, .int .u64 bv.a3, .int .u64 bv.a4, .int .u64 bv.a5, .int .u64 bv.a6, .int .u64 bv.a7] := q9
          obtain rfl := slot_agg p14 h9
          clear h9
          obtain ⟨v9, h9, q9⟩ := hsl 6 _ _ rfl rfl
          obtain rfl : v9 = .agg #[.int .u64 (dt : Nat)] := q9
          obtain rfl := slot_agg p15 h9
          clear h9
          have e14_15 : g14 ≠ g15 := far14 1 _ _ (by decide) rfl s15
          obtain ⟨v9, h9, q9⟩ := hsl 12 _ _ rfl rfl
          obtain rfl : v9 = .int .i64 9 := q9
          have w16 := slot_getD h9
          clear h9
          have w14 := slot_getD s14
          have w15 := slot_getD s15
          refine hKN _ _ ?_
          obtain ⟨T9, df9⟩ := a9
          obtain rfl : df9 = [] := hdf9
          obtain ⟨f, hf, rfl⟩ := spell200 T9 hsz9
          have x1 : f 1 = .slice A0 n0 c0 := (hf 1).trans (slot_getD (hbs 1 _ rfl))
          have x3 : f 3 = .pointer (some ⟨g3, 0, none⟩) := (hf 3).trans (slot_getD (hbs 3 _ rfl))
          have x5 : f 5 = .pointer (some ⟨g5, 0, none⟩) := (hf 5).trans (slot_getD (hbs 5 _ rfl))
          have x7 : f 7 = .slice A9 j c9 := (hf 7).trans (slot_getD (hbs 7 _ rfl))
          have x8 : f 8 = .int .i64 sm := (hf 8).trans (slot_getD (hbs 8 _ rfl))
          have x11 : f 11 = .int .i64 ((0 : Nat) : Int) := (hf 11).trans (slot_getD (hbs 11 _ rfl))
          have x12 : f 12 = .pointer (some ⟨g12, 0, none⟩) := (hf 12).trans (slot_getD (hbs 12 _ rfl))
          have x13 : f 13 = .int .i64 9 := (hf 13).trans (slot_getD (hbs 13 _ rfl))
          have x16 : f 16 = .int .i64 9 := (hf 16).trans w16
          have x14 : f 14 = .pointer (some ⟨g14, 0, none⟩) := (hf 14).trans w14
          have x15 : f 15 = .pointer (some ⟨g15, 0, none⟩) := (hf 15).trans w15
          clear hbs hsl hmm hf hsz9 hKN s14 p14 far14 s15 p15 far15 w16 w14 w15
          simp only [x1, x3, x5, x7, x8, x11, x12, x13, x16, x14, x15]
          clear x1 x3 x5 x7 x8 x11 x12 x13 x16 x14 x15
          have LF := l0.trans hL9
          clear l0 hL9 b14 b15 n14 n15 e14_15
          go_wp2
          go_ret
          exact ⟨rfl, LF⟩
      · obtain ⟨HW1, hfe, hrest⟩ := HWDH.out
        rw [z2] at hfe
        subst hfe
        subst z3
        obtain ⟨q1, q2, q3, q4, HI⟩ := hrest rfl
        rw [← z4] at q1
        rw [← q2] at z7 z8
        obtain rfl : k = K := by omega
        subst q1
        have b0 : ¬ (k : Int) < 0 := by omega
        have b1' : ¬ (j : Int) ≤ (k : Int) := by omega
        have b2' : ¬ q < 0 := by omega
        have b3' : ¬ ns.sum ≤ q := by omega
        have HZ := Lib.hid (show preS ns k ≤ q ∧ q < preS ns (k + 1) ∧ k < ns.length from ⟨z7, z8, z6⟩)
        have hz : (ns.sum == 0) = false := by simp; omega
        have HO1 := HOMH.out
        have R3 : ∀ w', Lat V3 w' → w'.rangeAt g3 0 [.int .u64 (s : Nat)] := fun w' hl => (k3.later hl).rangeAll
        obtain ⟨sm, hsm⟩ : ∃ z, ns.sum = z := ⟨_, rfl⟩
        rw [hsm] at hz HO1 b3' ⊢
        clear HIH HWDH HOMH z1 z2 z4 z5 z6 z7 z8 q2 q3 q4 hrest
        go_upto_region 14 with (fail)
        rename_i KN hKN
        refine wp_region_mem (we14_rows A0 n0 c0 A9 j c9 sm k 0 g3 g5 g12 s dt om bv 0) (we14_base A0 n0 c0 A9 j c9 sm k 0 g3 g5 g12 s dt om bv 0) we14_mem 200 13 [[], [], [1], [0, 2, 2], [3], [4], [4], [4], [], [], [8, 5, 3, 0, 1, 2, 3, 4, 5, 8, 9], [9, 6, 10, 0, 1, 2, 3, 4, 5, 6, 8, 9, 10], [7, 11, 0, 1, 2, 3, 4, 5, 6, 7, 8, 9, 10, 11]] (by kernel_rfl) (by kernel_rfl) (by kernel_rfl) (by kernel_rfl) (by kernel_rfl) (by kernel_rfl) (by kernel_rfl) (by rfl) rfl (base_of (base_cons rfl (base_cons rfl (base_cons rfl (base_cons rfl (base_cons rfl (base_cons rfl (base_cons rfl (base_cons rfl (base_nil _)))))))))) (we14_pure A0 n0 c0 A9 j c9 sm k 0 g3 g5 g12 s dt om bv 0) (we14_allm A0 n0 c0 A9 j c9 sm k 0 g3 g5 g12 s dt om bv 0) (we14_steps V3 A0 n0 c0 A9 j c9 sm k 0 g3 g5 g12 s dt om bv 0 R3 J24 HO1 HW1) ?_
        · intro a9 W9 hsz9 hdf9 hL9 hbs hsl hmm
          obtain ⟨g14, c14, s14, n14, b14, p14, far14⟩ := hmm 0 _ rfl
          obtain ⟨g15, c15, s15, n15, b15, p15, far15⟩ := hmm 1 _ rfl
          obtain ⟨v9, h9, q9⟩ := hsl 5 _ _ rfl rfl
          obtain rfl : v9 = .agg #[.int .u64 bv.a0, .int .u64 bv.a1, .int .u64 bv.a2, .int .u64 bv.a3, .int .u64 bv.a4, .int .u64 bv.a5, .int .u64 bv.a6, .int .u64 bv.a7] := q9
          obtain rfl := slot_agg p14 h9
          clear h9
          obtain ⟨v9, h9, q9⟩ := hsl 6 _ _ rfl rfl
          obtain rfl : v9 = .agg #[.int .u64 (dt : Nat)] := q9
          obtain rfl := slot_agg p15 h9
          clear h9
          have e14_15 : g14 ≠ g15 := far14 1 _ _ (by decide) rfl s15
          obtain ⟨v9, h9, q9⟩ := hsl 12 _ _ rfl rfl
          obtain rfl : v9 = .int .i64 0 := q9
          have w16 := slot_getD h9
          clear h9
          have w14 := slot_getD s14
          have w15 := slot_getD s15
          refine hKN _ _ ?_
          obtain ⟨T9, df9⟩ := a9
          obtain rfl : df9 = [] := hdf9
          obtain ⟨f, hf, rfl⟩ := spell200 T9 hsz9
          have x1 : f 1 = .slice A0 n0 c0 := (hf 1).trans (slot_getD (hbs 1 _ rfl))
          have x3 : f 3 = .pointer (some ⟨g3, 0, none⟩) := (hf 3).trans (slot_getD (hbs 3 _ rfl))
          have x5 : f 5 = .pointer (some ⟨g5, 0, none⟩) := (hf 5).trans (slot_getD (hbs 5 _ rfl))
          have x7 : f 7 = .slice A9 j c9 := (hf 7).trans (slot_getD (hbs 7 _ rfl))
          have x8 : f 8 = .int .i64 sm := (hf 8).trans (slot_getD (hbs 8 _ rfl))
          have x11 : f 11 = .int .i64 (k : Nat) := (hf 11).trans (slot_getD (hbs 11 _ rfl))
          have x12 : f 12 = .pointer (some ⟨g12, 0, none⟩) := (hf 12).trans (slot_getD (hbs 12 _ rfl))
          have x13 : f 13 = .int .i64 0 := (hf 13).trans (slot_getD (hbs 13 _ rfl))
          have x16 : f 16 = .int .i64 0 := (hf 16).trans w16
          have x14 : f 14 = .pointer (some ⟨g14, 0, none⟩) := (hf 14).trans w14
          have x15 : f 15 = .pointer (some ⟨g15, 0, none⟩) := (hf 15).trans w15
          clear hbs hsl hmm hf hsz9 hKN s14 p14 far14 s15 p15 far15 w16 w14 w15
          simp only [x1, x3, x5, x7, x8, x11, x12, x13, x16, x14, x15]
          clear x1 x3 x5 x7 x8 x11 x12 x13 x16 x14 x15
          replace l0 := l0.trans hL9
          replace k3 := k3.later hL9
          replace k5 := k5.later hL9
          replace k12 := k12.later hL9
          have HHT2 := Lib.hid (HHT'.out.later hL9)
          have HE1 := Lib.hid (HD1.out.later hL9)
          have HE2 := Lib.hid (HD2.out.later hL9)
          clear hL9 n14 n15 e14_15 HHT' HD1 HD2 R3 J24 HO1 HW1
          have R14 : ∀ w', Lat W9 w' → w'.rangeAt g14 0 [.int .u64 bv.a0, .int .u64 bv.a1, .int .u64 bv.a2, .int .u64 bv.a3, .int .u64 bv.a4, .int .u64 bv.a5, .int .u64 bv.a6, .int .u64 bv.a7] := fun w' hl => (b14.later hl).rangeAll
          have J26 : (Tryz.prog.info? 26).map (·.size) = some 8 := by kernel_rfl
          go_wp2_with (refine wpList_load_mid (by rfl) 26 (.tmp 14) (by rfl) g14 0 (by rfl) [.int .u64 bv.a0, .int .u64 bv.a1, .int .u64 bv.a2, .int .u64 bv.a3, .int .u64 bv.a4, .int .u64 bv.a5, .int .u64 bv.a6, .int .u64 bv.a7] _ (R14 _ (Lat.refl _)) Tryz.underlying26 rfl J26 ?_)
          refine (HI W9).mono ?_
          rintro e V4 ⟨rfl, l4⟩
          replace l0 := l0.trans l4
          replace k3 := k3.later l4
          replace k5 := k5.later l4
          replace k12 := k12.later l4
          replace b15 := b15.later l4
          have HHT3 := Lib.hid (HHT2.out.later l4)
          have HG1 := Lib.hid (HE1.out.later l4)
          have HG2 := Lib.hid (HE2.out.later l4)
          clear l4 R14 J26 HI HHT2 HE1 HE2 b14
          have c12 : V4.cell? ⟨g12, 0, none⟩ = some (.int .u64 (dt : Int)) := k12.cell 0
          have c15 : V4.cell? ⟨g15, 0, none⟩ = some (.int .u64 (dt : Int)) := b15.cell 0
          go_upto_region 18 with (fail)
          have HCE := HCEH.out
          go_upto_region 20 with (fail)
          clear HCE c12 c15 b15 k12 HCEH
          have hkc : (k : Int) ≤ (c0 : Int) := by have := HMC.out; omega
          have hk0 : (0 : Int) ≤ (k : Int) := by omega
          have hkj : k < j := by have := HZ.out.2.2; omega
          clear b0 b1' b2' b3' hz
          go_upto_region 22 with (fail)
          go_loopw [19, 124] (fun sv i wr => ∃ jj : Nat, jj ≤ k ∧ i = .int .i64 jj ∧ sv = .int .i64 (preS ns jj) ∧ Lat V4 wr) (fun _ i _ => k - (intOf i).toNat)
          case atStart => exact ⟨0, by omega, rfl, rfl, Lat.refl _⟩
          case round =>
            obtain ⟨jj, hjj, rfl, rfl, hlr⟩ := hrel
            by_cases hlt : jj < k
            · obtain ⟨a, x, hA, hbl, hx, hcell⟩ := (HHT3.out.later hlr).at (show jj < j by omega)
              have hps := we_sum HN.out hx (show jj < 12 by omega)
              have hwx : wrap64 x = x := IntWalk.wrap64_in _ (by have := HN.out x (List.mem_of_getElem? hx); omega)
              have hltI : (jj : Int) < (k : Int) := by omega
              have b0 : (0 : Int) ≤ (jj : Int) := by omega
              subst hA
              go_wp2
              go_roundw
              case rel => exact ⟨jj + 1, by omega, by go_num, by rw [hps], hlr⟩
              case measure => simp [intOf]; omega
            · obtain rfl : jj = k := by omega
              obtain ⟨a, x, hA, hbl, hx, hcell⟩ := (HHT3.out.later hlr).at hkj
              have hps := we_sum HN.out hx (show jj < 12 by omega)
              have hwx : wrap64 x = x := IntWalk.wrap64_in _ (by have := HN.out x (List.mem_of_getElem? hx); omega)
              have hjn : (jj : Int) < (n0 : Int) := by omega
              have d1 : ¬ q < preS ns jj := by have := HZ.out.1; omega
              have d2 : ¬ preS ns (jj + 1) ≤ q := by have := HZ.out.2.1; omega
              obtain ⟨pa, hpa⟩ : ∃ z, preS ns jj = z := ⟨_, rfl⟩
              obtain ⟨pb, hpb⟩ : ∃ z, preS ns (jj + 1) = z := ⟨_, rfl⟩
              rw [hpa, hpb] at hps
              rw [hpa] at d1 ⊢
              rw [hpb] at d2
              subst hA
              clear HZ HN HX HHT3 hx hpa hpb
              go_upto_region 28 with (fail)
              replace k3 := k3.later hlr
              replace k5 := k5.later hlr
              replace l0 := l0.trans hlr
              have HJ1 := Lib.hid (HG1.out.later hlr)
              have HJ2 := Lib.hid (HG2.out.later hlr)
              clear hlr HG1 HG2 hcell hps hwx hjn d1 d2 hbl
              have R5 : wr.rangeAt g5 0 [.bool b1, .slice A1 n1 c1, .int .u32 l1, .bool b2, .slice A2 n2 c2, .int .u32 l2] := k5.rangeAll
              have J44 : (Tryz.prog.info? 44).map (·.size) = some 6 := by kernel_rfl
              go_wp2_with (refine wpList_load_mid (by rfl) 44 (.tmp 5) (by rfl) g5 0 (by rfl) [.bool b1, .slice A1 n1 c1, .int .u32 l1, .bool b2, .slice A2 n2 c2, .int .u32 l2] _ R5 Tryz.underlying44 rfl J44 ?_)
              refine (HUN.out wr HJ1.out HJ2.out).mono ?_
              rintro e V5 ⟨N, D, hfit, hN0, hND, rfl, l5⟩
              replace k3 := k3.later l5
              replace l0 := l0.trans l5
              clear l5 HJ1 HJ2 R5 J44 k5 HUN
              go_upto_region 29 with (fail)
              refine name1 (Q := fun W => Code.wp _ _ _ _ W) ?_
              intro V6 l6 hs22 k22
              obtain ⟨g22, hg22⟩ : ∃ z, V5.heap.size = z := ⟨_, rfl⟩
              rw [hg22] at k22 ⊢
              replace k3 := k3.later l6
              replace l0 := l0.trans l6
              clear l6 hs22 hg22
              have d0 := k22.cell 0
              have d1 := k22.cell 1
              have d2 := k22.cell 2
              have d3 := k22.cell 3
              have d4 := k22.cell 4
              have d5 := k22.cell 5
              have d6 := k22.cell 6
              have d7 := k22.cell 7
              have d8 := k22.cell 8
              have d9 := k22.cell 9
              have d10 := k22.cell 10
              have d11 := k22.cell 11
              have d12 := k22.cell 12
              have d13 := k22.cell 13
              have d14 := k22.cell 14
              have d15 := k22.cell 15
              have HSB := HSUB.out N D hfit hN0 hND
              go_wp2_with fail
              refine (HSB V6).mono ?_
              rintro e V7 ⟨rfl, l7⟩
              clear d0 d1 d2 d3 d4 d5 d6 d7 d8 d9 d10 d11 d12 d13 d14 d15
              replace k3 := k3.later l7
              replace k22 := k22.later l7
              replace l0 := l0.trans l7
              clear l7 HSB HSUB
              go_upto_region 30 with (fail)
              refine name1 (Q := fun W => Code.wp _ _ _ _ W) ?_
              intro V8 l8 hs23 k23
              obtain ⟨g23, hg23⟩ : ∃ z, V7.heap.size = z := ⟨_, rfl⟩
              rw [hg23] at k23 ⊢
              replace k3 := k3.later l8
              replace k22 := k22.later l8
              replace l0 := l0.trans l8
              clear l8 hs23 hg23
              obtain ⟨ub, tb, eb, tp, ep, kp, HEND, HCO, HPK2⟩ := HCP.out N D hfit hN0 hND
              have d0 := k22.cell 0
              have d1 := k22.cell 1
              have d2 := k22.cell 2
              have d3 := k22.cell 3
              have d4 := k22.cell 4
              have d5 := k22.cell 5
              have d6 := k22.cell 6
              have d7 := k22.cell 7
              have d8 := k22.cell 8
              have d9 := k22.cell 9
              have d10 := k22.cell 10
              have d11 := k22.cell 11
              have d12 := k22.cell 12
              have d13 := k22.cell 13
              have d14 := k22.cell 14
              have d15 := k22.cell 15
              have e3 : V8.cell? ⟨g3, 0, none⟩ = some (.int .u64 (s : Int)) := k3.cell 0
              go_wp2_with fail
              refine (HCO V8).mono ?_
              rintro e V9 ⟨rfl, l9⟩
              clear d0 d1 d2 d3 d4 d5 d6 d7 d8 d9 d10 d11 d12 d13 d14 d15
              replace k3 := k3.later l9
              replace k22 := k22.later l9
              replace k23 := k23.later l9
              replace l0 := l0.trans l9
              clear l9 HCO e3
              go_upto_region 31 with (fail)
              refine name1 (Q := fun W => Code.wp _ _ _ _ W) ?_
              intro X1 l10 hs26 k26
              obtain ⟨g26, hg26⟩ : ∃ z, V9.heap.size = z := ⟨_, rfl⟩
              rw [hg26] at k26 ⊢
              replace k3 := k3.later l10
              replace k22 := k22.later l10
              replace k23 := k23.later l10
              replace l0 := l0.trans l10
              clear l10 hs26 hg26
              have d0 := k22.cell 0
              have d1 := k22.cell 1
              have d2 := k22.cell 2
              have d3 := k22.cell 3
              have d4 := k22.cell 4
              have d5 := k22.cell 5
              have d6 := k22.cell 6
              have d7 := k22.cell 7
              have h0 := k23.cell 0
              have h1 := k23.cell 1
              have h2 := k23.cell 2
              have h3 := k23.cell 3
              have h4 := k23.cell 4
              have h5 := k23.cell 5
              have h6 := k23.cell 6
              have h7 := k23.cell 7
              have e3 : X1.cell? ⟨g3, 0, none⟩ = some (.int .u64 (s : Int)) := k3.cell 0
              go_wp2_with fail
              refine name1 (Q := fun W => Calls _ _ _ W _) ?_
              intro X2 l11 hs27 k27
              refine (HPK2 _ _ X2 k27).mono ?_
              rintro e X3 ⟨rfl, l12⟩
              clear d0 d1 d2 d3 d4 d5 d6 d7
              clear h0 h1 h2 h3 h4 h5 h6 h7
              replace k26 := k26.later (l11.trans l12)
              replace l0 := l0.trans (l11.trans l12)
              clear l11 l12 hs27 k27 HPK2 e3 k3 k22 k23
              go_upto_region 32 with (fail)
              refine name1 (Q := fun W => Code.wp _ _ _ _ W) ?_
              intro X4 l13 hs29 k29
              obtain ⟨g29, hg29⟩ : ∃ z, X3.heap.size = z := ⟨_, rfl⟩
              rw [hg29] at k29 ⊢
              replace k26 := k26.later l13
              replace l0 := l0.trans l13
              clear l13 hs29 hg29
              rcases HEND with ⟨rfl, rfl⟩ | ⟨rfl, rfl, rfl, hub, HCE2⟩
              · clear k26 k29
                go_wp2
                go_ret
                exact ⟨rfl, l0⟩
              · have c26 : X4.cell? ⟨g26, 0, none⟩ = some (.int .u64 (tb : Int)) := k26.cell 0
                have c29 : X4.cell? ⟨g29, 0, none⟩ = some (.int .u64 (tb : Int)) := k29.cell 0
                clear k26 k29
                have hkb : (((kp : Nat) : Int) == 0) = ub := by
                  rw [hub]
                  by_cases h : ((kp : Nat) : Int) = 0
                  · rw [h]; rfl
                  · rw [decide_eq_false h]; exact beq_eq_false_iff_ne.2 h
                clear hub
                cases ub
                · go_wp2
                  go_ret
                  exact ⟨rfl, l0⟩
                · go_wp2
                  go_ret
                  exact ⟨rfl, l0⟩
end Go.Proofs.YtogkkhaepfablaaGreat
