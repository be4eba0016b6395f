/- Several texts in one: ClB, ClC. -/
import Derived.Test.YtogkkhaepfablaaK32
import Derived.Test.YtogkkhaepfablaaK33
import Derived.Test.YtogkkhaepfablaaSlq
import Derived.Test.YtogkkhaepfablaaCwC
import Derived.Test.YtogkkhaepfablaaChG
import Derived.Test.YtogkkhaepfablaaCwD

/- Chance: the law of shuffled lists and labels, walked. -/
namespace Go.Proofs.Ytogkkhaepfablaa
open Go.RowKit Go.Shelf
set_option linter.unusedSimpArgs false
set_option linter.unusedVariables false

noncomputable def cl26_rows (gw gl cw n t p1 p2 : Nat) (ab : Bool) (a b : Int) : List SRow := [
  ⟨Op.move (Operand.tmp 18), some 128, none, [], fun v _ => v = .slice (some ⟨gw, 0, none⟩) n cw⟩,
  ⟨Op.move (Operand.tmp 9), some 129, none, [], fun v _ => v = .slice (some ⟨gl, 0, none⟩) n n⟩,
  ⟨Op.call { callee := Callee.value (Operand.func 11), args := #[Operand.tmp 128, Operand.tmp 129], argTypes := #[28, 28] }, some 130, none, [0, 1], fun v _ => v = .bool true⟩,
  ⟨Op.move (Operand.tmp 130), some 131, none, [2, 2], fun v _ => v = .bool true⟩,
  ⟨Op.load 24 (Operand.tmp 4), some 132, some (3, true), [3], fun v _ => v = .agg #[.int .u64 (t : Nat)]⟩,
  ⟨Op.load 24 (Operand.tmp 10), some 133, some (3, true), [3], fun v _ => v = .agg #[.int .u64 (t : Nat)]⟩,
  ⟨Op.binOp BinOp.eql 24 (Operand.tmp 132) (Operand.tmp 133) 24, some 134, some (3, true), [4, 5, 3], fun v _ => v = .bool true⟩,
  ⟨Op.pick (Operand.tmp 131) (Operand.tmp 134) (Operand.const (Value.bool false)), some 135, none, [3, 6], fun v _ => v = .bool true⟩,
  ⟨Op.move (Operand.tmp 135), some 136, none, [7, 3], fun v _ => v = .bool true⟩,
  ⟨Op.load 24 (Operand.tmp 4), some 137, some (8, true), [8], fun v _ => v = .agg #[.int .u64 (t : Nat)]⟩,
  ⟨Op.move (Operand.tmp 2), some 138, some (8, true), [8], fun v _ => v = .int .i64 a⟩,
  ⟨Op.call { callee := Callee.value (Operand.func 16), args := #[Operand.tmp 137, Operand.tmp 138], argTypes := #[24, 3] }, some 139, some (8, true), [9, 10, 8, 8], fun v _ => v = .agg #[.int .u64 (p1 : Nat)]⟩,
  ⟨Op.load 24 (Operand.tmp 4), some 140, some (8, true), [8], fun v _ => v = .agg #[.int .u64 (t : Nat)]⟩,
  ⟨Op.move (Operand.tmp 3), some 141, some (8, true), [8], fun v _ => v = .int .i64 b⟩,
  ⟨Op.call { callee := Callee.value (Operand.func 16), args := #[Operand.tmp 140, Operand.tmp 141], argTypes := #[24, 3] }, some 142, some (8, true), [12, 13, 11, 8], fun v _ => v = .agg #[.int .u64 (p2 : Nat)]⟩,
  ⟨Op.binOp BinOp.eql 24 (Operand.tmp 139) (Operand.tmp 142) 24, some 143, some (8, true), [11, 14, 8], fun v _ => v = .bool ab⟩,
  ⟨Op.move (Operand.tmp 2), some 144, some (8, true), [8], fun v _ => v = .int .i64 a⟩,
  ⟨Op.move (Operand.tmp 3), some 145, some (8, true), [8], fun v _ => v = .int .i64 b⟩,
  ⟨Op.binOp BinOp.eql 3 (Operand.tmp 144) (Operand.tmp 145) 3, some 146, some (8, true), [16, 17, 8], fun v _ => v = .bool ab⟩,
  ⟨Op.binOp BinOp.eql 4 (Operand.tmp 143) (Operand.tmp 146) 4, some 147, some (8, true), [15, 18, 8], fun v _ => v = .bool true⟩,
  ⟨Op.pick (Operand.tmp 136) (Operand.tmp 147) (Operand.const (Value.bool false)), some 148, none, [8, 19], fun v _ => v = .bool true⟩,
  ⟨Op.assign (Operand.tmp 148), some 8, none, [20, 14, 0, 1, 2, 3, 4, 5, 6, 7, 8, 9, 10, 11, 12, 13, 14, 15, 16, 17, 18, 19, 20], fun v _ => v = .bool true⟩]
noncomputable def cl26_base (gw gl g4 g10 cw n : Nat) (a b : Int) : List (Nat × Value) := [(4, .pointer (some ⟨g4, 0, none⟩)), (9, .slice (some ⟨gl, 0, none⟩) n n), (10, .pointer (some ⟨g10, 0, none⟩)), (18, .slice (some ⟨gw, 0, none⟩) n cw), (2, .int .i64 a), (3, .int .i64 b)]

set_option maxRecDepth 100000 in
set_option maxHeartbeats 4000000 in
theorem cl26_steps (V : World) (gw gl g4 g10 cw n t p1 p2 : Nat) (ab : Bool) (a b : Int) (R4 : ∀ w', Lat V w' → w'.rangeAt g4 0 [.int .u64 (t : Nat)]) (R10 : ∀ w', Lat V w' → w'.rangeAt g10 0 [.int .u64 (t : Nat)])
    (J24 : (Try.prog.info? 24).map (·.size) = some 1) (hgd24 : Hid (Try.prog.eqGuardType Try.prog.depth 24 = false))
    (HT : Hid (∀ w, (binOp .eql 24 (.agg #[.int .u64 (t : Nat)]) (.agg #[.int .u64 (t : Nat)])).run Try.prog w = .ok (.bool true) w)) (HP : Hid (∀ w, (binOp .eql 24 (.agg #[.int .u64 (p1 : Nat)]) (.agg #[.int .u64 (p2 : Nat)])).run Try.prog w = .ok (.bool ab) w))
    (HAB : Hid (decide (a = b) = ab))
    (HEQ : ∀ w, Lat V w → Calls Try.prog 11 #[.slice (some ⟨gw, 0, none⟩) n cw, .slice (some ⟨gl, 0, none⟩) n n] w (fun e w' => e = .returned (.bool true) ∧ Lat w w'))
    (HS1 : ∀ w, Calls Try.prog 16 #[.agg #[.int .u64 t], .int .i64 a] w (fun e w' => e = .returned (.agg #[.int .u64 (p1 : Nat)]) ∧ Lat w w')) (HS2 : ∀ w, Calls Try.prog 16 #[.agg #[.int .u64 t], .int .i64 b] w (fun e w' => e = .returned (.agg #[.int .u64 (p2 : Nat)]) ∧ Lat w w')) :
    AllSteps Try.prog (cl26_rows gw gl cw n t p1 p2 ab a b) (cl26_base gw gl g4 g10 cw n a b) V (cl26_rows gw gl cw n t p1 p2 ab a b) := by
  refine AllSteps.next (fun _ _ _ h _ => h) (fun j b h => by cases h) (fun a w hl hb hd o ho => by have e1 := hb 18 _ rfl; exact Runs.val (yv_move (S := fun _ => True) e1 o w ho trivial) ⟨Lat.refl _, fun _ => rfl⟩) ?_
  refine AllSteps.next (fun _ _ _ h _ => h) (fun j b h => by cases h) (fun a w hl hb hd o ho => by have e1 := hb 9 _ rfl; exact Runs.val (yv_move (S := fun _ => True) e1 o w ho trivial) ⟨Lat.refl _, fun _ => rfl⟩) ?_
  refine AllSteps.next (fun _ _ _ h _ => h) (fun j b h => by cases h) (fun a w hl hb hd o ho => by obtain ⟨v1, e1, q1⟩ := hd 0 _ _ (by simp) rfl rfl; subst q1; obtain ⟨v2, e2, q2⟩ := hd 1 _ _ (by simp) rfl rfl; subst q2; exact Runs.call (yv_call (f := 11) (fun _ => by go_simp) o ho (by simp only [List.map_toArray, List.map_cons, List.map_nil, eval_const, e1, e2])) ((HEQ w hl).mono fun e w' h => ⟨_, h.1, h.2, fun _ => rfl⟩)) ?_
  refine AllSteps.next (fun _ _ _ h _ => h) (fun j b h => by cases h) (fun a w hl hb hd o ho => by obtain ⟨v1, e1, q1⟩ := hd 2 _ _ (by simp) rfl rfl; subst q1; exact Runs.val (yv_move (S := fun _ => True) e1 o w ho trivial) ⟨Lat.refl _, fun _ => rfl⟩) ?_
  refine AllSteps.next (fun _ _ _ h _ => h) (fun j b h => by cases h; exact ⟨_, rfl, ⟨_, rfl⟩, by simp, fun _ _ h => h⟩) (fun a w hl hb hd o ho => by have e1 := hb 4 _ rfl; exact Runs.val (yv_load (S := Lat V) e1 R4 Try.underlying24 rfl J24 o w ho hl) ⟨Lat.refl _, fun _ => rfl⟩) ?_
  refine AllSteps.next (fun _ _ _ h _ => h) (fun j b h => by cases h; exact ⟨_, rfl, ⟨_, rfl⟩, by simp, fun _ _ h => h⟩) (fun a w hl hb hd o ho => by have e1 := hb 10 _ rfl; exact Runs.val (yv_load (S := Lat V) e1 R10 Try.underlying24 rfl J24 o w ho hl) ⟨Lat.refl _, fun _ => rfl⟩) ?_
  refine AllSteps.next (fun _ _ _ h _ => h) (fun j b h => by cases h; exact ⟨_, rfl, ⟨_, rfl⟩, by simp, fun _ _ h => h⟩) (fun a w hl hb hd o ho => by obtain ⟨v1, e1, q1⟩ := hd 4 _ _ (by simp) rfl rfl; obtain ⟨v2, e2, q2⟩ := hd 5 _ _ (by simp) rfl rfl; subst q1; subst q2; exact Runs.val (yv_bin (S := fun _ => True) e1 e2 hgd24.out HT.out o w ho trivial) ⟨Lat.refl _, fun _ => rfl⟩) ?_
  refine AllSteps.next (fun _ _ _ h _ => h) (fun j b h => by cases h) (fun a w hl hb hd o ho => by obtain ⟨v1, e1, q1⟩ := hd 3 _ _ (by simp) rfl rfl; obtain ⟨v2, e2, q2⟩ := hd 6 _ _ (by simp) rfl rfl; subst q1; subst q2; exact Runs.val (yv_pick (S := fun _ => True) e1 e2 o w ho trivial) ⟨Lat.refl _, fun _ => rfl⟩) ?_
  refine AllSteps.next (fun _ _ _ h _ => h) (fun j b h => by cases h) (fun a w hl hb hd o ho => by obtain ⟨v1, e1, q1⟩ := hd 7 _ _ (by simp) rfl rfl; subst q1; exact Runs.val (yv_move (S := fun _ => True) e1 o w ho trivial) ⟨Lat.refl _, fun _ => rfl⟩) ?_
  refine AllSteps.next (fun _ _ _ h _ => h) (fun j b h => by cases h; exact ⟨_, rfl, ⟨_, rfl⟩, by simp, fun _ _ h => h⟩) (fun a w hl hb hd o ho => by have e1 := hb 4 _ rfl; exact Runs.val (yv_load (S := Lat V) e1 R4 Try.underlying24 rfl J24 o w ho hl) ⟨Lat.refl _, fun _ => rfl⟩) ?_
  refine AllSteps.next (fun _ _ _ h _ => h) (fun j b h => by cases h; exact ⟨_, rfl, ⟨_, rfl⟩, by simp, fun _ _ h => h⟩) (fun a w hl hb hd o ho => by have e1 := hb 2 _ rfl; exact Runs.val (yv_move (S := fun _ => True) e1 o w ho trivial) ⟨Lat.refl _, fun _ => rfl⟩) ?_
  refine AllSteps.next (fun _ _ _ h _ => h) (fun j b h => by cases h; exact ⟨_, rfl, ⟨_, rfl⟩, by simp, fun _ _ h => h⟩) (fun a w hl hb hd o ho => by obtain ⟨v1, e1, q1⟩ := hd 9 _ _ (by simp) rfl rfl; subst q1; obtain ⟨v2, e2, q2⟩ := hd 10 _ _ (by simp) rfl rfl; subst q2; exact Runs.call (yv_call (f := 16) (fun _ => by go_simp) o ho (by simp only [List.map_toArray, List.map_cons, List.map_nil, eval_const, e1, e2])) ((HS1 w).mono fun e w' h => ⟨_, h.1, h.2, fun _ => rfl⟩)) ?_
  refine AllSteps.next (fun _ _ _ h _ => h) (fun j b h => by cases h; exact ⟨_, rfl, ⟨_, rfl⟩, by simp, fun _ _ h => h⟩) (fun a w hl hb hd o ho => by have e1 := hb 4 _ rfl; exact Runs.val (yv_load (S := Lat V) e1 R4 Try.underlying24 rfl J24 o w ho hl) ⟨Lat.refl _, fun _ => rfl⟩) ?_
  refine AllSteps.next (fun _ _ _ h _ => h) (fun j b h => by cases h; exact ⟨_, rfl, ⟨_, rfl⟩, by simp, fun _ _ h => h⟩) (fun a w hl hb hd o ho => by have e1 := hb 3 _ rfl; exact Runs.val (yv_move (S := fun _ => True) e1 o w ho trivial) ⟨Lat.refl _, fun _ => rfl⟩) ?_
  refine AllSteps.next (fun _ _ _ h _ => h) (fun j b h => by cases h; exact ⟨_, rfl, ⟨_, rfl⟩, by simp, fun _ _ h => h⟩) (fun a w hl hb hd o ho => by obtain ⟨v1, e1, q1⟩ := hd 12 _ _ (by simp) rfl rfl; subst q1; obtain ⟨v2, e2, q2⟩ := hd 13 _ _ (by simp) rfl rfl; subst q2; exact Runs.call (yv_call (f := 16) (fun _ => by go_simp) o ho (by simp only [List.map_toArray, List.map_cons, List.map_nil, eval_const, e1, e2])) ((HS2 w).mono fun e w' h => ⟨_, h.1, h.2, fun _ => rfl⟩)) ?_
  refine AllSteps.next (fun _ _ _ h _ => h) (fun j b h => by cases h; exact ⟨_, rfl, ⟨_, rfl⟩, by simp, fun _ _ h => h⟩) (fun a w hl hb hd o ho => by obtain ⟨v1, e1, q1⟩ := hd 11 _ _ (by simp) rfl rfl; obtain ⟨v2, e2, q2⟩ := hd 14 _ _ (by simp) rfl rfl; subst q1; subst q2; exact Runs.val (yv_bin (S := fun _ => True) e1 e2 hgd24.out HP.out o w ho trivial) ⟨Lat.refl _, fun _ => rfl⟩) ?_
  refine AllSteps.next (fun _ _ _ h _ => h) (fun j b h => by cases h; exact ⟨_, rfl, ⟨_, rfl⟩, by simp, fun _ _ h => h⟩) (fun a w hl hb hd o ho => by have e1 := hb 2 _ rfl; exact Runs.val (yv_move (S := fun _ => True) e1 o w ho trivial) ⟨Lat.refl _, fun _ => rfl⟩) ?_
  refine AllSteps.next (fun _ _ _ h _ => h) (fun j b h => by cases h; exact ⟨_, rfl, ⟨_, rfl⟩, by simp, fun _ _ h => h⟩) (fun a w hl hb hd o ho => by have e1 := hb 3 _ rfl; exact Runs.val (yv_move (S := fun _ => True) e1 o w ho trivial) ⟨Lat.refl _, fun _ => rfl⟩) ?_
  refine AllSteps.next (fun _ _ _ h _ => h) (fun j b h => by cases h; exact ⟨_, rfl, ⟨_, rfl⟩, by simp, fun _ _ h => h⟩) (fun a w hl hb hd o ho => by obtain ⟨v1, e1, q1⟩ := hd 16 _ _ (by simp) rfl rfl; obtain ⟨v2, e2, q2⟩ := hd 17 _ _ (by simp) rfl rfl; subst q1; subst q2; obtain ⟨d, op, ty, p, af, g⟩ := o; simp only at ho; subst ho; exact Runs.val (by unfold execOp; generalize a.eval = ev at e1 e2 ⊢; simp only [e1, e2]; go_simp; rw [← HAB.out]; rfl) ⟨Lat.refl _, fun _ => rfl⟩) ?_
  refine AllSteps.next (fun _ _ _ h _ => h) (fun j b h => by cases h; exact ⟨_, rfl, ⟨_, rfl⟩, by simp, fun _ _ h => h⟩) (fun a w hl hb hd o ho => by obtain ⟨v1, e1, q1⟩ := hd 15 _ _ (by simp) rfl rfl; obtain ⟨v2, e2, q2⟩ := hd 18 _ _ (by simp) rfl rfl; subst q1; subst q2; obtain ⟨d, op, ty, p, af, g⟩ := o; simp only at ho; subst ho; exact Runs.val (by unfold execOp; generalize a.eval = ev at e1 e2 ⊢; simp only [e1, e2]; cases ab <;> go_simp) ⟨Lat.refl _, fun _ => rfl⟩) ?_
  refine AllSteps.next (fun _ _ _ h _ => h) (fun j b h => by cases h) (fun a w hl hb hd o ho => by obtain ⟨v1, e1, q1⟩ := hd 8 _ _ (by simp) rfl rfl; obtain ⟨v2, e2, q2⟩ := hd 19 _ _ (by simp) rfl rfl; subst q1; subst q2; exact Runs.val (yv_pick (S := fun _ => True) e1 e2 o w ho trivial) ⟨Lat.refl _, fun _ => rfl⟩) ?_
  refine AllSteps.next (fun _ _ _ h _ => h) (fun j b h => by cases h) (fun a w hl hb hd o ho => by obtain ⟨v1, e1, q1⟩ := hd 20 _ _ (by simp) rfl rfl; subst q1; exact Runs.val (yv_assignS (S := fun _ => True) e1 o w ho trivial) ⟨Lat.refl _, fun _ => rfl⟩) ?_
  exact AllSteps.none


/-- What a copied row is called by. -/
theorem no_some {l : List Int} {t : Nat} (h : (some (l, t) : Option (List Int × Nat)) = none) : False := by cases h
theorem some_two {l l' : List Int} {t t' : Nat} (h : (some (l, t) : Option (List Int × Nat)) = some (l', t')) : l = l' ∧ t = t' := by cases h; exact ⟨rfl, rfl⟩

theorem shQ (i n : Nat) (h : 1 ≤ i) (hn : i < n) (hl : n < 256) : ∃ m : Nat, m = i + 1 ∧ 1 ≤ m ∧ m < 9223372036854775808 ∧ (m : Int) < 9223372036854775808 ∧ (m : Int) = (i : Int) + 1 ∧ wrap64 ((i : Int) + 1) = (m : Int) ∧ wrap64 ((i : Int) - 1) = ((i - 1 : Nat) : Int) :=
  ⟨i + 1, rfl, by omega, by omega, by omega, by omega, by rw [IntWalk.wrap64_in _ (by omega)]; omega, by rw [IntWalk.wrap64_in _ (by omega)]; omega⟩
theorem shJ {i j m n : Nat} (hm : m = i + 1) (hn : i < n) (hj : j < m) : j < n ∧ ¬ (j : Int) < 0 ∧ ¬ (i : Int) < (j : Int) := ⟨by omega, by omega, by omega⟩
set_option maxRecDepth 100000 in
set_option maxHeartbeats 4000000 in
theorem cLists_fail (HWK : ∀ w, Calls Try.prog 8 #[] w (fun e w' => e = .returned (.bool true) ∧ Lat w w')) (s n : Nat) (hn : n < 256)
    (HS : ∀ w, Calls Try.prog 9 #[.agg #[.int .u64 (s : Nat)], .int .i64 (n : Nat)] w (ShufB w n none)) (a b : Int) (w : World) :
    Calls Try.prog 7 #[.agg #[.int .u64 (s : Nat)], .int .u8 (n : Nat), .int .i64 a, .int .i64 b] w (fun e w' => e = .returned (.bool true) ∧ Lat w w') := by
  have hwn : wrap64 (n : Int) = (n : Int) := IntWalk.wrap64_in _ (by omega)
  go_enter Try.func7, Try.ntmps7
  go_upto_region 1 with (fail)
  refine name1 (Q := fun W => Code.wp _ _ _ _ W) ?_
  intro W1 l1' hs1 k4
  obtain ⟨g4, hg4⟩ : ∃ z, w.heap.size = z := ⟨_, rfl⟩
  rw [hg4] at k4 ⊢
  go_wp2_with fail
  refine (HWK W1).mono ?_
  rintro e W2 ⟨rfl, l2'⟩
  replace k4 := k4.later l2'
  have L2 := l1'.trans l2'
  clear l1' l2' HWK hs1 hg4
  have c4 : W2.cell? ⟨g4, 0, none⟩ = some (.int .u64 (s : Int)) := k4.cell 0
  go_wp2_with fail
  refine (HS W2).mono ?_
  rintro e V1 (⟨_, rfl, la⟩ | ⟨_, _, _, h, _⟩)
  case inr => cases h
  replace k4 := k4.later la
  replace L2 := L2.trans la
  clear c4 la
  go_upto_region 4 with (fail)
  refine name1 (Q := fun W => Code.wp _ _ _ _ W) ?_
  intro V2 la hs2 k10
  replace k4 := k4.later la
  replace L2 := L2.trans la
  clear la hs2 k10
  have c4 : V2.cell? ⟨g4, 0, none⟩ = some (.int .u64 (s : Int)) := k4.cell 0
  go_wp2_with fail
  refine (HS V2).mono ?_
  rintro e V3 (⟨_, rfl, la⟩ | ⟨_, _, _, h, _⟩)
  case inr => cases h
  replace k4 := k4.later la
  replace L2 := L2.trans la
  clear c4 la HS
  go_upto_region 5 with (fail)
  refine name1 (Q := fun W => Code.wp _ _ _ _ W) ?_
  intro V4 la hs4 k13
  replace L2 := L2.trans la
  clear la hs4 k13
  go_wp2
  go_ret
  exact ⟨rfl, L2⟩

set_option maxRecDepth 100000 in
set_option maxHeartbeats 4000000 in
theorem cLists_some (HWK : ∀ w, Calls Try.prog 8 #[] w (fun e w' => e = .returned (.bool true) ∧ Lat w w')) (s n : Nat) (hs : s < 18446744073709551616) (hn : n < 256) (l : List Int) (tE : Nat) (ho : shufOpt s n = some (l, tE))
    (HS : ∀ w, Calls Try.prog 9 #[.agg #[.int .u64 (s : Nat)], .int .i64 (n : Nat)] w (ShufB w n (some (l, tE)))) (p1 p2 : Nat) (ab : Bool) (a b : Int)
    (HT : Hid (∀ w, (binOp .eql 24 (.agg #[.int .u64 (tE : Nat)]) (.agg #[.int .u64 (tE : Nat)])).run Try.prog w = .ok (.bool true) w)) (HN : Hid (∀ w, (binOp .neq 24 (.agg #[.int .u64 (tE : Nat)]) (.agg #[.int .u64 (tE : Nat)])).run Try.prog w = .ok (.bool false) w))
    (HP : Hid (∀ w, (binOp .eql 24 (.agg #[.int .u64 (p1 : Nat)]) (.agg #[.int .u64 (p2 : Nat)])).run Try.prog w = .ok (.bool ab) w)) (HAB : Hid (decide (a = b) = ab))
    (HS1 : ∀ w, Calls Try.prog 16 #[.agg #[.int .u64 (tE : Nat)], .int .i64 a] w (fun e w' => e = .returned (.agg #[.int .u64 (p1 : Nat)]) ∧ Lat w w')) (HS2 : ∀ w, Calls Try.prog 16 #[.agg #[.int .u64 (tE : Nat)], .int .i64 b] w (fun e w' => e = .returned (.agg #[.int .u64 (p2 : Nat)]) ∧ Lat w w')) (w : World) :
    Calls Try.prog 7 #[.agg #[.int .u64 (s : Nat)], .int .u8 (n : Nat), .int .i64 a, .int .i64 b] w (fun e w' => e = .returned (.bool true) ∧ Lat w w') := by
  have hwn : wrap64 (n : Int) = (n : Int) := IntWalk.wrap64_in _ (by omega)
  have hso : (l.mergeSort fun x y => decide (x ≤ y)) = idL n := sorted_id (shufOpt_perm ho)
  have HSO := Lib.hid hso
  have HGO0 := Lib.hid ho
  have HS1H := Lib.hid HS1
  have HS2H := Lib.hid HS2
  clear hso ho HS1 HS2
  go_enter Try.func7, Try.ntmps7
  go_upto_region 1 with (fail)
  refine name1 (Q := fun W => Code.wp _ _ _ _ W) ?_
  intro W1 l1' hs1 k4
  obtain ⟨g4, hg4⟩ : ∃ z, w.heap.size = z := ⟨_, rfl⟩
  rw [hg4] at k4 ⊢
  have hw4 : w.heap.size ≤ g4 := by omega
  go_wp2_with fail
  refine (HWK W1).mono ?_
  rintro e W2 ⟨rfl, l2'⟩
  replace k4 := k4.later l2'
  have L2 := l1'.trans l2'
  clear l1' l2' HWK hs1 hg4
  have c4 : W2.cell? ⟨g4, 0, none⟩ = some (.int .u64 (s : Int)) := k4.cell 0
  go_wp2_with fail
  refine (HS W2).mono ?_
  rintro e V1 (⟨h, _⟩ | ⟨l', t', gl, h, hll, rfl, kl, hgl, la⟩)
  · exact (no_some h).elim
  obtain ⟨rfl, rfl⟩ := some_two h
  clear h
  have h4l : g4 < gl := Nat.lt_of_lt_of_le k4.lt hgl
  replace k4 := k4.later la
  replace L2 := L2.trans la
  clear c4 la hgl
  go_upto_region 4 with (fail)
  refine name1 (Q := fun W => Code.wp _ _ _ _ W) ?_
  intro V2 la hs2 k10
  obtain ⟨g10, hg10⟩ : ∃ z, V1.heap.size = z := ⟨_, rfl⟩
  rw [hg10] at k10 ⊢
  have hl10 : gl < g10 := by rw [← hg10]; exact kl.lt
  replace k4 := k4.later la
  replace kl := kl.later la
  replace L2 := L2.trans la
  clear la hs2 hg10
  have c4 : V2.cell? ⟨g4, 0, none⟩ = some (.int .u64 (s : Int)) := k4.cell 0
  go_wp2_with fail
  refine (HS V2).mono ?_
  rintro e V3 (⟨h, _⟩ | ⟨l', t', gm, h, _, rfl, km, hgm, la⟩)
  · exact (no_some h).elim
  obtain ⟨rfl, rfl⟩ := some_two h
  clear h
  replace k4 := k4.later la
  replace kl := kl.later la
  replace k10 := k10.later la
  replace L2 := L2.trans la
  clear c4 la HS hgm
  go_upto_region 5 with (fail)
  refine name1 (Q := fun W => Code.wp _ _ _ _ W) ?_
  intro V4 la hs4 k13
  obtain ⟨g13, hg13⟩ : ∃ z, V3.heap.size = z := ⟨_, rfl⟩
  rw [hg13] at k13 ⊢
  replace k4 := k4.later la
  replace kl := kl.later la
  replace k10 := k10.later la
  replace km := km.later la
  replace L2 := L2.trans la
  clear la hs4 hg13
  have HEQ := equal_any (some ⟨gl, 0, none⟩) n n l (some ⟨gm, 0, none⟩) n n l V4 (Sl.of_blk' (t := 3) (xs := l) kl hll) (Sl.of_blk' (t := 3) (xs := l) km hll) (by omega) (by omega)
  rw [show (l == l) = true from beq_self_eq_true _] at HEQ
  have hnn : ((n : Int) != (n : Int)) = false := by simp
  go_wp2_with fail
  refine HEQ.mono ?_
  rintro e V5 ⟨rfl, la⟩
  replace k4 := k4.later la
  replace kl := kl.later la
  replace k10 := k10.later la
  replace k13 := k13.later la
  replace L2 := L2.trans la
  clear la HEQ km hnn
  have c10 : V5.cell? ⟨g10, 0, none⟩ = some (.int .u64 (tE : Int)) := k10.cell 0
  have c13 : V5.cell? ⟨g13, 0, none⟩ = some (.int .u64 (tE : Int)) := k13.cell 0
  have rl : RowN V5 gl n l := hll ▸ RowN.of_blk kl
  go_wp2_with (refine wpList_binG (by rfl) .neq 24 24 (.tmp 66) (.tmp 67) (by rfl) #[.int .u64 (tE : Nat)] #[.int .u64 (tE : Nat)] _ (by rfl) (by rfl) (by kernel_rfl) (HN.out _) ?_)
  refine (clone_row (c := n) rl (by omega)).mono ?_
  rintro e V6 ⟨gs, cs, rfl, rs, hgs, la⟩
  have h4s : g4 < gs := Nat.lt_of_lt_of_le k4.lt hgs
  have hls : gl < gs := Nat.lt_of_lt_of_le kl.lt hgs
  have hs10 : g10 < gs := Nat.lt_of_lt_of_le k10.lt hgs
  replace k4 := k4.later la
  replace kl := kl.later la
  replace k10 := k10.later la
  replace L2 := L2.trans la
  clear rl la hgs c10 c13 k13 HN
  go_wp2_with fail
  refine (sort_row (c := cs) rs (by omega)).mono ?_
  rintro e V7 ⟨rfl, rs', lp⟩
  rw [HSO.out] at rs'
  replace k4 := k4.keepP lp (by omega)
  replace kl := kl.keepP lp (by omega)
  replace k10 := k10.keepP lp (by omega)
  replace L2 := lp.narrow L2 (by omega)
  clear rs lp HSO
  go_upto_region 12 with (fail)
  go_loopw [76] (fun i W => ∃ k : Nat, k ≤ n ∧ i = .int .i64 k ∧ W = V7) (fun i _ => n - (intOf i).toNat)
  case atStart => exact ⟨0, by omega, rfl, rfl⟩
  case round =>
    obtain ⟨k, hk, rfl, rfl⟩ := hrel
    by_cases hkn : k < n
    · have hkI : (k : Int) < (n : Int) := by omega
      have hck := rs'.cell (i := k) (idL_get hkn)
      have hne : ((k : Int) != (k : Int)) = false := by simp
      go_wp2
      go_roundw
      case rel => exact ⟨k + 1, by omega, by go_num, trivial⟩
      case measure => simp [intOf]; omega
    · obtain rfl : n = k := by omega
      clear hkn hk
      go_wp2_with fail
      refine (clone_row (c := cs) rs' (by omega)).mono ?_
      rintro e W0 ⟨gw, cw, rfl, rw0, hgw, la⟩
      have h4w : g4 < gw := Nat.lt_of_lt_of_le k4.lt hgw
      have hlgw : gl < gw := Nat.lt_of_lt_of_le kl.lt hgw
      have hw10 : g10 < gw := Nat.lt_of_lt_of_le k10.lt hgw
      replace k4 := k4.later la
      replace kl := kl.later la
      replace k10 := k10.later la
      replace L2 := L2.trans la
      clear la hgw rs' hls hs10 h4s
      go_upto_region 19 with (fail)
      go_loopw [19] (fun i W => ∃ (ii : Int) (lw : List Int) (t : Nat), i = .int .i64 ii ∧ -1 ≤ ii ∧ ii < n ∧ lw.length = n ∧ t < 18446744073709551616 ∧ shufGo ii.toNat lw t = some (l, tE) ∧ RowN W gw n lw ∧ Blk W g4 24 #[.int .u64 (t : Nat)] ∧ Blk W g10 24 #[.int .u64 (tE : Nat)] ∧ Blk W gl 3 (nums .i64 l) ∧ Lat w W) (fun i _ => (intOf i).toNat)
      case atStart => exact ⟨(n : Int) - 1, idL n, s, rfl, by omega, by omega, idL_len n, hs, by rw [show ((n : Int) - 1).toNat = n - 1 by omega]; exact HGO0.out, rw0, k4, k10, kl, L2⟩
      case round =>
        rename_i wr
        clear k4 k10 kl L2 rw0 HGO0 hwn
        obtain ⟨ii, lw, t, rfl, hi0, hi1, hlw, ht, hgo, row, k4, k10, kl, L2⟩ := hrel
        have HGO := Lib.hid hgo
        clear hgo hs
        by_cases h1 : 1 ≤ ii
        · obtain ⟨i0, rfl⟩ := Int.eq_ofNat_of_zero_le (show 0 ≤ ii by omega)
          have hi : 1 ≤ i0 := by omega
          have hi0n : i0 < n := Int.ofNat_lt.1 hi1
          obtain ⟨m, hm, p1, p2, p3, p4, e1, e4⟩ := shQ i0 n hi hi0n hn
          obtain ⟨f1, f2, f3⟩ := bel_facts (m := m) ht p1 p2
          have HB := fun W => cBelow_any t ht (m : Int) p3 W
          obtain ⟨o, ho⟩ : ∃ o, chBel t m = o := ⟨_, rfl⟩
          rw [f1, f2, f3, ho] at HB
          cases o with
          | none =>
            exfalso
            have hg0 := HGO.out
            rw [Int.toNat_natCast, shufGo_no (l := lw) hi hm ho] at hg0
            cases hg0
          | some q =>
            have hg0 := HGO.out
            rw [Int.toNat_natCast, shufGo_yes (l := lw) hi hm ho] at hg0
            have ht' := chBel_lt ho
            rw [optR, optT, optE] at HB
            have hjl : q.1 % m < m := Nat.mod_lt _ p1
            obtain ⟨j, hj⟩ : ∃ j, q.1 % m = j := ⟨_, rfl⟩
            obtain ⟨t', htt⟩ : ∃ t', q.2 = t' := ⟨_, rfl⟩
            rw [hj] at hg0 hjl HB
            rw [htt] at hg0 ht' HB
            have hik : i0 < n := hi0n
            obtain ⟨hjk, hj0, hji⟩ := shJ hm hi0n hjl
            have HG2 := Lib.hid hg0
            rw [p4] at HB e1
            have HT2 := Lib.hid ht'
            clear ht ht' f1 f2 f3 ho hj htt hg0 HGO hm hjl p1 p2 p3 p4
            have c4 : wr.cell? ⟨g4, 0, none⟩ = some (.int .u64 (t : Int)) := k4.cell 0
            go_wp2_with fail
            refine (HB wr).mono ?_
            rintro e w1 ⟨rfl, l1⟩
            replace k4 := k4.later l1
            replace k10 := k10.later l1
            replace kl := kl.later l1
            replace row := row.later l1
            replace L2 := L2.trans l1
            clear HB l1 c4 e1
            go_upto_region 22 with (fail)
            refine name1 (Q := fun W => Code.wp _ _ _ _ W) ?_
            intro w2 l2 hs2 k21
            have hg21 : gw < w1.heap.size := row.lt
            replace k4 := k4.later l2
            replace k10 := k10.later l2
            replace kl := kl.later l2
            replace row := row.later l2
            replace L2 := L2.trans l2
            obtain ⟨g21, h21⟩ : ∃ z, w1.heap.size = z := ⟨_, rfl⟩
            rw [h21] at k21 hg21 ⊢
            clear l2 hs2 h21
            go_upto_region 24 with (fail)
            have hikI : (i0 : Int) < (n : Int) := by omega
            have hjkI : (j : Int) < (n : Int) := by omega
            clear hj0 hji
            have LD := Lat.drew w2
            refine wp_region_held_drew (S := fun _ => True) (by kernel_rfl) trivial (fun hHeld => ?_)
            generalize w2.drew = V0 at LD hHeld ⊢
            have row0 := row.later LD
            obtain ⟨xi, hxi, ci, fi⟩ := row0.slot (i := i0) (by omega)
            obtain ⟨xj, hxj, cj, fj⟩ := row0.slot (i := j) (by omega)
            have h8 := row0.lt
            refine wpAnyH_take (i := 0) (v := .slice (some ⟨gw, 0, none⟩) n cw) rfl (by kernel_rfl) (by kernel_rfl) (by kernel_rfl) (fun _ _ _ h => h) (Or.inl ⟨by rfl, by intro w' hS; go_simp⟩) hHeld ?_
            simp only [Act.put, List.getElem_toArray, List.getElem_cons_succ, List.getElem_cons_zero, List.setIfInBounds_toArray, List.set_cons_zero, List.set_cons_succ]
            refine wpAnyH_take (i := 1) (v := .int .i64 (i0 : Int)) rfl (by kernel_rfl) (by kernel_rfl) (by kernel_rfl) (fun _ _ _ h => h) (Or.inl ⟨by rfl, by intro w' hS; go_simp⟩) hHeld ?_
            simp only [Act.put, List.getElem_toArray, List.getElem_cons_succ, List.getElem_cons_zero, List.setIfInBounds_toArray, List.set_cons_zero, List.set_cons_succ]
            refine wpAnyH_take (i := 2) (v := .slice (some ⟨gw, 0, none⟩) n cw) rfl (by kernel_rfl) (by kernel_rfl) (by kernel_rfl) (fun _ _ _ h => h) (Or.inl ⟨by rfl, by intro w' hS; go_simp⟩) hHeld ?_
            simp only [Act.put, List.getElem_toArray, List.getElem_cons_succ, List.getElem_cons_zero, List.setIfInBounds_toArray, List.set_cons_zero, List.set_cons_succ]
            refine wpAnyH_take (i := 3) (v := .int .i64 (j : Int)) rfl (by kernel_rfl) (by kernel_rfl) (by kernel_rfl) (fun _ _ _ h => h) (Or.inl ⟨by rfl, by intro w' hS; go_simp⟩) hHeld ?_
            simp only [Act.put, List.getElem_toArray, List.getElem_cons_succ, List.getElem_cons_zero, List.setIfInBounds_toArray, List.set_cons_zero, List.set_cons_succ]
            refine wpAnyH_take (i := 4) (v := .slice (some ⟨gw, 0, none⟩) n cw) rfl (by kernel_rfl) (by kernel_rfl) (by kernel_rfl) (fun _ _ _ h => h) (Or.inl ⟨by rfl, by intro w' hS; go_simp⟩) hHeld ?_
            simp only [Act.put, List.getElem_toArray, List.getElem_cons_succ, List.getElem_cons_zero, List.setIfInBounds_toArray, List.set_cons_zero, List.set_cons_succ]
            refine wpAnyH_take (i := 5) (v := .int .i64 (j : Int)) rfl (by kernel_rfl) (by kernel_rfl) (by kernel_rfl) (fun _ _ _ h => h) (Or.inl ⟨by rfl, by intro w' hS; go_simp⟩) hHeld ?_
            simp only [Act.put, List.getElem_toArray, List.getElem_cons_succ, List.getElem_cons_zero, List.setIfInBounds_toArray, List.set_cons_zero, List.set_cons_succ]
            refine wpAnyH_take (i := 6) (v := .pointer (some ⟨gw, j, none⟩)) rfl (by kernel_rfl) (by kernel_rfl) (by kernel_rfl) (fun _ _ _ h => h) (Or.inl ⟨by rfl, by intro w' hS; go_simp⟩) hHeld ?_
            simp only [Act.put, List.getElem_toArray, List.getElem_cons_succ, List.getElem_cons_zero, List.setIfInBounds_toArray, List.set_cons_zero, List.set_cons_succ]
            refine wpAnyH_take (i := 8) (v := .slice (some ⟨gw, 0, none⟩) n cw) rfl (by kernel_rfl) (by kernel_rfl) (by kernel_rfl) (fun _ _ _ h => h) (Or.inl ⟨by rfl, by intro w' hS; go_simp⟩) hHeld ?_
            simp only [Act.put, List.getElem_toArray, List.getElem_cons_succ, List.getElem_cons_zero, List.setIfInBounds_toArray, List.set_cons_zero, List.set_cons_succ]
            refine wpAnyH_take (i := 9) (v := .int .i64 (i0 : Int)) rfl (by kernel_rfl) (by kernel_rfl) (by kernel_rfl) (fun _ _ _ h => h) (Or.inl ⟨by rfl, by intro w' hS; go_simp⟩) hHeld ?_
            simp only [Act.put, List.getElem_toArray, List.getElem_cons_succ, List.getElem_cons_zero, List.setIfInBounds_toArray, List.set_cons_zero, List.set_cons_succ]
            refine wpAnyH_take (i := 10) (v := .pointer (some ⟨gw, i0, none⟩)) rfl (by kernel_rfl) (by kernel_rfl) (by kernel_rfl) (fun _ _ _ h => h) (Or.inl ⟨by rfl, by intro w' hS; go_simp⟩) hHeld ?_
            simp only [Act.put, List.getElem_toArray, List.getElem_cons_succ, List.getElem_cons_zero, List.setIfInBounds_toArray, List.set_cons_zero, List.set_cons_succ]
            refine wpAnyH_ready (rs := [7, 11]) (by kernel_rfl) (by simp) (AllReadyH.cons rfl (fun K hK => ?_) (AllReadyH.cons rfl (fun K hK => ?_) AllReadyH.nil))
            · skip
              go_simp
              refine hK.out _ _ trivial (fun hHeld1 => ?_)
              clear hK K
              try simp only [Act.put, List.getElem_toArray, List.getElem_cons_succ, List.getElem_cons_zero, List.setIfInBounds_toArray, List.set_cons_zero, List.set_cons_succ]
              refine wpAnyH_ready (rs := [11]) (by kernel_rfl) (by simp) (AllReadyH.cons rfl (fun K hK => ?_) AllReadyH.nil)
              go_simp
              refine hK.out _ _ trivial (fun hHeld2 => ?_)
              clear hK K
              try simp only [Act.put, List.getElem_toArray, List.getElem_cons_succ, List.getElem_cons_zero, List.setIfInBounds_toArray, List.set_cons_zero, List.set_cons_succ]
              refine wpAnyH_take (i := 12) (v := .pointer (some ⟨gw, i0, none⟩)) rfl (by kernel_rfl) (by kernel_rfl) (by kernel_rfl) (fun _ _ _ h => h) (Or.inl ⟨by rfl, by intro w' hS; go_simp⟩) hHeld2 ?_
              simp only [Act.put, List.getElem_toArray, List.getElem_cons_succ, List.getElem_cons_zero, List.setIfInBounds_toArray, List.set_cons_zero, List.set_cons_succ]
              refine wpAnyH_ready (rs := [13]) (by kernel_rfl) (by simp) (AllReadyH.cons rfl (fun K hK => ?_) AllReadyH.nil)
              go_simp
              have row1 := row0.set (i := i0) (by omega) xj
              have lp1 := LatP.setCells (g := gw) [.int .i64 xj] V0 i0
              have lp1 : LatP (· = gw) V0 (V0.setCell ⟨gw, i0, none⟩ (.int .i64 xj)) := lp1
              obtain ⟨V1, hV1⟩ : ∃ V, V0.setCell ⟨gw, i0, none⟩ (.int .i64 xj) = V := ⟨_, rfl⟩
              rw [hV1] at row1 lp1 ⊢
              clear hV1 ci fi cj fj
              obtain ⟨xk, hxk, cj, fj⟩ := row1.slot (i := j) (by rw [List.length_set]; omega)
              have h9 := row1.lt
              refine hK.out _ _ trivial (fun hHeld3 => ?_)
              clear hK K
              try simp only [Act.put, List.getElem_toArray, List.getElem_cons_succ, List.getElem_cons_zero, List.setIfInBounds_toArray, List.set_cons_zero, List.set_cons_succ]
              refine wpAnyH_take (i := 14) (v := .pointer (some ⟨gw, j, none⟩)) rfl (by kernel_rfl) (by kernel_rfl) (by kernel_rfl) (fun _ _ _ h => h) (Or.inl ⟨by rfl, by intro w' hS; go_simp⟩) hHeld3 ?_
              simp only [Act.put, List.getElem_toArray, List.getElem_cons_succ, List.getElem_cons_zero, List.setIfInBounds_toArray, List.set_cons_zero, List.set_cons_succ]
              refine wpAnyH_ready (rs := [15]) (by kernel_rfl) (by simp) (AllReadyH.cons rfl (fun K hK => ?_) AllReadyH.nil)
              go_simp
              have row2 := row1.set (i := j) (by rw [List.length_set]; omega) xi
              have lp2 := LatP.setCells (g := gw) [.int .i64 xi] V1 j
              have lp2 : LatP (· = gw) V1 (V1.setCell ⟨gw, j, none⟩ (.int .i64 xi)) := lp2
              obtain ⟨V2, hV2⟩ : ∃ V, V1.setCell ⟨gw, j, none⟩ (.int .i64 xi) = V := ⟨_, rfl⟩
              rw [hV2] at row2 lp2 ⊢
              clear hV2 cj fj hxk
              refine hK.out _ _ trivial (fun hHeld4 => ?_)
              clear hK K
              try simp only [Act.put, List.getElem_toArray, List.getElem_cons_succ, List.getElem_cons_zero, List.setIfInBounds_toArray, List.set_cons_zero, List.set_cons_succ]
              refine wpAnyH_done (by kernel_rfl) ?_ _
              rw [swapL_of hxi hxj] at row2
              have lpS := ((LD.p (· = gw)).trans lp1).trans lp2
              clear hxi hxj lp1 lp2 row1 row0 LD h8 h9 row hHeld hHeld1 hHeld2 hHeld3 hHeld4
              replace k4 := k4.keepP lpS (by omega)
              replace k10 := k10.keepP lpS (by omega)
              replace kl := kl.keepP lpS (by omega)
              replace L2 := lpS.narrow L2 (by omega)
              replace k21 := k21.keepP lpS (by omega)
              have c21 : V2.cell? ⟨g21, 0, none⟩ = some (.int .u64 (t' : Int)) := k21.cell 0
              have c4 : V2.cell? ⟨g4, 0, none⟩ = some (.int .u64 (t : Int)) := k4.cell 0
              have f4 := k4.frozen 0
              have lt4 := k4.lt
              go_upto_region 20 with (fail)
              refine name_set (Q := fun W => Code.wp _ _ _ _ W) k4 ?_
              intro W9 k4' _ _ lp9
              replace row2 := row2.keepP lp9 (by omega)
              replace k10 := k10.keepP lp9 (by omega)
              replace kl := kl.keepP lp9 (by omega)
              replace L2 := lp9.narrow L2 hw4
              replace k4 : Blk W9 g4 24 #[.int .u64 (t' : Nat)] := k4'
              clear k4' lp9 c21 c4 f4 lt4 k21
              go_wp2
              exact ⟨⟨(i0 : Int) - 1, swapL lw i0 j, t', rfl, by omega, by omega, by rw [swapL_len]; exact hlw, HT2.out, by rw [show ((i0 : Int) - 1).toNat = i0 - 1 by omega]; exact HG2.out, row2, k4, k10, kl, L2⟩, by show ((i0 : Int) - 1).toNat < (i0 : Int).toNat; omega⟩
            · skip
              go_simp
              refine hK.out _ _ trivial (fun hHeld1 => ?_)
              clear hK K
              try simp only [Act.put, List.getElem_toArray, List.getElem_cons_succ, List.getElem_cons_zero, List.setIfInBounds_toArray, List.set_cons_zero, List.set_cons_succ]
              refine wpAnyH_ready (rs := [7]) (by kernel_rfl) (by simp) (AllReadyH.cons rfl (fun K hK => ?_) AllReadyH.nil)
              go_simp
              refine hK.out _ _ trivial (fun hHeld2 => ?_)
              clear hK K
              try simp only [Act.put, List.getElem_toArray, List.getElem_cons_succ, List.getElem_cons_zero, List.setIfInBounds_toArray, List.set_cons_zero, List.set_cons_succ]
              refine wpAnyH_take (i := 12) (v := .pointer (some ⟨gw, i0, none⟩)) rfl (by kernel_rfl) (by kernel_rfl) (by kernel_rfl) (fun _ _ _ h => h) (Or.inl ⟨by rfl, by intro w' hS; go_simp⟩) hHeld2 ?_
              simp only [Act.put, List.getElem_toArray, List.getElem_cons_succ, List.getElem_cons_zero, List.setIfInBounds_toArray, List.set_cons_zero, List.set_cons_succ]
              refine wpAnyH_ready (rs := [13]) (by kernel_rfl) (by simp) (AllReadyH.cons rfl (fun K hK => ?_) AllReadyH.nil)
              go_simp
              have row1 := row0.set (i := i0) (by omega) xj
              have lp1 := LatP.setCells (g := gw) [.int .i64 xj] V0 i0
              have lp1 : LatP (· = gw) V0 (V0.setCell ⟨gw, i0, none⟩ (.int .i64 xj)) := lp1
              obtain ⟨V1, hV1⟩ : ∃ V, V0.setCell ⟨gw, i0, none⟩ (.int .i64 xj) = V := ⟨_, rfl⟩
              rw [hV1] at row1 lp1 ⊢
              clear hV1 ci fi cj fj
              obtain ⟨xk, hxk, cj, fj⟩ := row1.slot (i := j) (by rw [List.length_set]; omega)
              have h9 := row1.lt
              refine hK.out _ _ trivial (fun hHeld3 => ?_)
              clear hK K
              try simp only [Act.put, List.getElem_toArray, List.getElem_cons_succ, List.getElem_cons_zero, List.setIfInBounds_toArray, List.set_cons_zero, List.set_cons_succ]
              refine wpAnyH_take (i := 14) (v := .pointer (some ⟨gw, j, none⟩)) rfl (by kernel_rfl) (by kernel_rfl) (by kernel_rfl) (fun _ _ _ h => h) (Or.inl ⟨by rfl, by intro w' hS; go_simp⟩) hHeld3 ?_
              simp only [Act.put, List.getElem_toArray, List.getElem_cons_succ, List.getElem_cons_zero, List.setIfInBounds_toArray, List.set_cons_zero, List.set_cons_succ]
              refine wpAnyH_ready (rs := [15]) (by kernel_rfl) (by simp) (AllReadyH.cons rfl (fun K hK => ?_) AllReadyH.nil)
              go_simp
              have row2 := row1.set (i := j) (by rw [List.length_set]; omega) xi
              have lp2 := LatP.setCells (g := gw) [.int .i64 xi] V1 j
              have lp2 : LatP (· = gw) V1 (V1.setCell ⟨gw, j, none⟩ (.int .i64 xi)) := lp2
              obtain ⟨V2, hV2⟩ : ∃ V, V1.setCell ⟨gw, j, none⟩ (.int .i64 xi) = V := ⟨_, rfl⟩
              rw [hV2] at row2 lp2 ⊢
              clear hV2 cj fj hxk
              refine hK.out _ _ trivial (fun hHeld4 => ?_)
              clear hK K
              try simp only [Act.put, List.getElem_toArray, List.getElem_cons_succ, List.getElem_cons_zero, List.setIfInBounds_toArray, List.set_cons_zero, List.set_cons_succ]
              refine wpAnyH_done (by kernel_rfl) ?_ _
              rw [swapL_of hxi hxj] at row2
              have lpS := ((LD.p (· = gw)).trans lp1).trans lp2
              clear hxi hxj lp1 lp2 row1 row0 LD h8 h9 row hHeld hHeld1 hHeld2 hHeld3 hHeld4
              replace k4 := k4.keepP lpS (by omega)
              replace k10 := k10.keepP lpS (by omega)
              replace kl := kl.keepP lpS (by omega)
              replace L2 := lpS.narrow L2 (by omega)
              replace k21 := k21.keepP lpS (by omega)
              have c21 : V2.cell? ⟨g21, 0, none⟩ = some (.int .u64 (t' : Int)) := k21.cell 0
              have c4 : V2.cell? ⟨g4, 0, none⟩ = some (.int .u64 (t : Int)) := k4.cell 0
              have f4 := k4.frozen 0
              have lt4 := k4.lt
              go_upto_region 20 with (fail)
              refine name_set (Q := fun W => Code.wp _ _ _ _ W) k4 ?_
              intro W9 k4' _ _ lp9
              replace row2 := row2.keepP lp9 (by omega)
              replace k10 := k10.keepP lp9 (by omega)
              replace kl := kl.keepP lp9 (by omega)
              replace L2 := lp9.narrow L2 hw4
              replace k4 : Blk W9 g4 24 #[.int .u64 (t' : Nat)] := k4'
              clear k4' lp9 c21 c4 f4 lt4 k21
              go_wp2
              exact ⟨⟨(i0 : Int) - 1, swapL lw i0 j, t', rfl, by omega, by omega, by rw [swapL_len]; exact hlw, HT2.out, by rw [show ((i0 : Int) - 1).toNat = i0 - 1 by omega]; exact HG2.out, row2, k4, k10, kl, L2⟩, by show ((i0 : Int) - 1).toNat < (i0 : Int).toNat; omega⟩
        · have hg0 := HGO.out
          clear ht
          rw [show ii.toNat = 0 by omega, shufGo] at hg0
          obtain ⟨rfl, rfl⟩ := some_two hg0
          clear hg0 HGO
          have HEQ := fun W (hl : Lat wr W) => equal_any (some ⟨gw, 0, none⟩) n cw lw (some ⟨gl, 0, none⟩) n n lw W (row.sl.later hl) ((Sl.of_blk' (t := 3) (xs := lw) kl hll).later hl) (by omega) (by omega)
          rw [show (lw == lw) = true from beq_self_eq_true _] at HEQ
          have R4 : ∀ w', Lat wr w' → w'.rangeAt g4 0 [.int .u64 (t : Nat)] := fun w' hl => (k4.later hl).rangeAll
          have R10 : ∀ w', Lat wr w' → w'.rangeAt g10 0 [.int .u64 (t : Nat)] := fun w' hl => (k10.later hl).rangeAll
          have J24 : (Try.prog.info? 24).map (·.size) = some 1 := by kernel_rfl
          have hgd24 : Hid (Try.prog.eqGuardType Try.prog.depth 24 = false) := Lib.hid (by kernel_rfl)
          clear row k4 k10 kl
          go_wp2_with fail
          rename_i KN hKN
          refine wp_region_slots (cl26_rows gw gl cw n t p1 p2 ab a b) (cl26_base gw gl g4 g10 cw n a b) 149 22 [[], [], [0, 1], [2, 2], [3], [3], [4, 5, 3], [3, 6], [7, 3], [8], [8], [9, 10, 8, 8], [8], [8], [12, 13, 11, 8], [11, 14, 8], [8], [8], [16, 17, 8], [15, 18, 8], [8, 19], [20, 14, 0, 1, 2, 3, 4, 5, 6, 7, 8, 9, 10, 11, 12, 13, 14, 15, 16, 17, 18, 19, 20]] (by kernel_rfl) (by kernel_rfl) (by kernel_rfl) (by kernel_rfl) (by kernel_rfl) (by kernel_rfl) (by rfl) rfl ?_ ?_ ?_
          ·
            exact base_of (base_cons (by rfl) (base_cons (by rfl) (base_cons (by rfl) (base_cons (by rfl) (base_cons (by rfl) (base_cons (by rfl) (base_nil _)))))))
          · exact cl26_steps wr gw gl g4 g10 cw n t p1 p2 ab a b R4 R10 J24 hgd24 HT HP HAB HEQ HS1H.out HS2H.out
          · intro a W hsz hdf hL _ hsl
            obtain ⟨v, h0, hv⟩ := hsl 21 _ _ rfl rfl
            have hv' : v = .bool true := hv
            subst hv'
            unfold Slot at h0
            refine hKN _ _ (wp_ret ?_)
            refine bodyPost_ret (v := .bool true) (by simp [results, Try.results7, go_sem, h0]) hdf ?_
            exact ⟨rfl, L2.trans hL⟩
end Go.Proofs.Ytogkkhaepfablaa

/- Chance: the law of shuffled lists and labels, joined. -/
namespace Go.Proofs.Ytogkkhaepfablaa
open Go.RowKit

theorem wf_u8c {a : Int} (h : (Lit.int .u8 a).wf = true) : 0 ≤ a ∧ a < 256 := by
  have e1 : IntKind.u8.min = 0 := by decide
  have e2 : IntKind.u8.max = 255 := by decide
  simp [Lit.wf, e1, e2] at h
  omega
theorem wf_i64c {a : Int} (h : (Lit.int .i64 a).wf = true) : -9223372036854775808 ≤ a ∧ a < 9223372036854775808 := by
  have e1 : IntKind.i64.min = -9223372036854775808 := by decide
  have e2 : IntKind.i64.max = 9223372036854775807 := by decide
  simp [Lit.wf, e1, e2] at h
  omega
theorem chSplit_lt (s l : Nat) : chSplit s l < 18446744073709551616 := by unfold chSplit; exact chMix_lt _
theorem same_yes (t : Nat) (ht : t < 18446744073709551616) : Hid (∀ w, (binOp .eql 24 (.agg #[.int .u64 (t : Nat)]) (.agg #[.int .u64 (t : Nat)])).run Try.prog w = .ok (.bool true) w) := fun w => by
  have h := chance_eql (s := (t : Int)) (t := (t : Int)) ⟨by omega, by unfold W64; omega⟩ ⟨by omega, by unfold W64; omega⟩ w
  rw [decide_eq_true rfl] at h
  exact h
theorem same_not (t : Nat) (ht : t < 18446744073709551616) : Hid (∀ w, (binOp .neq 24 (.agg #[.int .u64 (t : Nat)]) (.agg #[.int .u64 (t : Nat)])).run Try.prog w = .ok (.bool false) w) := fun w => by
  have h := chance_neq (s := (t : Int)) (t := (t : Int)) ⟨by omega, by unfold W64; omega⟩ ⟨by omega, by unfold W64; omega⟩ w
  rw [decide_eq_true rfl] at h
  exact h
theorem same_split (t : Nat) (ht : t < 18446744073709551616) {a b : Int} (ha : -9223372036854775808 ≤ a ∧ a < 9223372036854775808) (hb : -9223372036854775808 ≤ b ∧ b < 9223372036854775808) :
    Hid (∀ w, (binOp .eql 24 (.agg #[.int .u64 (chSplit t (a % 18446744073709551616).toNat : Nat)]) (.agg #[.int .u64 (chSplit t (b % 18446744073709551616).toNat : Nat)])).run Try.prog w = .ok (.bool (decide (a = b))) w) := fun w => by
  have h1 := chSplit_lt t (a % 18446744073709551616).toNat
  have h2 := chSplit_lt t (b % 18446744073709551616).toNat
  have h := chance_eql (s := (chSplit t (a % 18446744073709551616).toNat : Int)) (t := (chSplit t (b % 18446744073709551616).toNat : Int)) ⟨by omega, by unfold W64; omega⟩ ⟨by omega, by unfold W64; omega⟩ w
  rw [show decide ((chSplit t (a % 18446744073709551616).toNat : Int) = (chSplit t (b % 18446744073709551616).toNat : Int)) = decide (a = b) from decide_eq_decide.2 (split_iff ht ha hb)] at h
  exact h
theorem cLists_any (s n a b : Int) (w : World) (h0 : 0 ≤ s ∧ s < 18446744073709551616) (h1 : 0 ≤ n ∧ n < 256) (ha : -9223372036854775808 ≤ a ∧ a < 9223372036854775808) (hb : -9223372036854775808 ≤ b ∧ b < 9223372036854775808) :
    Calls Try.prog 7 #[.agg #[.int .u64 s], .int .u8 n, .int .i64 a, .int .i64 b] w (fun e w' => e = .returned (.bool true) ∧ Lat w w') := by
  obtain ⟨k, rfl⟩ := Int.eq_ofNat_of_zero_le h0.1
  obtain ⟨m, rfl⟩ := Int.eq_ofNat_of_zero_le h1.1
  have hk : k < 18446744073709551616 := by omega
  have hm : m < 256 := by omega
  have HS := fun w => shuffle_in k m hk (by omega) w
  cases ho : shufOpt k m with
  | none =>
    rw [ho] at HS
    exact cLists_fail works_any k m hm HS a b w
  | some p =>
    obtain ⟨l, t⟩ := p
    rw [ho] at HS
    have ht := shufOpt_lt hk ho
    exact cLists_some works_any k m hk hm l t ho HS _ _ (decide (a = b)) a b (same_yes t ht) (same_not t ht) (same_split t ht ha hb) (Lib.hid rfl) (cSplit_any t ht a) (cSplit_any t ht b) w
end Go.Proofs.Ytogkkhaepfablaa
