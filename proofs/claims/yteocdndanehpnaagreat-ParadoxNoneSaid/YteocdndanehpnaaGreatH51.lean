/- Several texts in one: PxZ, PxG. -/
import Derived.Test.YteocdndanehpnaaGreatH50
import Derived.Test.YteocdndanehpnaaGreatH38
namespace Go.Proofs.YteocdndanehpnaaGreat
open Go.RowKit
set_option linter.unusedSimpArgs false
set_option linter.unusedVariables false
set_option maxRecDepth 100000
theorem Px.rangeAll {w : World} {g : Nat} {t : TypeId} {l : List Value} (h : Blk w g t l.toArray) : w.rangeAt g 0 l := fun j v hj => by
 rw [Nat.zero_add, h.cell j]
 simpa using hj
theorem spell31 (T : Array Value) (h : T.size = 31) : ∃ f : Nat → Value, (∀ k, f k = T.getD k undef) ∧ T = #[f 0, f 1, f 2, f 3, f 4, f 5, f 6, f 7, f 8, f 9, f 10, f 11, f 12, f 13, f 14, f 15, f 16, f 17, f 18, f 19, f 20, f 21, f 22, f 23, f 24, f 25, f 26, f 27, f 28, f 29, f 30] := ⟨fun k => T.getD k undef, fun _ => rfl, (spell 31 T h).trans (by kernel_rfl)⟩
noncomputable def pza_rows (gx gy : Nat) (s1 s2 s3 s4 : Value) (a b : Int) (fb : Bool) : List SRow := [
 ⟨Op.load 56 (Operand.tmp 2), some 4, none, [], fun v _ => v = .agg #[.int .i64 a, .int .i64 b]⟩,
 ⟨Op.indexAddr 56 (Operand.tmp 2) (Operand.const (Value.int IntKind.i64 0)), some 5, none, [], fun v _ => v = .pointer (some ⟨gx, 0, none⟩)⟩,
 ⟨Op.load 3 (Operand.tmp 5), some 6, none, [1], fun v _ => v = .int .i64 a⟩,
 ⟨Op.indexAddr 56 (Operand.tmp 2) (Operand.const (Value.int IntKind.i64 0)), some 7, none, [], fun v _ => v = .pointer (some ⟨gx, 0, none⟩)⟩,
 ⟨Op.load 3 (Operand.tmp 7), some 8, none, [3], fun v _ => v = .int .i64 a⟩,
 ⟨Op.build 56 #[(0, Operand.tmp 6), (1, Operand.tmp 8)], some 9, none, [2, 4], fun v _ => v = .agg #[.int .i64 a, .int .i64 a]⟩,
 ⟨Op.binOp BinOp.neq 56 (Operand.tmp 4) (Operand.tmp 9) 56, some 10, none, [0, 5], fun v _ => v = .bool false⟩,
 ⟨Op.move (Operand.tmp 10), some 11, none, [6], fun v _ => v = .bool false⟩,
 ⟨Op.load 73 (Operand.tmp 1), some 12, some (7, true), [7], fun v _ => v = undef⟩,
 ⟨Op.indexAddr 56 (Operand.tmp 2) (Operand.const (Value.int IntKind.i64 0)), some 13, some (7, true), [7], fun v _ => v = undef⟩,
 ⟨Op.load 3 (Operand.tmp 13), some 14, some (7, true), [9, 7], fun v _ => v = undef⟩,
 ⟨Op.call { callee := Callee.value (Operand.func 35), args := #[Operand.tmp 12, Operand.tmp 14], argTypes := #[73, 3] }, some 15, some (7, true), [8, 10, 7, 7], fun v _ => v = undef⟩,
 ⟨Op.pick (Operand.tmp 11) (Operand.tmp 15) (Operand.const (Value.bool false)), some 16, none, [7, 11], fun v _ => v = .bool false⟩,
 ⟨Op.move (Operand.tmp 16), some 17, none, [12, 11], fun v _ => v = .bool false⟩,
 ⟨Op.load 73 (Operand.tmp 1), some 18, some (13, true), [13], fun v _ => v = undef⟩,
 ⟨Op.indexAddr 56 (Operand.tmp 2) (Operand.const (Value.int IntKind.i64 1)), some 19, some (13, true), [13], fun v _ => v = undef⟩,
 ⟨Op.load 3 (Operand.tmp 19), some 20, some (13, true), [15, 13], fun v _ => v = undef⟩,
 ⟨Op.call { callee := Callee.value (Operand.func 36), args := #[Operand.tmp 18, Operand.tmp 20], argTypes := #[73, 3] }, some 21, some (13, true), [14, 16, 13, 13], fun v _ => v = undef⟩,
 ⟨Op.pick (Operand.tmp 17) (Operand.tmp 21) (Operand.const (Value.bool false)), some 22, none, [13, 17], fun v _ => v = .bool false⟩,
 ⟨Op.move (Operand.tmp 22), some 23, none, [18, 17], fun v _ => v = .bool false⟩,
 ⟨Op.load 73 (Operand.tmp 1), some 24, some (19, true), [19], fun v _ => v = undef⟩,
 ⟨Op.indexAddr 56 (Operand.tmp 2) (Operand.const (Value.int IntKind.i64 0)), some 25, some (19, true), [19], fun v _ => v = undef⟩,
 ⟨Op.load 3 (Operand.tmp 25), some 26, some (19, true), [21, 19], fun v _ => v = undef⟩,
 ⟨Op.indexAddr 56 (Operand.tmp 2) (Operand.const (Value.int IntKind.i64 1)), some 27, some (19, true), [19], fun v _ => v = undef⟩,
 ⟨Op.load 3 (Operand.tmp 27), some 28, some (19, true), [23, 19], fun v _ => v = undef⟩,
 ⟨Op.call { callee := Callee.value (Operand.func 37), args := #[Operand.tmp 24, Operand.tmp 26, Operand.tmp 28], argTypes := #[73, 3, 3] }, some 29, some (19, true), [20, 22, 24, 19, 19], fun v _ => v = undef⟩,
 ⟨Op.pick (Operand.tmp 23) (Operand.tmp 29) (Operand.const (Value.bool false)), some 30, none, [19, 25], fun v _ => v = .bool false⟩,
 ⟨Op.assign (Operand.tmp 30), some 3, none, [26, 25, 0, 1, 2, 3, 4, 5, 6, 7, 8, 9, 10, 11, 12, 13, 14, 15, 16, 17, 18, 19, 20, 21, 22, 23, 24, 25, 26], fun v _ => v = .bool false⟩]
noncomputable def pza_base (gx gy : Nat) (s1 s2 s3 s4 : Value) (a b : Int) (fb : Bool) : List (Nat × Value) := [(1, .pointer (some ⟨gy, 0, none⟩)), (2, .pointer (some ⟨gx, 0, none⟩))]
set_option maxRecDepth 100000 in
set_option maxHeartbeats 4000000 in
theorem pza_steps (V : World) (gx gy : Nat) (s1 s2 s3 s4 : Value) (a b : Int) (fb : Bool) (RX : ∀ w', Lat V w' → w'.rangeAt gx 0 [.int .i64 a, .int .i64 b]) (RX0 : ∀ w', Lat V w' → w'.cell? ⟨gx, 0, none⟩ = some (.int .i64 a)) (RX1 : ∀ w', Lat V w' → w'.cell? ⟨gx, 1, none⟩ = some (.int .i64 b)) (RY : ∀ w', Lat V w' → w'.rangeAt gy 0 [s1, s2, s3, s4])
  (JX : (Tryz.prog.info? 56).map (·.size) = some 2) (JY : (Tryz.prog.info? 73).map (·.size) = some 4) (HB : Hid (∀ w, (binOp .neq 56 (.agg #[.int .i64 a, .int .i64 b]) (.agg #[.int .i64 a, .int .i64 a])).run Tryz.prog w = .ok (.bool false) w)) :
  AllStepsN Tryz.prog (pza_rows gx gy s1 s2 s3 s4 a b fb) (pza_base gx gy s1 s2 s3 s4 a b fb) V (pza_rows gx gy s1 s2 s3 s4 a b fb) := by
 refine AllStepsN.next (fun _ _ _ h _ => h) (fun j b h => by cases h) (fun a w hl hb hd o ho => by have e1 := hb 2 _ rfl; exact Runs.val (yv_loadO (S := Lat V) e1 RX Tryz.underlying56 rfl JX o w ho hl) ⟨Lat.refl _, fun _ => rfl⟩) ?_
 refine n1 ?_ (eb 2) (fun ev w hl ec e1 d ty p af g => ?_)
 refine n1 ?_ (ed 1) (fun ev w hl ec e1 d ty p af g => by unfold execOp; simp only [e1, ec]; have h0 := RX0 w hl; have h1 := RX1 w hl; go_simp)
 refine n1 ?_ (eb 2) (fun ev w hl ec e1 d ty p af g => ?_)
 refine n1 ?_ (ed 3) (fun ev w hl ec e1 d ty p af g => by unfold execOp; simp only [e1, ec]; have h0 := RX0 w hl; have h1 := RX1 w hl; go_simp)
 refine n2 ?_ (ed 2) (ed 4) (fun ev w hl ec e1 e2 d ty p af g => ?_)
 refine AllStepsN.next (fun _ _ _ h _ => h) (fun j b h => by cases h) (fun a w hl hb hd o ho => by obtain ⟨v1, e1, q1⟩ := hd 0 _ _ (by simp) rfl rfl; obtain ⟨v2, e2, q2⟩ := hd 5 _ _ (by simp) rfl rfl; subst q1; subst q2; exact Runs.val (yv_bin (S := fun _ => True) e1 e2 pr_guard HB.out o w ho trivial) ⟨Lat.refl _, fun _ => rfl⟩) ?_
 refine n1 ?_ (ed 6) (fun ev w hl ec e1 d ty p af g => ?_)
 refine nk ?_
 refine nk ?_
 refine nk ?_
 refine nk ?_
 refine n1 ?_ (ed 7) (fun ev w hl ec e1 d ty p af g => ?_)
 refine n1 ?_ (ed 12) (fun ev w hl ec e1 d ty p af g => ?_)
 refine nk ?_
 refine nk ?_
 refine nk ?_
 refine nk ?_
 refine n1 ?_ (ed 13) (fun ev w hl ec e1 d ty p af g => ?_)
 refine n1 ?_ (ed 18) (fun ev w hl ec e1 d ty p af g => ?_)
 refine nk ?_
 refine nk ?_
 refine nk ?_
 refine nk ?_
 refine nk ?_
 refine nk ?_
 refine n1 ?_ (ed 19) (fun ev w hl ec e1 d ty p af g => ?_)
 refine n1 ?_ (ed 26) (fun ev w hl ec e1 d ty p af g => ?_)
 ·exact AllStepsN.none
 all_goals (unfold execOp; first | simp only [e1, e2, ec] | simp only [e1, ec] | simp only [ec])
 all_goals go_simp
noncomputable def pzb_rows (gx gy : Nat) (s1 s2 s3 s4 : Value) (a b : Int) (fb : Bool) : List SRow := [
 ⟨Op.load 56 (Operand.tmp 2), some 4, none, [], fun v _ => v = .agg #[.int .i64 a, .int .i64 b]⟩,
 ⟨Op.indexAddr 56 (Operand.tmp 2) (Operand.const (Value.int IntKind.i64 0)), some 5, none, [], fun v _ => v = .pointer (some ⟨gx, 0, none⟩)⟩,
 ⟨Op.load 3 (Operand.tmp 5), some 6, none, [1], fun v _ => v = .int .i64 a⟩,
 ⟨Op.indexAddr 56 (Operand.tmp 2) (Operand.const (Value.int IntKind.i64 0)), some 7, none, [], fun v _ => v = .pointer (some ⟨gx, 0, none⟩)⟩,
 ⟨Op.load 3 (Operand.tmp 7), some 8, none, [3], fun v _ => v = .int .i64 a⟩,
 ⟨Op.build 56 #[(0, Operand.tmp 6), (1, Operand.tmp 8)], some 9, none, [2, 4], fun v _ => v = .agg #[.int .i64 a, .int .i64 a]⟩,
 ⟨Op.binOp BinOp.neq 56 (Operand.tmp 4) (Operand.tmp 9) 56, some 10, none, [0, 5], fun v _ => v = .bool true⟩,
 ⟨Op.move (Operand.tmp 10), some 11, none, [6], fun v _ => v = .bool true⟩,
 ⟨Op.load 73 (Operand.tmp 1), some 12, some (7, true), [7], fun v _ => v = .agg #[s1, s2, s3, s4]⟩,
 ⟨Op.indexAddr 56 (Operand.tmp 2) (Operand.const (Value.int IntKind.i64 0)), some 13, some (7, true), [7], fun v _ => v = .pointer (some ⟨gx, 0, none⟩)⟩,
 ⟨Op.load 3 (Operand.tmp 13), some 14, some (7, true), [9, 7], fun v _ => v = .int .i64 a⟩,
 ⟨Op.call { callee := Callee.value (Operand.func 35), args := #[Operand.tmp 12, Operand.tmp 14], argTypes := #[73, 3] }, some 15, some (7, true), [8, 10, 7, 7], fun v _ => v = .bool false⟩,
 ⟨Op.pick (Operand.tmp 11) (Operand.tmp 15) (Operand.const (Value.bool false)), some 16, none, [7, 11], fun v _ => v = .bool false⟩,
 ⟨Op.move (Operand.tmp 16), some 17, none, [12, 11], fun v _ => v = .bool false⟩,
 ⟨Op.load 73 (Operand.tmp 1), some 18, some (13, true), [13], fun v _ => v = undef⟩,
 ⟨Op.indexAddr 56 (Operand.tmp 2) (Operand.const (Value.int IntKind.i64 1)), some 19, some (13, true), [13], fun v _ => v = undef⟩,
 ⟨Op.load 3 (Operand.tmp 19), some 20, some (13, true), [15, 13], fun v _ => v = undef⟩,
 ⟨Op.call { callee := Callee.value (Operand.func 36), args := #[Operand.tmp 18, Operand.tmp 20], argTypes := #[73, 3] }, some 21, some (13, true), [14, 16, 13, 13], fun v _ => v = undef⟩,
 ⟨Op.pick (Operand.tmp 17) (Operand.tmp 21) (Operand.const (Value.bool false)), some 22, none, [13, 17], fun v _ => v = .bool false⟩,
 ⟨Op.move (Operand.tmp 22), some 23, none, [18, 17], fun v _ => v = .bool false⟩,
 ⟨Op.load 73 (Operand.tmp 1), some 24, some (19, true), [19], fun v _ => v = undef⟩,
 ⟨Op.indexAddr 56 (Operand.tmp 2) (Operand.const (Value.int IntKind.i64 0)), some 25, some (19, true), [19], fun v _ => v = undef⟩,
 ⟨Op.load 3 (Operand.tmp 25), some 26, some (19, true), [21, 19], fun v _ => v = undef⟩,
 ⟨Op.indexAddr 56 (Operand.tmp 2) (Operand.const (Value.int IntKind.i64 1)), some 27, some (19, true), [19], fun v _ => v = undef⟩,
 ⟨Op.load 3 (Operand.tmp 27), some 28, some (19, true), [23, 19], fun v _ => v = undef⟩,
 ⟨Op.call { callee := Callee.value (Operand.func 37), args := #[Operand.tmp 24, Operand.tmp 26, Operand.tmp 28], argTypes := #[73, 3, 3] }, some 29, some (19, true), [20, 22, 24, 19, 19], fun v _ => v = undef⟩,
 ⟨Op.pick (Operand.tmp 23) (Operand.tmp 29) (Operand.const (Value.bool false)), some 30, none, [19, 25], fun v _ => v = .bool false⟩,
 ⟨Op.assign (Operand.tmp 30), some 3, none, [26, 25, 0, 1, 2, 3, 4, 5, 6, 7, 8, 9, 10, 11, 12, 13, 14, 15, 16, 17, 18, 19, 20, 21, 22, 23, 24, 25, 26], fun v _ => v = .bool false⟩]
noncomputable def pzb_base (gx gy : Nat) (s1 s2 s3 s4 : Value) (a b : Int) (fb : Bool) : List (Nat × Value) := [(1, .pointer (some ⟨gy, 0, none⟩)), (2, .pointer (some ⟨gx, 0, none⟩))]
set_option maxRecDepth 100000 in
set_option maxHeartbeats 4000000 in
theorem pzb_steps (V : World) (gx gy : Nat) (s1 s2 s3 s4 : Value) (a b : Int) (fb : Bool) (RX : ∀ w', Lat V w' → w'.rangeAt gx 0 [.int .i64 a, .int .i64 b]) (RX0 : ∀ w', Lat V w' → w'.cell? ⟨gx, 0, none⟩ = some (.int .i64 a)) (RX1 : ∀ w', Lat V w' → w'.cell? ⟨gx, 1, none⟩ = some (.int .i64 b)) (RY : ∀ w', Lat V w' → w'.rangeAt gy 0 [s1, s2, s3, s4])
  (JX : (Tryz.prog.info? 56).map (·.size) = some 2) (JY : (Tryz.prog.info? 73).map (·.size) = some 4) (HB : Hid (∀ w, (binOp .neq 56 (.agg #[.int .i64 a, .int .i64 b]) (.agg #[.int .i64 a, .int .i64 a])).run Tryz.prog w = .ok (.bool true) w))
  (HL : ∀ w, Lat V w → Calls Tryz.prog 35 #[.agg #[s1, s2, s3, s4], .int .i64 a] w (fun e w' => e = .returned (.bool false) ∧ Lat w w')) :
  AllStepsN Tryz.prog (pzb_rows gx gy s1 s2 s3 s4 a b fb) (pzb_base gx gy s1 s2 s3 s4 a b fb) V (pzb_rows gx gy s1 s2 s3 s4 a b fb) := by
 refine AllStepsN.next (fun _ _ _ h _ => h) (fun j b h => by cases h) (fun a w hl hb hd o ho => by have e1 := hb 2 _ rfl; exact Runs.val (yv_loadO (S := Lat V) e1 RX Tryz.underlying56 rfl JX o w ho hl) ⟨Lat.refl _, fun _ => rfl⟩) ?_
 refine n1 ?_ (eb 2) (fun ev w hl ec e1 d ty p af g => ?_)
 refine n1 ?_ (ed 1) (fun ev w hl ec e1 d ty p af g => by unfold execOp; simp only [e1, ec]; have h0 := RX0 w hl; have h1 := RX1 w hl; go_simp)
 refine n1 ?_ (eb 2) (fun ev w hl ec e1 d ty p af g => ?_)
 refine n1 ?_ (ed 3) (fun ev w hl ec e1 d ty p af g => by unfold execOp; simp only [e1, ec]; have h0 := RX0 w hl; have h1 := RX1 w hl; go_simp)
 refine n2 ?_ (ed 2) (ed 4) (fun ev w hl ec e1 e2 d ty p af g => ?_)
 refine AllStepsN.next (fun _ _ _ h _ => h) (fun j b h => by cases h) (fun a w hl hb hd o ho => by obtain ⟨v1, e1, q1⟩ := hd 0 _ _ (by simp) rfl rfl; obtain ⟨v2, e2, q2⟩ := hd 5 _ _ (by simp) rfl rfl; subst q1; subst q2; exact Runs.val (yv_bin (S := fun _ => True) e1 e2 pr_guard HB.out o w ho trivial) ⟨Lat.refl _, fun _ => rfl⟩) ?_
 refine n1 ?_ (ed 6) (fun ev w hl ec e1 d ty p af g => ?_)
 refine AllStepsN.next (fun _ _ _ h _ => h) (fun j b h => by cases h; exact ⟨_, rfl, ⟨_, rfl⟩, by simp, fun _ _ h => h⟩) (fun a w hl hb hd o ho => by have e1 := hb 1 _ rfl; exact Runs.val (yv_loadO (S := Lat V) e1 RY Tryz.underlying73 rfl JY o w ho hl) ⟨Lat.refl _, fun _ => rfl⟩) ?_
 refine n1 ?_ (eb 2) (fun ev w hl ec e1 d ty p af g => ?_)
 refine n1 ?_ (ed 9) (fun ev w hl ec e1 d ty p af g => by unfold execOp; simp only [e1, ec]; have h0 := RX0 w hl; have h1 := RX1 w hl; go_simp)
 refine AllStepsN.next (fun _ _ _ h _ => h) (fun j b h => by cases h; exact ⟨_, rfl, ⟨_, rfl⟩, by simp, fun _ _ h => h⟩) (fun a w hl hb hd o ho => by obtain ⟨v1, e1, q1⟩ := hd 8 _ _ (by simp) rfl rfl; subst q1; obtain ⟨v2, e2, q2⟩ := hd 10 _ _ (by simp) rfl rfl; subst q2; exact Runs.call (yv_call (f := 35) (fun _ => by go_simp) o ho (by simp only [List.map_toArray, List.map_cons, List.map_nil, eval_const, e1, e2])) ((HL w hl).mono fun e w' h => ⟨_, h.1, h.2, fun _ => rfl⟩)) ?_
 refine n2 ?_ (ed 7) (ed 11) (fun ev w hl ec e1 e2 d ty p af g => ?_)
 refine n1 ?_ (ed 12) (fun ev w hl ec e1 d ty p af g => ?_)
 refine nk ?_
 refine nk ?_
 refine nk ?_
 refine nk ?_
 refine n1 ?_ (ed 13) (fun ev w hl ec e1 d ty p af g => ?_)
 refine n1 ?_ (ed 18) (fun ev w hl ec e1 d ty p af g => ?_)
 refine nk ?_
 refine nk ?_
 refine nk ?_
 refine nk ?_
 refine nk ?_
 refine nk ?_
 refine n1 ?_ (ed 19) (fun ev w hl ec e1 d ty p af g => ?_)
 refine n1 ?_ (ed 26) (fun ev w hl ec e1 d ty p af g => ?_)
 ·exact AllStepsN.none
 all_goals (unfold execOp; first | simp only [e1, e2, ec] | simp only [e1, ec] | simp only [ec])
 all_goals go_simp
noncomputable def pzc_rows (gx gy : Nat) (s1 s2 s3 s4 : Value) (a b : Int) (fb : Bool) : List SRow := [
 ⟨Op.load 56 (Operand.tmp 2), some 4, none, [], fun v _ => v = .agg #[.int .i64 a, .int .i64 b]⟩,
 ⟨Op.indexAddr 56 (Operand.tmp 2) (Operand.const (Value.int IntKind.i64 0)), some 5, none, [], fun v _ => v = .pointer (some ⟨gx, 0, none⟩)⟩,
 ⟨Op.load 3 (Operand.tmp 5), some 6, none, [1], fun v _ => v = .int .i64 a⟩,
 ⟨Op.indexAddr 56 (Operand.tmp 2) (Operand.const (Value.int IntKind.i64 0)), some 7, none, [], fun v _ => v = .pointer (some ⟨gx, 0, none⟩)⟩,
 ⟨Op.load 3 (Operand.tmp 7), some 8, none, [3], fun v _ => v = .int .i64 a⟩,
 ⟨Op.build 56 #[(0, Operand.tmp 6), (1, Operand.tmp 8)], some 9, none, [2, 4], fun v _ => v = .agg #[.int .i64 a, .int .i64 a]⟩,
 ⟨Op.binOp BinOp.neq 56 (Operand.tmp 4) (Operand.tmp 9) 56, some 10, none, [0, 5], fun v _ => v = .bool true⟩,
 ⟨Op.move (Operand.tmp 10), some 11, none, [6], fun v _ => v = .bool true⟩,
 ⟨Op.load 73 (Operand.tmp 1), some 12, some (7, true), [7], fun v _ => v = .agg #[s1, s2, s3, s4]⟩,
 ⟨Op.indexAddr 56 (Operand.tmp 2) (Operand.const (Value.int IntKind.i64 0)), some 13, some (7, true), [7], fun v _ => v = .pointer (some ⟨gx, 0, none⟩)⟩,
 ⟨Op.load 3 (Operand.tmp 13), some 14, some (7, true), [9, 7], fun v _ => v = .int .i64 a⟩,
 ⟨Op.call { callee := Callee.value (Operand.func 35), args := #[Operand.tmp 12, Operand.tmp 14], argTypes := #[73, 3] }, some 15, some (7, true), [8, 10, 7, 7], fun v _ => v = .bool true⟩,
 ⟨Op.pick (Operand.tmp 11) (Operand.tmp 15) (Operand.const (Value.bool false)), some 16, none, [7, 11], fun v _ => v = .bool true⟩,
 ⟨Op.move (Operand.tmp 16), some 17, none, [12, 11], fun v _ => v = .bool true⟩,
 ⟨Op.load 73 (Operand.tmp 1), some 18, some (13, true), [13], fun v _ => v = .agg #[s1, s2, s3, s4]⟩,
 ⟨Op.indexAddr 56 (Operand.tmp 2) (Operand.const (Value.int IntKind.i64 1)), some 19, some (13, true), [13], fun v _ => v = .pointer (some ⟨gx, 1, none⟩)⟩,
 ⟨Op.load 3 (Operand.tmp 19), some 20, some (13, true), [15, 13], fun v _ => v = .int .i64 b⟩,
 ⟨Op.call { callee := Callee.value (Operand.func 36), args := #[Operand.tmp 18, Operand.tmp 20], argTypes := #[73, 3] }, some 21, some (13, true), [14, 16, 13, 13], fun v _ => v = .bool false⟩,
 ⟨Op.pick (Operand.tmp 17) (Operand.tmp 21) (Operand.const (Value.bool false)), some 22, none, [13, 17], fun v _ => v = .bool false⟩,
 ⟨Op.move (Operand.tmp 22), some 23, none, [18, 17], fun v _ => v = .bool false⟩,
 ⟨Op.load 73 (Operand.tmp 1), some 24, some (19, true), [19], fun v _ => v = undef⟩,
 ⟨Op.indexAddr 56 (Operand.tmp 2) (Operand.const (Value.int IntKind.i64 0)), some 25, some (19, true), [19], fun v _ => v = undef⟩,
 ⟨Op.load 3 (Operand.tmp 25), some 26, some (19, true), [21, 19], fun v _ => v = undef⟩,
 ⟨Op.indexAddr 56 (Operand.tmp 2) (Operand.const (Value.int IntKind.i64 1)), some 27, some (19, true), [19], fun v _ => v = undef⟩,
 ⟨Op.load 3 (Operand.tmp 27), some 28, some (19, true), [23, 19], fun v _ => v = undef⟩,
 ⟨Op.call { callee := Callee.value (Operand.func 37), args := #[Operand.tmp 24, Operand.tmp 26, Operand.tmp 28], argTypes := #[73, 3, 3] }, some 29, some (19, true), [20, 22, 24, 19, 19], fun v _ => v = undef⟩,
 ⟨Op.pick (Operand.tmp 23) (Operand.tmp 29) (Operand.const (Value.bool false)), some 30, none, [19, 25], fun v _ => v = .bool false⟩,
 ⟨Op.assign (Operand.tmp 30), some 3, none, [26, 25, 0, 1, 2, 3, 4, 5, 6, 7, 8, 9, 10, 11, 12, 13, 14, 15, 16, 17, 18, 19, 20, 21, 22, 23, 24, 25, 26], fun v _ => v = .bool false⟩]
noncomputable def pzc_base (gx gy : Nat) (s1 s2 s3 s4 : Value) (a b : Int) (fb : Bool) : List (Nat × Value) := [(1, .pointer (some ⟨gy, 0, none⟩)), (2, .pointer (some ⟨gx, 0, none⟩))]
set_option maxRecDepth 100000 in
set_option maxHeartbeats 4000000 in
theorem pzc_steps (V : World) (gx gy : Nat) (s1 s2 s3 s4 : Value) (a b : Int) (fb : Bool) (RX : ∀ w', Lat V w' → w'.rangeAt gx 0 [.int .i64 a, .int .i64 b]) (RX0 : ∀ w', Lat V w' → w'.cell? ⟨gx, 0, none⟩ = some (.int .i64 a)) (RX1 : ∀ w', Lat V w' → w'.cell? ⟨gx, 1, none⟩ = some (.int .i64 b)) (RY : ∀ w', Lat V w' → w'.rangeAt gy 0 [s1, s2, s3, s4])
  (JX : (Tryz.prog.info? 56).map (·.size) = some 2) (JY : (Tryz.prog.info? 73).map (·.size) = some 4) (HB : Hid (∀ w, (binOp .neq 56 (.agg #[.int .i64 a, .int .i64 b]) (.agg #[.int .i64 a, .int .i64 a])).run Tryz.prog w = .ok (.bool true) w))
  (HL : ∀ w, Lat V w → Calls Tryz.prog 35 #[.agg #[s1, s2, s3, s4], .int .i64 a] w (fun e w' => e = .returned (.bool true) ∧ Lat w w'))
  (HW : ∀ w, Lat V w → Calls Tryz.prog 36 #[.agg #[s1, s2, s3, s4], .int .i64 b] w (fun e w' => e = .returned (.bool false) ∧ Lat w w')) :
  AllStepsN Tryz.prog (pzc_rows gx gy s1 s2 s3 s4 a b fb) (pzc_base gx gy s1 s2 s3 s4 a b fb) V (pzc_rows gx gy s1 s2 s3 s4 a b fb) := by
 refine AllStepsN.next (fun _ _ _ h _ => h) (fun j b h => by cases h) (fun a w hl hb hd o ho => by have e1 := hb 2 _ rfl; exact Runs.val (yv_loadO (S := Lat V) e1 RX Tryz.underlying56 rfl JX o w ho hl) ⟨Lat.refl _, fun _ => rfl⟩) ?_
 refine n1 ?_ (eb 2) (fun ev w hl ec e1 d ty p af g => ?_)
 refine n1 ?_ (ed 1) (fun ev w hl ec e1 d ty p af g => by unfold execOp; simp only [e1, ec]; have h0 := RX0 w hl; have h1 := RX1 w hl; go_simp)
 refine n1 ?_ (eb 2) (fun ev w hl ec e1 d ty p af g => ?_)
 refine n1 ?_ (ed 3) (fun ev w hl ec e1 d ty p af g => by unfold execOp; simp only [e1, ec]; have h0 := RX0 w hl; have h1 := RX1 w hl; go_simp)
 refine n2 ?_ (ed 2) (ed 4) (fun ev w hl ec e1 e2 d ty p af g => ?_)
 refine AllStepsN.next (fun _ _ _ h _ => h) (fun j b h => by cases h) (fun a w hl hb hd o ho => by obtain ⟨v1, e1, q1⟩ := hd 0 _ _ (by simp) rfl rfl; obtain ⟨v2, e2, q2⟩ := hd 5 _ _ (by simp) rfl rfl; subst q1; subst q2; exact Runs.val (yv_bin (S := fun _ => True) e1 e2 pr_guard HB.out o w ho trivial) ⟨Lat.refl _, fun _ => rfl⟩) ?_
 refine n1 ?_ (ed 6) (fun ev w hl ec e1 d ty p af g => ?_)
 refine AllStepsN.next (fun _ _ _ h _ => h) (fun j b h => by cases h; exact ⟨_, rfl, ⟨_, rfl⟩, by simp, fun _ _ h => h⟩) (fun a w hl hb hd o ho => by have e1 := hb 1 _ rfl; exact Runs.val (yv_loadO (S := Lat V) e1 RY Tryz.underlying73 rfl JY o w ho hl) ⟨Lat.refl _, fun _ => rfl⟩) ?_
 refine n1 ?_ (eb 2) (fun ev w hl ec e1 d ty p af g => ?_)
 refine n1 ?_ (ed 9) (fun ev w hl ec e1 d ty p af g => by unfold execOp; simp only [e1, ec]; have h0 := RX0 w hl; have h1 := RX1 w hl; go_simp)
 refine AllStepsN.next (fun _ _ _ h _ => h) (fun j b h => by cases h; exact ⟨_, rfl, ⟨_, rfl⟩, by simp, fun _ _ h => h⟩) (fun a w hl hb hd o ho => by obtain ⟨v1, e1, q1⟩ := hd 8 _ _ (by simp) rfl rfl; subst q1; obtain ⟨v2, e2, q2⟩ := hd 10 _ _ (by simp) rfl rfl; subst q2; exact Runs.call (yv_call (f := 35) (fun _ => by go_simp) o ho (by simp only [List.map_toArray, List.map_cons, List.map_nil, eval_const, e1, e2])) ((HL w hl).mono fun e w' h => ⟨_, h.1, h.2, fun _ => rfl⟩)) ?_
 refine n2 ?_ (ed 7) (ed 11) (fun ev w hl ec e1 e2 d ty p af g => ?_)
 refine n1 ?_ (ed 12) (fun ev w hl ec e1 d ty p af g => ?_)
 refine AllStepsN.next (fun _ _ _ h _ => h) (fun j b h => by cases h; exact ⟨_, rfl, ⟨_, rfl⟩, by simp, fun _ _ h => h⟩) (fun a w hl hb hd o ho => by have e1 := hb 1 _ rfl; exact Runs.val (yv_loadO (S := Lat V) e1 RY Tryz.underlying73 rfl JY o w ho hl) ⟨Lat.refl _, fun _ => rfl⟩) ?_
 refine n1 ?_ (eb 2) (fun ev w hl ec e1 d ty p af g => ?_)
 refine n1 ?_ (ed 15) (fun ev w hl ec e1 d ty p af g => by unfold execOp; simp only [e1, ec]; have h0 := RX0 w hl; have h1 := RX1 w hl; go_simp)
 refine AllStepsN.next (fun _ _ _ h _ => h) (fun j b h => by cases h; exact ⟨_, rfl, ⟨_, rfl⟩, by simp, fun _ _ h => h⟩) (fun a w hl hb hd o ho => by obtain ⟨v1, e1, q1⟩ := hd 14 _ _ (by simp) rfl rfl; subst q1; obtain ⟨v2, e2, q2⟩ := hd 16 _ _ (by simp) rfl rfl; subst q2; exact Runs.call (yv_call (f := 36) (fun _ => by go_simp) o ho (by simp only [List.map_toArray, List.map_cons, List.map_nil, eval_const, e1, e2])) ((HW w hl).mono fun e w' h => ⟨_, h.1, h.2, fun _ => rfl⟩)) ?_
 refine n2 ?_ (ed 13) (ed 17) (fun ev w hl ec e1 e2 d ty p af g => ?_)
 refine n1 ?_ (ed 18) (fun ev w hl ec e1 d ty p af g => ?_)
 refine nk ?_
 refine nk ?_
 refine nk ?_
 refine nk ?_
 refine nk ?_
 refine nk ?_
 refine n1 ?_ (ed 19) (fun ev w hl ec e1 d ty p af g => ?_)
 refine n1 ?_ (ed 26) (fun ev w hl ec e1 d ty p af g => ?_)
 ·exact AllStepsN.none
 all_goals (unfold execOp; first | simp only [e1, e2, ec] | simp only [e1, ec] | simp only [ec])
 all_goals go_simp
noncomputable def pzd_rows (gx gy : Nat) (s1 s2 s3 s4 : Value) (a b : Int) (fb : Bool) : List SRow := [
 ⟨Op.load 56 (Operand.tmp 2), some 4, none, [], fun v _ => v = .agg #[.int .i64 a, .int .i64 b]⟩,
 ⟨Op.indexAddr 56 (Operand.tmp 2) (Operand.const (Value.int IntKind.i64 0)), some 5, none, [], fun v _ => v = .pointer (some ⟨gx, 0, none⟩)⟩,
 ⟨Op.load 3 (Operand.tmp 5), some 6, none, [1], fun v _ => v = .int .i64 a⟩,
 ⟨Op.indexAddr 56 (Operand.tmp 2) (Operand.const (Value.int IntKind.i64 0)), some 7, none, [], fun v _ => v = .pointer (some ⟨gx, 0, none⟩)⟩,
 ⟨Op.load 3 (Operand.tmp 7), some 8, none, [3], fun v _ => v = .int .i64 a⟩,
 ⟨Op.build 56 #[(0, Operand.tmp 6), (1, Operand.tmp 8)], some 9, none, [2, 4], fun v _ => v = .agg #[.int .i64 a, .int .i64 a]⟩,
 ⟨Op.binOp BinOp.neq 56 (Operand.tmp 4) (Operand.tmp 9) 56, some 10, none, [0, 5], fun v _ => v = .bool true⟩,
 ⟨Op.move (Operand.tmp 10), some 11, none, [6], fun v _ => v = .bool true⟩,
 ⟨Op.load 73 (Operand.tmp 1), some 12, some (7, true), [7], fun v _ => v = .agg #[s1, s2, s3, s4]⟩,
 ⟨Op.indexAddr 56 (Operand.tmp 2) (Operand.const (Value.int IntKind.i64 0)), some 13, some (7, true), [7], fun v _ => v = .pointer (some ⟨gx, 0, none⟩)⟩,
 ⟨Op.load 3 (Operand.tmp 13), some 14, some (7, true), [9, 7], fun v _ => v = .int .i64 a⟩,
 ⟨Op.call { callee := Callee.value (Operand.func 35), args := #[Operand.tmp 12, Operand.tmp 14], argTypes := #[73, 3] }, some 15, some (7, true), [8, 10, 7, 7], fun v _ => v = .bool true⟩,
 ⟨Op.pick (Operand.tmp 11) (Operand.tmp 15) (Operand.const (Value.bool false)), some 16, none, [7, 11], fun v _ => v = .bool true⟩,
 ⟨Op.move (Operand.tmp 16), some 17, none, [12, 11], fun v _ => v = .bool true⟩,
 ⟨Op.load 73 (Operand.tmp 1), some 18, some (13, true), [13], fun v _ => v = .agg #[s1, s2, s3, s4]⟩,
 ⟨Op.indexAddr 56 (Operand.tmp 2) (Operand.const (Value.int IntKind.i64 1)), some 19, some (13, true), [13], fun v _ => v = .pointer (some ⟨gx, 1, none⟩)⟩,
 ⟨Op.load 3 (Operand.tmp 19), some 20, some (13, true), [15, 13], fun v _ => v = .int .i64 b⟩,
 ⟨Op.call { callee := Callee.value (Operand.func 36), args := #[Operand.tmp 18, Operand.tmp 20], argTypes := #[73, 3] }, some 21, some (13, true), [14, 16, 13, 13], fun v _ => v = .bool true⟩,
 ⟨Op.pick (Operand.tmp 17) (Operand.tmp 21) (Operand.const (Value.bool false)), some 22, none, [13, 17], fun v _ => v = .bool true⟩,
 ⟨Op.move (Operand.tmp 22), some 23, none, [18, 17], fun v _ => v = .bool true⟩,
 ⟨Op.load 73 (Operand.tmp 1), some 24, some (19, true), [19], fun v _ => v = .agg #[s1, s2, s3, s4]⟩,
 ⟨Op.indexAddr 56 (Operand.tmp 2) (Operand.const (Value.int IntKind.i64 0)), some 25, some (19, true), [19], fun v _ => v = .pointer (some ⟨gx, 0, none⟩)⟩,
 ⟨Op.load 3 (Operand.tmp 25), some 26, some (19, true), [21, 19], fun v _ => v = .int .i64 a⟩,
 ⟨Op.indexAddr 56 (Operand.tmp 2) (Operand.const (Value.int IntKind.i64 1)), some 27, some (19, true), [19], fun v _ => v = .pointer (some ⟨gx, 1, none⟩)⟩,
 ⟨Op.load 3 (Operand.tmp 27), some 28, some (19, true), [23, 19], fun v _ => v = .int .i64 b⟩,
 ⟨Op.call { callee := Callee.value (Operand.func 37), args := #[Operand.tmp 24, Operand.tmp 26, Operand.tmp 28], argTypes := #[73, 3, 3] }, some 29, some (19, true), [20, 22, 24, 19, 19], fun v _ => v = .bool fb⟩,
 ⟨Op.pick (Operand.tmp 23) (Operand.tmp 29) (Operand.const (Value.bool false)), some 30, none, [19, 25], fun v _ => v = .bool fb⟩,
 ⟨Op.assign (Operand.tmp 30), some 3, none, [26, 25, 0, 1, 2, 3, 4, 5, 6, 7, 8, 9, 10, 11, 12, 13, 14, 15, 16, 17, 18, 19, 20, 21, 22, 23, 24, 25, 26], fun v _ => v = .bool fb⟩]
noncomputable def pzd_base (gx gy : Nat) (s1 s2 s3 s4 : Value) (a b : Int) (fb : Bool) : List (Nat × Value) := [(1, .pointer (some ⟨gy, 0, none⟩)), (2, .pointer (some ⟨gx, 0, none⟩))]
set_option maxRecDepth 100000 in
set_option maxHeartbeats 4000000 in
theorem pzd_steps (V : World) (gx gy : Nat) (s1 s2 s3 s4 : Value) (a b : Int) (fb : Bool) (RX : ∀ w', Lat V w' → w'.rangeAt gx 0 [.int .i64 a, .int .i64 b]) (RX0 : ∀ w', Lat V w' → w'.cell? ⟨gx, 0, none⟩ = some (.int .i64 a)) (RX1 : ∀ w', Lat V w' → w'.cell? ⟨gx, 1, none⟩ = some (.int .i64 b)) (RY : ∀ w', Lat V w' → w'.rangeAt gy 0 [s1, s2, s3, s4])
  (JX : (Tryz.prog.info? 56).map (·.size) = some 2) (JY : (Tryz.prog.info? 73).map (·.size) = some 4) (HB : Hid (∀ w, (binOp .neq 56 (.agg #[.int .i64 a, .int .i64 b]) (.agg #[.int .i64 a, .int .i64 a])).run Tryz.prog w = .ok (.bool true) w))
  (HL : ∀ w, Lat V w → Calls Tryz.prog 35 #[.agg #[s1, s2, s3, s4], .int .i64 a] w (fun e w' => e = .returned (.bool true) ∧ Lat w w'))
  (HW : ∀ w, Lat V w → Calls Tryz.prog 36 #[.agg #[s1, s2, s3, s4], .int .i64 b] w (fun e w' => e = .returned (.bool true) ∧ Lat w w'))
  (HF : ∀ w, Lat V w → Calls Tryz.prog 37 #[.agg #[s1, s2, s3, s4], .int .i64 a, .int .i64 b] w (fun e w' => e = .returned (.bool fb) ∧ Lat w w')) :
  AllStepsN Tryz.prog (pzd_rows gx gy s1 s2 s3 s4 a b fb) (pzd_base gx gy s1 s2 s3 s4 a b fb) V (pzd_rows gx gy s1 s2 s3 s4 a b fb) := by
 refine AllStepsN.next (fun _ _ _ h _ => h) (fun j b h => by cases h) (fun a w hl hb hd o ho => by have e1 := hb 2 _ rfl; exact Runs.val (yv_loadO (S := Lat V) e1 RX Tryz.underlying56 rfl JX o w ho hl) ⟨Lat.refl _, fun _ => rfl⟩) ?_
 refine n1 ?_ (eb 2) (fun ev w hl ec e1 d ty p af g => ?_)
 refine n1 ?_ (ed 1) (fun ev w hl ec e1 d ty p af g => by unfold execOp; simp only [e1, ec]; have h0 := RX0 w hl; have h1 := RX1 w hl; go_simp)
 refine n1 ?_ (eb 2) (fun ev w hl ec e1 d ty p af g => ?_)
 refine n1 ?_ (ed 3) (fun ev w hl ec e1 d ty p af g => by unfold execOp; simp only [e1, ec]; have h0 := RX0 w hl; have h1 := RX1 w hl; go_simp)
 refine n2 ?_ (ed 2) (ed 4) (fun ev w hl ec e1 e2 d ty p af g => ?_)
 refine AllStepsN.next (fun _ _ _ h _ => h) (fun j b h => by cases h) (fun a w hl hb hd o ho => by obtain ⟨v1, e1, q1⟩ := hd 0 _ _ (by simp) rfl rfl; obtain ⟨v2, e2, q2⟩ := hd 5 _ _ (by simp) rfl rfl; subst q1; subst q2; exact Runs.val (yv_bin (S := fun _ => True) e1 e2 pr_guard HB.out o w ho trivial) ⟨Lat.refl _, fun _ => rfl⟩) ?_
 refine n1 ?_ (ed 6) (fun ev w hl ec e1 d ty p af g => ?_)
 refine AllStepsN.next (fun _ _ _ h _ => h) (fun j b h => by cases h; exact ⟨_, rfl, ⟨_, rfl⟩, by simp, fun _ _ h => h⟩) (fun a w hl hb hd o ho => by have e1 := hb 1 _ rfl; exact Runs.val (yv_loadO (S := Lat V) e1 RY Tryz.underlying73 rfl JY o w ho hl) ⟨Lat.refl _, fun _ => rfl⟩) ?_
 refine n1 ?_ (eb 2) (fun ev w hl ec e1 d ty p af g => ?_)
 refine n1 ?_ (ed 9) (fun ev w hl ec e1 d ty p af g => by unfold execOp; simp only [e1, ec]; have h0 := RX0 w hl; have h1 := RX1 w hl; go_simp)
 refine AllStepsN.next (fun _ _ _ h _ => h) (fun j b h => by cases h; exact ⟨_, rfl, ⟨_, rfl⟩, by simp, fun _ _ h => h⟩) (fun a w hl hb hd o ho => by obtain ⟨v1, e1, q1⟩ := hd 8 _ _ (by simp) rfl rfl; subst q1; obtain ⟨v2, e2, q2⟩ := hd 10 _ _ (by simp) rfl rfl; subst q2; exact Runs.call (yv_call (f := 35) (fun _ => by go_simp) o ho (by simp only [List.map_toArray, List.map_cons, List.map_nil, eval_const, e1, e2])) ((HL w hl).mono fun e w' h => ⟨_, h.1, h.2, fun _ => rfl⟩)) ?_
 refine n2 ?_ (ed 7) (ed 11) (fun ev w hl ec e1 e2 d ty p af g => ?_)
 refine n1 ?_ (ed 12) (fun ev w hl ec e1 d ty p af g => ?_)
 refine AllStepsN.next (fun _ _ _ h _ => h) (fun j b h => by cases h; exact ⟨_, rfl, ⟨_, rfl⟩, by simp, fun _ _ h => h⟩) (fun a w hl hb hd o ho => by have e1 := hb 1 _ rfl; exact Runs.val (yv_loadO (S := Lat V) e1 RY Tryz.underlying73 rfl JY o w ho hl) ⟨Lat.refl _, fun _ => rfl⟩) ?_
 refine n1 ?_ (eb 2) (fun ev w hl ec e1 d ty p af g => ?_)
 refine n1 ?_ (ed 15) (fun ev w hl ec e1 d ty p af g => by unfold execOp; simp only [e1, ec]; have h0 := RX0 w hl; have h1 := RX1 w hl; go_simp)
 refine AllStepsN.next (fun _ _ _ h _ => h) (fun j b h => by cases h; exact ⟨_, rfl, ⟨_, rfl⟩, by simp, fun _ _ h => h⟩) (fun a w hl hb hd o ho => by obtain ⟨v1, e1, q1⟩ := hd 14 _ _ (by simp) rfl rfl; subst q1; obtain ⟨v2, e2, q2⟩ := hd 16 _ _ (by simp) rfl rfl; subst q2; exact Runs.call (yv_call (f := 36) (fun _ => by go_simp) o ho (by simp only [List.map_toArray, List.map_cons, List.map_nil, eval_const, e1, e2])) ((HW w hl).mono fun e w' h => ⟨_, h.1, h.2, fun _ => rfl⟩)) ?_
 refine n2 ?_ (ed 13) (ed 17) (fun ev w hl ec e1 e2 d ty p af g => ?_)
 refine n1 ?_ (ed 18) (fun ev w hl ec e1 d ty p af g => ?_)
 refine AllStepsN.next (fun _ _ _ h _ => h) (fun j b h => by cases h; exact ⟨_, rfl, ⟨_, rfl⟩, by simp, fun _ _ h => h⟩) (fun a w hl hb hd o ho => by have e1 := hb 1 _ rfl; exact Runs.val (yv_loadO (S := Lat V) e1 RY Tryz.underlying73 rfl JY o w ho hl) ⟨Lat.refl _, fun _ => rfl⟩) ?_
 refine n1 ?_ (eb 2) (fun ev w hl ec e1 d ty p af g => ?_)
 refine n1 ?_ (ed 21) (fun ev w hl ec e1 d ty p af g => by unfold execOp; simp only [e1, ec]; have h0 := RX0 w hl; have h1 := RX1 w hl; go_simp)
 refine n1 ?_ (eb 2) (fun ev w hl ec e1 d ty p af g => ?_)
 refine n1 ?_ (ed 23) (fun ev w hl ec e1 d ty p af g => by unfold execOp; simp only [e1, ec]; have h0 := RX0 w hl; have h1 := RX1 w hl; go_simp)
 refine AllStepsN.next (fun _ _ _ h _ => h) (fun j b h => by cases h; exact ⟨_, rfl, ⟨_, rfl⟩, by simp, fun _ _ h => h⟩) (fun a w hl hb hd o ho => by obtain ⟨v1, e1, q1⟩ := hd 20 _ _ (by simp) rfl rfl; subst q1; obtain ⟨v2, e2, q2⟩ := hd 22 _ _ (by simp) rfl rfl; subst q2; obtain ⟨v3, e3, q3⟩ := hd 24 _ _ (by simp) rfl rfl; subst q3; exact Runs.call (yv_call (f := 37) (fun _ => by go_simp) o ho (by simp only [List.map_toArray, List.map_cons, List.map_nil, eval_const, e1, e2, e3])) ((HF w hl).mono fun e w' h => ⟨_, h.1, h.2, fun _ => rfl⟩)) ?_
 refine n2 ?_ (ed 19) (ed 25) (fun ev w hl ec e1 e2 d ty p af g => ?_)
 refine n1 ?_ (ed 26) (fun ev w hl ec e1 d ty p af g => ?_)
 ·exact AllStepsN.none
 all_goals (unfold execOp; first | simp only [e1, e2, ec] | simp only [e1, ec] | simp only [ec])
 all_goals go_simp
set_option maxHeartbeats 8000000 in
theorem ppl2_any (gy : Nat) (s1 s2 s3 s4 : Value) (a b : Int) (lb wb fb : Bool) (w : World) (KY : Blk w gy 73 #[s1, s2, s3, s4])
  (HL : ∀ w', Lat w w' → Calls Tryz.prog 35 #[.agg #[s1, s2, s3, s4], .int .i64 a] w' (fun e w'' => e = .returned (.bool lb) ∧ Lat w' w''))
  (HW : ∀ w', Lat w w' → Calls Tryz.prog 36 #[.agg #[s1, s2, s3, s4], .int .i64 b] w' (fun e w'' => e = .returned (.bool wb) ∧ Lat w' w''))
  (HF : ∀ w', Lat w w' → Calls Tryz.prog 37 #[.agg #[s1, s2, s3, s4], .int .i64 a, .int .i64 b] w' (fun e w'' => e = .returned (.bool fb) ∧ Lat w' w'')) :
  Calls Tryz.prog 34 #[.agg #[.int .i64 a, .int .i64 b], .pointer (some ⟨gy, 0, none⟩)] w (fun e w' => e = .returned (.bool (!(a == b) && lb && wb && fb)) ∧ Lat w w') := by
 obtain ⟨rb, hrb⟩ : ∃ rb, (!(a == b) && lb && wb && fb) = rb := ⟨_, rfl⟩
 rw [hrb]
 have HRB := Lib.hid hrb
 clear hrb
 go_enter Tryz.func34, Tryz.ntmps34
 go_upto_region 1 with (fail)
 refine name1 (Q := fun W => Code.wp _ _ _ _ W) ?_
 intro W1 L1 hs1 k2
 obtain ⟨gx, hg⟩ : ∃ z, w.heap.size = z := ⟨_, rfl⟩
 rw [hg] at k2 ⊢
 have RX : ∀ w', Lat W1 w' → w'.rangeAt gx 0 [.int .i64 a, .int .i64 b] := fun w' hl => Px.rangeAll (l := [.int .i64 a, .int .i64 b]) (k2.later hl)
 have RX0 : ∀ w', Lat W1 w' → w'.cell? ⟨gx, 0, none⟩ = some (.int .i64 a) := fun w' hl => (k2.later hl).cell 0
 have RX1 : ∀ w', Lat W1 w' → w'.cell? ⟨gx, 1, none⟩ = some (.int .i64 b) := fun w' hl => (k2.later hl).cell 1
 have RY : ∀ w', Lat W1 w' → w'.rangeAt gy 0 [s1, s2, s3, s4] := fun w' hl => Px.rangeAll (l := [s1, s2, s3, s4]) ((KY.later L1).later hl)
 have JX : (Tryz.prog.info? 56).map (·.size) = some 2 := by kernel_rfl
 have JY : (Tryz.prog.info? 73).map (·.size) = some 4 := by kernel_rfl
 replace HL := fun w' (h : Lat W1 w') => HL w' (L1.trans h)
 replace HW := fun w' (h : Lat W1 w') => HW w' (L1.trans h)
 replace HF := fun w' (h : Lat W1 w') => HF w' (L1.trans h)
 clear hg hs1 k2 KY
 go_upto_region 1 with (fail)
 by_cases hab : a = b
 ·obtain rfl : rb = false := by rw [← HRB.out]; simp [hab]
  have HB : Hid (∀ w, (binOp .neq 56 (.agg #[.int .i64 a, .int .i64 b]) (.agg #[.int .i64 a, .int .i64 a])).run Tryz.prog w = .ok (.bool false) w) := fun w => by rw [pr_neq]; simp [hab]
  clear HRB HL HW HF hab
  rename_i KN hKN
  refine wp_region_slotsN (pza_rows gx gy s1 s2 s3 s4 a b true) (pza_base gx gy s1 s2 s3 s4 a b true) 31 28 [[], [], [1], [], [3], [2, 4], [0, 5], [6], [7], [7], [9, 7], [8, 10, 7, 7], [7, 11], [12, 11], [13], [13], [15, 13], [14, 16, 13, 13], [13, 17], [18, 17], [19], [19], [21, 19], [19], [23, 19], [20, 22, 24, 19, 19], [19, 25], [26, 25, 0, 1, 2, 3, 4, 5, 6, 7, 8, 9, 10, 11, 12, 13, 14, 15, 16, 17, 18, 19, 20, 21, 22, 23, 24, 25, 26]] (by kernel_rfl) (by kernel_rfl) (by kernel_rfl) (by kernel_rfl) (by kernel_rfl) (by kernel_rfl) (by rfl) rfl (base_of (by repeat (first | exact base_nil _ | refine base_consL rfl ?_))) (pza_steps W1 gx gy s1 s2 s3 s4 a b true RX RX0 RX1 RY JX JY HB) ?_
  ·intro a9 W9 hsz9 hdf9 hL9 hbs hsl
   obtain ⟨v9, h9, q9⟩ := hsl 27 _ _ rfl rfl
   obtain rfl : v9 = .bool false := q9
   have w3 := slot_getD h9
   clear h9
   refine hKN _ _ ?_
   obtain ⟨T9, df9⟩ := a9
   obtain rfl : df9 = [] := hdf9
   obtain ⟨f, hf, rfl⟩ := spell31 T9 hsz9
   have x1 := (hf 1).trans (slot_getD (hbs 1 _ rfl))
   have x2 := (hf 2).trans (slot_getD (hbs 2 _ rfl))
   have x3 := (hf 3).trans w3
   clear hbs hsl hf hsz9 hKN w3
   simp only [x1, x2, x3]
   clear x1 x2 x3
   go_wp2
   go_ret
   exact ⟨rfl, L1.trans hL9⟩
 ·have HB : Hid (∀ w, (binOp .neq 56 (.agg #[.int .i64 a, .int .i64 b]) (.agg #[.int .i64 a, .int .i64 a])).run Tryz.prog w = .ok (.bool true) w) := fun w => by
   have hba : (b == a) = false := by simp; omega
   rw [pr_neq, hba]; simp
  have hne : (!(a == b)) = true := by simp [hab]
  cases lb with
  | false =>
    obtain rfl : rb = false := by rw [← HRB.out]; simp
    clear HRB HW HF hab hne
    rename_i KN hKN
    refine wp_region_slotsN (pzb_rows gx gy s1 s2 s3 s4 a b true) (pzb_base gx gy s1 s2 s3 s4 a b true) 31 28 [[], [], [1], [], [3], [2, 4], [0, 5], [6], [7], [7], [9, 7], [8, 10, 7, 7], [7, 11], [12, 11], [13], [13], [15, 13], [14, 16, 13, 13], [13, 17], [18, 17], [19], [19], [21, 19], [19], [23, 19], [20, 22, 24, 19, 19], [19, 25], [26, 25, 0, 1, 2, 3, 4, 5, 6, 7, 8, 9, 10, 11, 12, 13, 14, 15, 16, 17, 18, 19, 20, 21, 22, 23, 24, 25, 26]] (by kernel_rfl) (by kernel_rfl) (by kernel_rfl) (by kernel_rfl) (by kernel_rfl) (by kernel_rfl) (by rfl) rfl (base_of (by repeat (first | exact base_nil _ | refine base_consL rfl ?_))) (pzb_steps W1 gx gy s1 s2 s3 s4 a b true RX RX0 RX1 RY JX JY HB HL) ?_
    ·intro a9 W9 hsz9 hdf9 hL9 hbs hsl
     obtain ⟨v9, h9, q9⟩ := hsl 27 _ _ rfl rfl
     obtain rfl : v9 = .bool false := q9
     have w3 := slot_getD h9
     clear h9
     refine hKN _ _ ?_
     obtain ⟨T9, df9⟩ := a9
     obtain rfl : df9 = [] := hdf9
     obtain ⟨f, hf, rfl⟩ := spell31 T9 hsz9
     have x1 := (hf 1).trans (slot_getD (hbs 1 _ rfl))
     have x2 := (hf 2).trans (slot_getD (hbs 2 _ rfl))
     have x3 := (hf 3).trans w3
     clear hbs hsl hf hsz9 hKN w3
     simp only [x1, x2, x3]
     clear x1 x2 x3
     go_wp2
     go_ret
     exact ⟨rfl, L1.trans hL9⟩
  | true =>
    cases wb with
    | false =>
      obtain rfl : rb = false := by rw [← HRB.out]; simp
      clear HRB HF hab hne
      rename_i KN hKN
      refine wp_region_slotsN (pzc_rows gx gy s1 s2 s3 s4 a b true) (pzc_base gx gy s1 s2 s3 s4 a b true) 31 28 [[], [], [1], [], [3], [2, 4], [0, 5], [6], [7], [7], [9, 7], [8, 10, 7, 7], [7, 11], [12, 11], [13], [13], [15, 13], [14, 16, 13, 13], [13, 17], [18, 17], [19], [19], [21, 19], [19], [23, 19], [20, 22, 24, 19, 19], [19, 25], [26, 25, 0, 1, 2, 3, 4, 5, 6, 7, 8, 9, 10, 11, 12, 13, 14, 15, 16, 17, 18, 19, 20, 21, 22, 23, 24, 25, 26]] (by kernel_rfl) (by kernel_rfl) (by kernel_rfl) (by kernel_rfl) (by kernel_rfl) (by kernel_rfl) (by rfl) rfl (base_of (by repeat (first | exact base_nil _ | refine base_consL rfl ?_))) (pzc_steps W1 gx gy s1 s2 s3 s4 a b true RX RX0 RX1 RY JX JY HB HL HW) ?_
      ·intro a9 W9 hsz9 hdf9 hL9 hbs hsl
       obtain ⟨v9, h9, q9⟩ := hsl 27 _ _ rfl rfl
       obtain rfl : v9 = .bool false := q9
       have w3 := slot_getD h9
       clear h9
       refine hKN _ _ ?_
       obtain ⟨T9, df9⟩ := a9
       obtain rfl : df9 = [] := hdf9
       obtain ⟨f, hf, rfl⟩ := spell31 T9 hsz9
       have x1 := (hf 1).trans (slot_getD (hbs 1 _ rfl))
       have x2 := (hf 2).trans (slot_getD (hbs 2 _ rfl))
       have x3 := (hf 3).trans w3
       clear hbs hsl hf hsz9 hKN w3
       simp only [x1, x2, x3]
       clear x1 x2 x3
       go_wp2
       go_ret
       exact ⟨rfl, L1.trans hL9⟩
    | true =>
      obtain rfl : fb = rb := by rw [← HRB.out, hne]; simp
      clear HRB hab hne
      rename_i KN hKN
      refine wp_region_slotsN (pzd_rows gx gy s1 s2 s3 s4 a b fb) (pzd_base gx gy s1 s2 s3 s4 a b fb) 31 28 [[], [], [1], [], [3], [2, 4], [0, 5], [6], [7], [7], [9, 7], [8, 10, 7, 7], [7, 11], [12, 11], [13], [13], [15, 13], [14, 16, 13, 13], [13, 17], [18, 17], [19], [19], [21, 19], [19], [23, 19], [20, 22, 24, 19, 19], [19, 25], [26, 25, 0, 1, 2, 3, 4, 5, 6, 7, 8, 9, 10, 11, 12, 13, 14, 15, 16, 17, 18, 19, 20, 21, 22, 23, 24, 25, 26]] (by kernel_rfl) (by kernel_rfl) (by kernel_rfl) (by kernel_rfl) (by kernel_rfl) (by kernel_rfl) (by rfl) rfl (base_of (by repeat (first | exact base_nil _ | refine base_consL rfl ?_))) (pzd_steps W1 gx gy s1 s2 s3 s4 a b fb RX RX0 RX1 RY JX JY HB HL HW HF) ?_
      ·intro a9 W9 hsz9 hdf9 hL9 hbs hsl
       obtain ⟨v9, h9, q9⟩ := hsl 27 _ _ rfl rfl
       obtain rfl : v9 = .bool fb := q9
       have w3 := slot_getD h9
       clear h9
       refine hKN _ _ ?_
       obtain ⟨T9, df9⟩ := a9
       obtain rfl : df9 = [] := hdf9
       obtain ⟨f, hf, rfl⟩ := spell31 T9 hsz9
       have x1 := (hf 1).trans (slot_getD (hbs 1 _ rfl))
       have x2 := (hf 2).trans (slot_getD (hbs 2 _ rfl))
       have x3 := (hf 3).trans w3
       clear hbs hsl hf hsz9 hKN w3
       simp only [x1, x2, x3]
       clear x1 x2 x3
       go_wp2
       go_ret
       exact ⟨rfl, L1.trans hL9⟩
end Go.Proofs.YteocdndanehpnaaGreat
namespace Go.Proofs.YteocdndanehpnaaGreat
open Go.RowKit
set_option linter.unusedSimpArgs false
set_option linter.unusedVariables false
def filtP (p : Nat → Bool) (q r : Nat → Int) (n : Nat) : List (Int × Int) := ((List.range n).filter p).map fun i => (q i, r i)
theorem filtP_yes {p : Nat → Bool} {q r : Nat → Int} {n : Nat} (h : p n = true) : filtP p q r (n + 1) = filtP p q r n ++ [(q n, r n)] := by
 simp [filtP, List.range_succ, List.filter_append, h]
theorem filtP_no {p : Nat → Bool} {q r : Nat → Int} {n : Nat} (h : p n = false) : filtP p q r (n + 1) = filtP p q r n := by
 simp [filtP, List.range_succ, List.filter_append, h]
theorem filtP_len (p : Nat → Bool) (q r : Nat → Int) (n : Nat) : (filtP p q r n).length ≤ n := by
 unfold filtP
 rw [List.length_map]
 exact Nat.le_trans (List.length_filter_le _ _) (by simp)
set_option maxRecDepth 100000 in
set_option maxHeartbeats 4000000 in
theorem filt22_any (p : Nat → Bool) (q r : Nat → Int) (gn gy N : Nat) (hN : N ≤ 100000) (w : World)
  (HO : ∀ i, i < N → ∀ w', Lat w w' → Calls Tryz.prog 32 #[.int .i64 (i : Int), .pointer (some ⟨gn, 0, none⟩)] w' (fun e w'' => e = .returned (.agg #[.int .i64 (q i), .int .i64 (r i)]) ∧ Lat w' w''))
  (HI : ∀ i, i < N → ∀ w', Lat w w' → Calls Tryz.prog 34 #[.agg #[.int .i64 (q i), .int .i64 (r i)], .pointer (some ⟨gy, 0, none⟩)] w' (fun e w'' => e = .returned (.bool (p i)) ∧ Lat w' w'')) :
  Calls Tryz.prog 33 #[.int .i64 (N : Int), .func (.func 32) #[] #[.pointer (some ⟨gn, 0, none⟩)], .func (.func 34) #[] #[.pointer (some ⟨gy, 0, none⟩)]] w
   (fun e w' => ∃ v, e = .returned v ∧ OwnM w' w.heap.size 56 2 v (prs (filtP p q r N)) ∧ Lat w w') := by
 have HO2 := Lib.hid HO
 have HI2 := Lib.hid HI
 clear HO HI
 go_enter Tryz.func33, Tryz.ntmps33
 go_wp2
 go_loopw [7, 11] (fun o it wr => ∃ i : Nat, i ≤ N ∧ it = .int .i64 (i : Nat) ∧ Hid (OwnM wr w.heap.size 56 2 o (prs (filtP p q r i))) ∧ Hid (Lat w wr)) (fun _ it _ => N - (intOf it).toNat)
 case atStart => exact ⟨0, Nat.zero_le _, rfl, OwnM.nil _ _ _ _, Lat.refl _⟩
 case round =>
  obtain ⟨i, hi, rfl, ho, hl⟩ := hrel
  rename_i wr
  by_cases hin : i < N
  ·have hiI : (i : Int) < (N : Int) := by omega
   have h1 := HO2.out i hin wr hl.out
   go_wp2_with fail
   refine h1.mono ?_
   rintro e w1 ⟨rfl, l1⟩
   have ho1 := Lib.hid (ho.out.later l1)
   have hl1 := Lib.hid (hl.out.trans l1)
   clear h1 l1 ho hl
   go_upto_region 6 with (fail)
   refine name1 (Q := fun W => Code.wp _ _ _ _ W) ?_
   intro w2 l2 _ k9
   obtain ⟨g9, hg9⟩ : ∃ z, w1.heap.size = z := ⟨_, rfl⟩
   rw [hg9] at k9 ⊢
   have ho2 := Lib.hid (ho1.out.later l2)
   have hl2 := Lib.hid (hl1.out.trans l2)
   have c0 := k9.cell 0
   have c1 := k9.cell 1
   have h2 := HI2.out i hin w2 hl2.out
   clear hg9 ho1 hl1 l2
   go_wp2_with fail
   refine h2.mono ?_
   rintro e w3 ⟨rfl, l3⟩
   have ho3 := Lib.hid (ho2.out.later l3)
   have hl3 := Lib.hid (hl2.out.trans l3)
   have k9 := k9.later l3
   have HK9 := Lib.hid k9
   have d0 := k9.cell 0
   have d1 := k9.cell 1
   clear c0 c1 h2 ho2 hl2 l3 k9
   cases hp : p i with
   | false =>
     have HP := Lib.hid (filtP_no (p := p) (q := q) (r := r) hp)
     clear hp
     go_wp2
     go_roundw
     case rel => exact ⟨i + 1, by omega, by go_num, by rw [HP.out]; exact ho3, hl3⟩
     case measure => simp [intOf]; omega
   | true =>
     have HP := Lib.hid (filtP_yes (p := p) (q := q) (r := r) hp)
     have hlen : (prs (filtP p q r i)).length ≤ 100000000 := by
      have := filtP_len p q r i
      unfold prs
      rw [List.length_map]
      omega
     have LA := Lat.alloc w3 (.cells #[.int .i64 (q i), .int .i64 (r i)] 56)
     obtain ⟨qi, hq⟩ : ∃ z, q i = z := ⟨_, rfl⟩
     obtain ⟨ri, hr⟩ : ∃ z, r i = z := ⟨_, rfl⟩
     rw [hq, hr] at HP
     rw [hq, hr] at LA d0 d1 ⊢
     clear hp hq hr
     go_wp2_with (refine wpList_pushM rfl _ _ 32 (by rfl) w.heap.size 56 56 (.agg #[.int .i64 0, .int .i64 0]) 2 16 Tryz.underlying32 Px.arrInfo rfl (by decide) (by decide) _ (prs (filtP p q r i)) [.int .i64 qi, .int .i64 ri] (by simp [Value.oneCell']) _ w3.heap.size (by rfl) (ho3.out.later LA) (Blk.new _ _ _) rfl 1 (by rfl) hlen (Nat.le_trans hl3.out.size LA.size) ?_; intro v' w' own' _ hlat; obtain ⟨A', c9, rfl, _⟩ := own'.form; have hl4 := Lib.hid (hlat w (hl3.out.trans LA) (Nat.le_refl _)); clear hlat)
     go_roundw
     case rel =>
      refine ⟨i + 1, by omega, by go_num, ?_, hl4⟩
      show OwnM _ _ _ _ _ _
      rw [HP.out, Px.prs_snoc]
      have e : (prs (filtP p q r i) ++ [[Value.int .i64 qi, Value.int .i64 ri]]).length = (prs (filtP p q r i)).length + 1 := by simp
      rw [e] at own'
      exact own'
     case measure => simp [intOf]; omega
  ·obtain rfl : i = N := by omega
   go_wp2
   go_ret
   exact ⟨_, rfl, ho.out, hl.out⟩
def filtN (p : Nat → Bool) (n : Nat) : List Int := ((List.range n).filter p).map fun i : Nat => (i : Int)
theorem filtN_yes {p : Nat → Bool} {n : Nat} (h : p n = true) : filtN p (n + 1) = filtN p n ++ [(n : Int)] := by
 simp [filtN, List.range_succ, List.filter_append, h]
theorem filtN_no {p : Nat → Bool} {n : Nat} (h : p n = false) : filtN p (n + 1) = filtN p n := by
 simp [filtN, List.range_succ, List.filter_append, h]
theorem filtN_len (p : Nat → Bool) (n : Nat) : (filtN p n).length ≤ n := by
 unfold filtN
 rw [List.length_map]
 exact Nat.le_trans (List.length_filter_le _ _) (by simp)
set_option maxRecDepth 100000 in
set_option maxHeartbeats 4000000 in
theorem filt1_any (p : Nat → Bool) (ga gb N : Nat) (hN : N ≤ 100000) (w : World)
  (HI : ∀ i, i < N → ∀ w', Lat w w' → Calls Tryz.prog 41 #[.int .i64 (i : Int), .pointer (some ⟨ga, 0, none⟩), .pointer (some ⟨gb, 0, none⟩)] w' (fun e w'' => e = .returned (.bool (p i)) ∧ Lat w' w'')) :
  Calls Tryz.prog 39 #[.int .i64 (N : Int), .func (.func 40) #[] #[], .func (.func 41) #[] #[.pointer (some ⟨ga, 0, none⟩), .pointer (some ⟨gb, 0, none⟩)]] w
   (fun e w' => ∃ v, e = .returned v ∧ Own w' w.heap.size 3 .i64 v (filtN p N) ∧ Lat w w') := by
 have HI2 := Lib.hid HI
 clear HI
 go_enter Tryz.func39, Tryz.ntmps39
 go_wp2
 go_loopw [7, 11] (fun o it wr => ∃ i : Nat, i ≤ N ∧ it = .int .i64 (i : Nat) ∧ Hid (Own wr w.heap.size 3 .i64 o (filtN p i)) ∧ Hid (Lat w wr)) (fun _ it _ => N - (intOf it).toNat)
 case atStart => exact ⟨0, Nat.zero_le _, rfl, Own.nil _ _ _ _, Lat.refl _⟩
 case round =>
  obtain ⟨i, hi, rfl, ho, hl⟩ := hrel
  rename_i wr
  by_cases hin : i < N
  ·have hiI : (i : Int) < (N : Int) := by omega
   have h1 := arr1_any (i : Int) wr
   have h2 := HI2.out i hin wr hl.out
   go_wp2_with fail
   refine h1.mono ?_
   rintro e w1 ⟨rfl, rfl⟩
   clear h1
   go_wp2_with fail
   refine h2.mono ?_
   rintro e w3 ⟨rfl, l3⟩
   have ho3 := Lib.hid (ho.out.later l3)
   have hl3 := Lib.hid (hl.out.trans l3)
   clear h2 ho hl l3
   cases hp : p i with
   | false =>
     have HP := Lib.hid (filtN_no (p := p) hp)
     clear hp
     go_wp2
     go_roundw
     case rel => exact ⟨i + 1, by omega, by go_num, by rw [HP.out]; exact ho3, hl3⟩
     case measure => simp [intOf]; omega
   | true =>
     have HP := Lib.hid (filtN_yes (p := p) hp)
     have hlen : (filtN p i).length + 1 ≤ 17000000000000 := by
      have := filtN_len p i
      omega
     clear hp
     go_wp2_with (at_builtin; refine wpList_push rfl _ _ 29 rfl w.heap.size 3 3 .i64 8 Tryz.underlying29 infoI64 (by decide) _ (filtN p i) [(i : Int)] _ rfl w3 (by rfl) ho3.out 1 rfl (by decide) (by rfl) hlen hl3.out.size ?_; intro v' w' own' hlat; have hl4 := Lib.hid (hlat w hl3.out (Nat.le_refl _)); clear hlat)
     go_roundw
     case rel => exact ⟨i + 1, by omega, by go_num, by rw [HP.out]; exact own', hl4⟩
     case measure => simp [intOf]; omega
  ·obtain rfl : i = N := by omega
   go_wp2
   go_ret
   exact ⟨_, rfl, ho.out, hl.out⟩
end Go.Proofs.YteocdndanehpnaaGreat
