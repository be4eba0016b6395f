/- Several texts in one: KnA. -/
import Derived.Test.YtkjnjooggicgiaaE04
import Derived.Test.YtkjnjooggicgiaaE07

/- DivisorKnown. -/
namespace Go.Proofs.Ytkjnjooggicgiaa
open Go.RowKit Go.Shelf
set_option linter.unusedSimpArgs false

theorem arr2 : (Try.prog.info? 23).map (·.size) = some 2 := by kernel_rfl
theorem xs1_bad : ∀ j, j < 5 → ∃ m s : Int, (#[(.int .i64 10 : Value), .int .i64 0, .int .i64 16, .int .i64 0, .int .i64 1, .int .i64 0, .int .i64 11, .int .i64 (-1), .int .i64 15, .int .i64 1001] : Array Value)[j * 2]? = some (.int .i64 m) ∧
    (#[(.int .i64 10 : Value), .int .i64 0, .int .i64 16, .int .i64 0, .int .i64 1, .int .i64 0, .int .i64 11, .int .i64 (-1), .int .i64 15, .int .i64 1001] : Array Value)[j * 2 + 1]? = some (.int .i64 s) ∧ okMS m s = false := by
  intro j hj
  match j, hj with
  | 0, _ => exact ⟨10, 0, rfl, rfl, by decide⟩
  | 1, _ => exact ⟨16, 0, rfl, rfl, by decide⟩
  | 2, _ => exact ⟨1, 0, rfl, rfl, by decide⟩
  | 3, _ => exact ⟨11, -1, rfl, rfl, by decide⟩
  | 4, _ => exact ⟨15, 1001, rfl, rfl, by decide⟩
theorem post_bad {m s : Int} (h : okMS m s = false) : postE m s = 2 := by rw [postE, if_neg (by simp [h])]
theorem rank_bad {m s : Int} (p : Int) (h : okMS m s = false) : rankE m p s = 2 := by rw [rankE, if_neg (by simp [h])]
theorem above_zero (m s q t : Int) : aboveE m 0 s q t = 2 := by
  have : okA m 0 s q t = false := by
    unfold okA
    simp
  rw [aboveE, if_neg (by simp [this])]

theorem lk_r1 : rankE 11 (-1) 0 = 2 := by decide +kernel
theorem lk_r2 : rankE 14 1000000001 0 = 2 := by decide +kernel
theorem lk_r3 : rankX 14 0 0 = shA 0 1 ∧ rankE 14 0 0 = 0 := by constructor <;> kernel_rfl
theorem lk_r4 : rankE 12 0 0 = 7 := by decide +kernel
theorem lk_r5 : rankE 13 0 0 = 7 := by decide +kernel
theorem lk_r6 : rankX 13 1000000000 1000 = shA 1000000000000000000 1001000 ∧ rankE 13 1000000000 1000 = 0 := by constructor <;> kernel_rfl
theorem lk_a1 : aboveV 13 1000000000 1000 999999999 999 = -1 ∧ aboveE 13 1000000000 1000 999999999 999 = 0 := by constructor <;> kernel_rfl
theorem lk_a2 : aboveV 13 0 5 1 5 = 0 ∧ aboveE 13 0 5 1 5 = 2 := by constructor <;> kernel_rfl
theorem lk_a3 : aboveV 13 1 5 1000000001 5 = 0 ∧ aboveE 13 1 5 1000000001 5 = 2 := by constructor <;> kernel_rfl
theorem lk_a4 : aboveV 11 1 0 1000000000 1 = 1 ∧ aboveE 11 1 0 1000000000 1 = 0 := by constructor <;> kernel_rfl
theorem lk_a5 : aboveV 12 7 0 7 0 = 0 ∧ aboveE 12 7 0 7 0 = 0 := by constructor <;> kernel_rfl

set_option maxRecDepth 100000
noncomputable def kn23_rows (Y3 Y6 : List Value) : List SRow := [
  ⟨Op.move (Operand.tmp 10), some 142, none, [], fun v _ => v = .int .i64 2⟩,
  ⟨Op.binOp BinOp.neq 30 (Operand.tmp 142) (Operand.const (Value.int IntKind.i64 2)) 30, some 143, none, [0], fun v _ => v = .bool false⟩,
  ⟨Op.move (Operand.tmp 143), some 144, none, [1], fun v _ => v = .bool false⟩,
  ⟨Op.move (Operand.tmp 12), some 145, some (2, false), [2], fun v _ => v = .int .i64 2⟩,
  ⟨Op.binOp BinOp.neq 30 (Operand.tmp 145) (Operand.const (Value.int IntKind.i64 2)) 30, some 146, some (2, false), [3, 2], fun v _ => v = .bool false⟩,
  ⟨Op.pick (Operand.tmp 144) (Operand.const (Value.bool true)) (Operand.tmp 146), some 147, none, [2, 4], fun v _ => v = .bool false⟩,
  ⟨Op.move (Operand.tmp 147), some 148, none, [5, 2], fun v _ => v = .bool false⟩,
  ⟨Op.move (Operand.tmp 14), some 149, some (6, false), [6], fun v _ => v = .int .i64 0⟩,
  ⟨Op.binOp BinOp.neq 30 (Operand.tmp 149) (Operand.const (Value.int IntKind.i64 0)) 30, some 150, some (6, false), [7, 6], fun v _ => v = .bool false⟩,
  ⟨Op.pick (Operand.tmp 148) (Operand.const (Value.bool true)) (Operand.tmp 150), some 151, none, [6, 8], fun v _ => v = .bool false⟩,
  ⟨Op.move (Operand.tmp 151), some 152, none, [9, 6], fun v _ => v = .bool false⟩,
  ⟨Op.load 29 (Operand.tmp 13), some 153, some (10, false), [10], fun v _ => v = .agg Y3.toArray⟩,
  ⟨Op.call { callee := Callee.value (Operand.func 8), args := #[Operand.const (Value.int IntKind.i64 0), Operand.const (Value.int IntKind.i64 1)], argTypes := #[3, 3] }, some 154, some (10, false), [10, 10], fun v _ => v = .agg Y3.toArray⟩,
  ⟨Op.binOp BinOp.neq 29 (Operand.tmp 153) (Operand.tmp 154) 29, some 155, some (10, false), [11, 12, 10], fun v _ => v = .bool false⟩,
  ⟨Op.pick (Operand.tmp 152) (Operand.const (Value.bool true)) (Operand.tmp 155), some 156, none, [10, 13], fun v _ => v = .bool false⟩,
  ⟨Op.move (Operand.tmp 156), some 157, none, [14, 12], fun v _ => v = .bool false⟩,
  ⟨Op.move (Operand.tmp 16), some 158, some (15, false), [15], fun v _ => v = .int .i64 7⟩,
  ⟨Op.binOp BinOp.neq 30 (Operand.tmp 158) (Operand.const (Value.int IntKind.i64 7)) 30, some 159, some (15, false), [16, 15], fun v _ => v = .bool false⟩,
  ⟨Op.pick (Operand.tmp 157) (Operand.const (Value.bool true)) (Operand.tmp 159), some 160, none, [15, 17], fun v _ => v = .bool false⟩,
  ⟨Op.move (Operand.tmp 160), some 161, none, [18, 15], fun v _ => v = .bool false⟩,
  ⟨Op.move (Operand.tmp 18), some 162, some (19, false), [19], fun v _ => v = .int .i64 7⟩,
  ⟨Op.binOp BinOp.neq 30 (Operand.tmp 162) (Operand.const (Value.int IntKind.i64 7)) 30, some 163, some (19, false), [20, 19], fun v _ => v = .bool false⟩,
  ⟨Op.pick (Operand.tmp 161) (Operand.const (Value.bool true)) (Operand.tmp 163), some 164, none, [19, 21], fun v _ => v = .bool false⟩,
  ⟨Op.move (Operand.tmp 164), some 165, none, [22, 19], fun v _ => v = .bool false⟩,
  ⟨Op.move (Operand.tmp 20), some 166, some (23, false), [23], fun v _ => v = .int .i64 0⟩,
  ⟨Op.binOp BinOp.neq 30 (Operand.tmp 166) (Operand.const (Value.int IntKind.i64 0)) 30, some 167, some (23, false), [24, 23], fun v _ => v = .bool false⟩,
  ⟨Op.pick (Operand.tmp 165) (Operand.const (Value.bool true)) (Operand.tmp 167), some 168, none, [23, 25], fun v _ => v = .bool false⟩,
  ⟨Op.move (Operand.tmp 168), some 169, none, [26, 23], fun v _ => v = .bool false⟩,
  ⟨Op.load 29 (Operand.tmp 19), some 170, some (27, false), [27], fun v _ => v = .agg Y6.toArray⟩,
  ⟨Op.call { callee := Callee.value (Operand.func 8), args := #[Operand.const (Value.int IntKind.i64 1000000000000000000), Operand.const (Value.int IntKind.i64 1001000)], argTypes := #[3, 3] }, some 171, some (27, false), [27, 27], fun v _ => v = .agg Y6.toArray⟩,
  ⟨Op.binOp BinOp.neq 29 (Operand.tmp 170) (Operand.tmp 171) 29, some 172, some (27, false), [28, 29, 27], fun v _ => v = .bool false⟩,
  ⟨Op.pick (Operand.tmp 169) (Operand.const (Value.bool true)) (Operand.tmp 172), some 173, none, [27, 30], fun v _ => v = .bool false⟩,
  ⟨Op.move (Operand.tmp 173), some 174, none, [31, 29], fun v _ => v = .bool false⟩,
  ⟨Op.move (Operand.tmp 22), some 175, some (32, false), [32], fun v _ => v = .int .i64 0⟩,
  ⟨Op.binOp BinOp.neq 30 (Operand.tmp 175) (Operand.const (Value.int IntKind.i64 0)) 30, some 176, some (32, false), [33, 32], fun v _ => v = .bool false⟩,
  ⟨Op.pick (Operand.tmp 174) (Operand.const (Value.bool true)) (Operand.tmp 176), some 177, none, [32, 34], fun v _ => v = .bool false⟩,
  ⟨Op.move (Operand.tmp 177), some 178, none, [35, 32], fun v _ => v = .bool false⟩,
  ⟨Op.move (Operand.tmp 21), some 179, some (36, false), [36], fun v _ => v = .int .i64 (-1)⟩,
  ⟨Op.binOp BinOp.neq 3 (Operand.tmp 179) (Operand.const (Value.int IntKind.i64 (-1))) 3, some 180, some (36, false), [37, 36], fun v _ => v = .bool false⟩,
  ⟨Op.pick (Operand.tmp 178) (Operand.const (Value.bool true)) (Operand.tmp 180), some 181, none, [36, 38], fun v _ => v = .bool false⟩,
  ⟨Op.move (Operand.tmp 181), some 182, none, [39, 36], fun v _ => v = .bool false⟩,
  ⟨Op.move (Operand.tmp 24), some 183, some (40, false), [40], fun v _ => v = .int .i64 2⟩,
  ⟨Op.binOp BinOp.neq 30 (Operand.tmp 183) (Operand.const (Value.int IntKind.i64 2)) 30, some 184, some (40, false), [41, 40], fun v _ => v = .bool false⟩,
  ⟨Op.pick (Operand.tmp 182) (Operand.const (Value.bool true)) (Operand.tmp 184), some 185, none, [40, 42], fun v _ => v = .bool false⟩,
  ⟨Op.move (Operand.tmp 185), some 186, none, [43, 40], fun v _ => v = .bool false⟩,
  ⟨Op.move (Operand.tmp 26), some 187, some (44, false), [44], fun v _ => v = .int .i64 2⟩,
  ⟨Op.binOp BinOp.neq 30 (Operand.tmp 187) (Operand.const (Value.int IntKind.i64 2)) 30, some 188, some (44, false), [45, 44], fun v _ => v = .bool false⟩,
  ⟨Op.pick (Operand.tmp 186) (Operand.const (Value.bool true)) (Operand.tmp 188), some 189, none, [44, 46], fun v _ => v = .bool false⟩,
  ⟨Op.move (Operand.tmp 189), some 190, none, [47, 44], fun v _ => v = .bool false⟩,
  ⟨Op.move (Operand.tmp 28), some 191, some (48, false), [48], fun v _ => v = .int .i64 0⟩,
  ⟨Op.binOp BinOp.neq 30 (Operand.tmp 191) (Operand.const (Value.int IntKind.i64 0)) 30, some 192, some (48, false), [49, 48], fun v _ => v = .bool false⟩,
  ⟨Op.pick (Operand.tmp 190) (Operand.const (Value.bool true)) (Operand.tmp 192), some 193, none, [48, 50], fun v _ => v = .bool false⟩,
  ⟨Op.move (Operand.tmp 193), some 194, none, [51, 48], fun v _ => v = .bool false⟩,
  ⟨Op.move (Operand.tmp 27), some 195, some (52, false), [52], fun v _ => v = .int .i64 1⟩,
  ⟨Op.binOp BinOp.neq 3 (Operand.tmp 195) (Operand.const (Value.int IntKind.i64 1)) 3, some 196, some (52, false), [53, 52], fun v _ => v = .bool false⟩,
  ⟨Op.pick (Operand.tmp 194) (Operand.const (Value.bool true)) (Operand.tmp 196), some 197, none, [52, 54], fun v _ => v = .bool false⟩,
  ⟨Op.move (Operand.tmp 197), some 198, none, [55, 52], fun v _ => v = .bool false⟩,
  ⟨Op.move (Operand.tmp 30), some 199, some (56, false), [56], fun v _ => v = .int .i64 0⟩,
  ⟨Op.binOp BinOp.neq 30 (Operand.tmp 199) (Operand.const (Value.int IntKind.i64 0)) 30, some 200, some (56, false), [57, 56], fun v _ => v = .bool false⟩,
  ⟨Op.pick (Operand.tmp 198) (Operand.const (Value.bool true)) (Operand.tmp 200), some 201, none, [56, 58], fun v _ => v = .bool false⟩,
  ⟨Op.move (Operand.tmp 201), some 202, none, [59, 56], fun v _ => v = .bool false⟩,
  ⟨Op.move (Operand.tmp 29), some 203, some (60, false), [60], fun v _ => v = .int .i64 0⟩,
  ⟨Op.binOp BinOp.neq 3 (Operand.tmp 203) (Operand.const (Value.int IntKind.i64 0)) 3, some 204, some (60, false), [61, 60], fun v _ => v = .bool false⟩,
  ⟨Op.pick (Operand.tmp 202) (Operand.const (Value.bool true)) (Operand.tmp 204), some 205, none, [60, 62], fun v _ => v = .bool false⟩]
noncomputable def kn23_base (b13 b19 : Nat) : List (Nat × Value) := [(10, .int .i64 2), (12, .int .i64 2), (14, .int .i64 0), (13, .pointer (some ⟨b13, 0, none⟩)), (16, .int .i64 7), (18, .int .i64 7), (20, .int .i64 0), (19, .pointer (some ⟨b19, 0, none⟩)), (22, .int .i64 0), (21, .int .i64 (-1)), (24, .int .i64 2), (26, .int .i64 2), (28, .int .i64 0), (27, .int .i64 1), (30, .int .i64 0), (29, .int .i64 0)]
theorem S_neq3 {a : Act} {x : Operand} {m n : Int} {b : Bool} (hx : a.eval x = .int .i64 m) (o : Oper) (w : World) (ho : o.op = .binOp .neq 3 x (.const (.int .i64 n)) 3) (hk : (m != n) = b) : (execOp a.eval o).run Try.prog w = .ok (.value (.bool b)) w := by
  obtain ⟨d, op, ty, p, af, g⟩ := o
  simp only at ho
  subst ho
  subst hk
  unfold execOp
  simp only [hx, eval_const]
  go_simp
theorem S_neq30 {a : Act} {x : Operand} {m n : Int} {b : Bool} (hx : a.eval x = .int .i64 m) (o : Oper) (w : World) (ho : o.op = .binOp .neq 30 x (.const (.int .i64 n)) 30) (hk : (m != n) = b) : (execOp a.eval o).run Try.prog w = .ok (.value (.bool b)) w := by
  obtain ⟨d, op, ty, p, af, g⟩ := o
  simp only at ho
  subst ho
  subst hk
  unfold execOp
  simp only [hx, eval_const]
  go_simp
theorem spell306 (T : Array Value) (h : T.size = 306) : ∃ f : Nat → Value, (∀ k, f k = T.getD k undef) ∧ T = #[f 0, f 1, f 2, f 3, f 4, f 5, f 6, f 7, f 8, f 9, f 10, f 11, f 12, f 13, f 14, f 15, f 16, f 17, f 18, f 19, f 20, f 21, f 22, f 23, f 24, f 25, f 26, f 27, f 28, f 29, f 30, f 31, f 32, f 33, f 34, f 35, f 36, f 37, f 38, f 39, f 40, f 41, f 42, f 43, f 44, f 45, f 46, f 47, f 48, f 49, f 50, f 51, f 52, f 53, f 54, f 55, f 56, f 57, f 58, f 59, f 60, f 61, f 62, f 63, f 64, f 65, f 66, f 67, f 68, f 69, f 70, f 71, f 72, f 73, f 74, f 75, f 76, f 77, f 78, f 79, f 80, f 81, f 82, f 83, f 84, f 85, f 86, f 87, f 88, f 89, f 90, f 91, f 92, f 93, f 94, f 95, f 96, f 97, f 98, f 99, f 100, f 101, f 102, f 103, f 104, f 105, f 106, f 107, f 108, f 109, f 110, f 111, f 112, f 113, f 114, f 115, f 116, f 117, f 118, f 119, f 120, f 121, f 122, f 123, f 124, f 125, f 126, f 127, f 128, f 129, f 130, f 131, f 132, f 133, f 134, f 135, f 136, f 137, f 138, f 139, f 140, f 141, f 142, f 143, f 144, f 145, f 146, f 147, f 148, f 149, f 150, f 151, f 152, f 153, f 154, f 155, f 156, f 157, f 158, f 159, f 160, f 161, f 162, f 163, f 164, f 165, f 166, f 167, f 168, f 169, f 170, f 171, f 172, f 173, f 174, f 175, f 176, f 177, f 178, f 179, f 180, f 181, f 182, f 183, f 184, f 185, f 186, f 187, f 188, f 189, f 190, f 191, f 192, f 193, f 194, f 195, f 196, f 197, f 198, f 199, f 200, f 201, f 202, f 203, f 204, f 205, f 206, f 207, f 208, f 209, f 210, f 211, f 212, f 213, f 214, f 215, f 216, f 217, f 218, f 219, f 220, f 221, f 222, f 223, f 224, f 225, f 226, f 227, f 228, f 229, f 230, f 231, f 232, f 233, f 234, f 235, f 236, f 237, f 238, f 239, f 240, f 241, f 242, f 243, f 244, f 245, f 246, f 247, f 248, f 249, f 250, f 251, f 252, f 253, f 254, f 255, f 256, f 257, f 258, f 259, f 260, f 261, f 262, f 263, f 264, f 265, f 266, f 267, f 268, f 269, f 270, f 271, f 272, f 273, f 274, f 275, f 276, f 277, f 278, f 279, f 280, f 281, f 282, f 283, f 284, f 285, f 286, f 287, f 288, f 289, f 290, f 291, f 292, f 293, f 294, f 295, f 296, f 297, f 298, f 299, f 300, f 301, f 302, f 303, f 304, f 305] := ⟨fun k => T.getD k undef, fun _ => rfl, (spell 306 T h).trans (by kernel_rfl)⟩
theorem lk_g1 : giveE [0, 1] 2 11 [1, 0] = 0 ∧ sameB (giveF [0, 1] 2 11 [1, 0]).seats (ints (giveF [0, 1] 2 11 [1, 0]).tied) (giveF [0, 1] 2 11 [1, 0]).left [1, 1] [] 0 = true ∧ (giveF [0, 1] 2 11 [1, 0]).seats.length ≤ 100 ∧ (giveF [0, 1] 2 11 [1, 0]).tied.length ≤ 100 ∧ 2 ≤ 100 ∧ 2 ≤ 100 ∧ 2 ≤ 100 ∧ 0 ≤ 100 := by decide +kernel
theorem lk_g2 : giveE [0, 1] 1000 12 [] = 0 ∧ sameB (giveF [0, 1] 1000 12 []).seats (ints (giveF [0, 1] 1000 12 []).tied) (giveF [0, 1] 1000 12 []).left [0, 1000] [] 0 = true ∧ (giveF [0, 1] 1000 12 []).seats.length ≤ 100 ∧ (giveF [0, 1] 1000 12 []).tied.length ≤ 100 ∧ 2 ≤ 100 ∧ 0 ≤ 100 ∧ 2 ≤ 100 ∧ 0 ≤ 100 := by decide +kernel
theorem lk_g3 : giveE [5, 5, 1] 1 13 [] = 0 ∧ sameB (giveF [5, 5, 1] 1 13 []).seats (ints (giveF [5, 5, 1] 1 13 []).tied) (giveF [5, 5, 1] 1 13 []).left [0, 0, 0] [0, 1] 1 = true ∧ (giveF [5, 5, 1] 1 13 []).seats.length ≤ 100 ∧ (giveF [5, 5, 1] 1 13 []).tied.length ≤ 100 ∧ 3 ≤ 100 ∧ 0 ≤ 100 ∧ 3 ≤ 100 ∧ 2 ≤ 100 := by decide +kernel
theorem lk_g4 : giveE [1, 1, 1, 1] 6 15 [] = 0 ∧ sameB (giveF [1, 1, 1, 1] 6 15 []).seats (ints (giveF [1, 1, 1, 1] 6 15 []).tied) (giveF [1, 1, 1, 1] 6 15 []).left [1, 1, 1, 1] [0, 1, 2, 3] 2 = true ∧ (giveF [1, 1, 1, 1] 6 15 []).seats.length ≤ 100 ∧ (giveF [1, 1, 1, 1] 6 15 []).tied.length ≤ 100 ∧ 4 ≤ 100 ∧ 0 ≤ 100 ∧ 4 ≤ 100 ∧ 4 ≤ 100 := by decide +kernel
theorem lk_e1 : giveE [0] 0 0 [] = 60 := by decide +kernel
theorem lk_e2 : giveE [] 0 0 [] = 60 := by decide +kernel
theorem name5 {w : World} {t1 t2 t3 t4 t5 : TypeId} {c1 c2 c3 c4 c5 : Array Value} {Q : World → Prop}
    (h : ∀ W, Lat w W → w.heap.size + 4 < W.heap.size → Blk W w.heap.size t1 c1 → Blk W (w.heap.size + 1) t2 c2 → Blk W (w.heap.size + 1 + 1) t3 c3 → Blk W (w.heap.size + 1 + 1 + 1) t4 c4 → Blk W (w.heap.size + 1 + 1 + 1 + 1) t5 c5 → Q W) :
    Q (((((w.alloc (.cells c1 t1)).alloc (.cells c2 t2)).alloc (.cells c3 t3)).alloc (.cells c4 t4)).alloc (.cells c5 t5)) :=
  h _ (((((Lat.alloc _ _).trans (Lat.alloc _ _)).trans (Lat.alloc _ _)).trans (Lat.alloc _ _)).trans (Lat.alloc _ _)) (by simp) (((((Blk.new _ _ _).alloc _).alloc _).alloc _).alloc _)
    (by have := (((Blk.new (w.alloc (.cells c1 t1)) t2 c2).alloc (.cells c3 t3)).alloc (.cells c4 t4)).alloc (.cells c5 t5); simpa using this)
    (by have := ((Blk.new ((w.alloc (.cells c1 t1)).alloc (.cells c2 t2)) t3 c3).alloc (.cells c4 t4)).alloc (.cells c5 t5); simpa using this)
    (by have := (Blk.new (((w.alloc (.cells c1 t1)).alloc (.cells c2 t2)).alloc (.cells c3 t3)) t4 c4).alloc (.cells c5 t5); simpa using this)
    (by have := Blk.new ((((w.alloc (.cells c1 t1)).alloc (.cells c2 t2)).alloc (.cells c3 t3)).alloc (.cells c4 t4)) t5 c5; simpa using this)
theorem row2 {w : World} {g : Nat} {t : TypeId} {cs : Array Value} {o : Nat} {x y : Value} (h : Blk w g t cs) (h0 : cs[o]? = some x) (h1 : cs[o + 1]? = some y) : w.rangeAt g o [x, y] := by
  intro q v hq
  match q, hq with
  | 0, hq => cases hq; rw [h.cell]; exact h0
  | 1, hq => cases hq; rw [h.cell]; exact h1
theorem xs2_bad : ∀ j, j < 5 → ∃ s m : Int, (#[(.int .i64 0 : Value), .int .i64 11, .int .i64 1001, .int .i64 11, .int .i64 1, .int .i64 10, .int .i64 1, .int .i64 16, .int .i64 1, .int .i64 1] : Array Value)[j * 2]? = some (.int .i64 s) ∧
    (#[(.int .i64 0 : Value), .int .i64 11, .int .i64 1001, .int .i64 11, .int .i64 1, .int .i64 10, .int .i64 1, .int .i64 16, .int .i64 1, .int .i64 1] : Array Value)[j * 2 + 1]? = some (.int .i64 m) ∧ giveE [0, 1] s m [-1] = 2 := by
  intro j hj
  match j, hj with
  | 0, _ => exact ⟨0, 11, rfl, rfl, by decide +kernel⟩
  | 1, _ => exact ⟨1001, 11, rfl, rfl, by decide +kernel⟩
  | 2, _ => exact ⟨1, 10, rfl, rfl, by decide +kernel⟩
  | 3, _ => exact ⟨1, 16, rfl, rfl, by decide +kernel⟩
  | 4, _ => exact ⟨1, 1, rfl, rfl, by decide +kernel⟩
end Go.Proofs.Ytkjnjooggicgiaa
