/- Several texts in one: WkA, WkB, WkC. -/
import Derived.Test.YtbgngmamnonlbaaGreatH38
import Derived.Test.YtbgngmamnonlbaaGreatH45
import Derived.Test.YtbgngmamnonlbaaGreatH43
import Derived.WideMake
import Derived.MapKept
import Derived.Test.YtbgngmamnonlbaaGreatH48
import Derived.Test.YtbgngmamnonlbaaGreatH47
import Derived.Test.YtbgngmamnonlbaaGreatH36
namespace Go.Proofs.YtbgngmamnonlbaaGreat
open Go.RowKit
set_option linter.unusedSimpArgs false
set_option linter.unusedVariables false
def mE (k : Int) (X : Array Value) (b : Nat) : MapEntry := { key := .int .i64 k, val := .agg X, born := b }
theorem run_ins6 {w : World} {r clock : Nat} {es : Array MapEntry} (k : Int) (val : Value) (hb : w.heap[r]? = some (.map es clock)) (hf : Instr.findNow (.int .i64) (.int .i64 k) es.toList 0 = some none) :
  (Instr.mapUpdate 73 (.map (some r)) (.int .i64 k) val).run Tryz.prog w = .ok () (w.putObj r (.map (es.push { key := .int .i64 k, val := val, born := clock }) (clock + 1))) := by
 have hk := Tryz.underlying3
 have hc : (Instr.checkKey false 10000 3 (.int .i64 k)).run Tryz.prog w = .ok () w := MapKept.run_checkKey (k := .int .i64 k) hk (by simp [MapKept.IsKey]) false 9999
 simp [Instr.mapUpdate, run_underlying Tryz.underlying73, MapKept.run_getObj_map hb, hc, MapKept.run_findKey hk hf, MapKept.run_setObj_map _ hb, Result.andThen, World.putObj]
def MapAt (w : World) (r : Nat) (es : Array MapEntry) (cl : Nat) : Prop := w.heap[r]? = some (.map es cl)
theorem MapAt.later {w w' : World} {r : Nat} {es : Array MapEntry} {cl : Nat} (h : MapAt w r es cl) (hl : Lat w w') : MapAt w' r es cl := (Below.block hl _ (hlt_of h)).trans h
theorem MapAt.ins {w0 w : World} {r cl : Nat} {es : Array MapEntry} (h : MapAt w r es cl) (hl : Lat w0 w) (hr : w0.heap.size ≤ r) (k : Int) (X : Array Value) (hf : Instr.findNow (.int .i64) (.int .i64 k) es.toList 0 = some none) :
  ∃ w', (Instr.mapUpdate 73 (.map (some r)) (.int .i64 k) (.agg X)).run Tryz.prog w = .ok () w' ∧ MapAt w' r (es.push (mE k X cl)) (cl + 1) ∧ Lat w0 w' ∧ LatP (· = r) w w' := by
 have hp := lat_putObj (w := w) (o := .map (es.push (mE k X cl)) (cl + 1)) (hlt_of h)
 exact ⟨_, run_ins6 k (.agg X) h hf, putObj_at (hlt_of h), LatP.lat (M := (· = r)) hl hp (fun q e => by subst e; exact hr), hp⟩
def quoEs (X1 X2 X3 X4 : Array Value) : Array MapEntry := #[mE 1 X1 0, mE 2 X2 1, mE 3 X3 2, mE 4 X4 3]
theorem quoEs_mem {X1 X2 X3 X4 : Array Value} {e : MapEntry} (h : e ∈ (quoEs X1 X2 X3 X4).toList) : e = mE 1 X1 0 ∨ e = mE 2 X2 1 ∨ e = mE 3 X3 2 ∨ e = mE 4 X4 3 := by
 unfold quoEs at h
 simpa using h
theorem quo10 : quoN 1 10 4 = 10 ∧ quoD 1 4 = 4 ∧ quoN 2 10 4 = 3 ∧ quoD 2 4 = 1 ∧ quoN 3 10 4 = 10 ∧ quoD 3 4 = 5 ∧ quoN 4 10 4 = 10 ∧ quoD 4 4 = 6 := by decide
theorem shA_10 : shA 10 4 = shA 5 2 ∧ shA 10 5 = shA 2 1 ∧ shA 10 6 = shA 5 3 := by
 have h : ∀ a b c d : Int, lowN a b = lowN c d → lowD a b = lowD c d → shA a b = shA c d := fun a b c d h1 h2 => by unfold shA; rw [h1, h2]
 exact ⟨h _ _ _ _ (by decide) (by decide), h _ _ _ _ (by decide) (by decide), h _ _ _ _ (by decide) (by decide)⟩
theorem quo_entry {e : MapEntry} (he : e ∈ (quoEs (shA 5 2) (shA 3 1) (shA 2 1) (shA 5 3)).toList) : ∃ (k : Int) (X : Array Value), e.key = .int .i64 k ∧ e.val = .agg X ∧ 1 ≤ k ∧ k ≤ 4 ∧ shA (quoN k 10 4) (quoD k 4) = X ∧ GoodX X := by
 obtain ⟨a1, a2, a3, a4, a5, a6, a7, a8⟩ := quo10
 rcases quoEs_mem he with rfl | rfl | rfl | rfl
 ·exact ⟨1, _, rfl, rfl, by decide, by decide, by rw [a1, a2, shA_10.1], shA_good _ _⟩
 ·exact ⟨2, _, rfl, rfl, by decide, by decide, by rw [a3, a4], shA_good _ _⟩
 ·exact ⟨3, _, rfl, rfl, by decide, by decide, by rw [a5, a6, shA_10.2.1], shA_good _ _⟩
 ·exact ⟨4, _, rfl, rfl, by decide, by decide, by rw [a7, a8, shA_10.2.2], shA_good _ _⟩
end Go.Proofs.YtbgngmamnonlbaaGreat
namespace Go.Proofs.YtbgngmamnonlbaaGreat
open Go.RowKit
set_option linter.unusedSimpArgs false
set_option linter.unusedVariables false
set_option maxRecDepth 100000
theorem rowB_two {w : World} {g m : Nat} {E : TypeId} {X Y : List Value} (hX : X.length = m) (hY : Y.length = m) (h1 : ∀ v ∈ X, v.oneCell' = true) (h2 : ∀ v ∈ Y, v.oneCell' = true) (h : Blk w g E (X ++ Y).toArray) : RowB w g E m [X, Y] := by
 refine ⟨fun x hx => ?_, _, h, ?_, fun i x hi j v hj => ?_⟩
 ·simp only [List.mem_cons, List.not_mem_nil, or_false] at hx
  rcases hx with rfl | rfl
  ·exact ⟨hX, h1⟩
  ·exact ⟨hY, h2⟩
 ·simp; omega
 ·match i, hi with
  | 0, hi =>
    obtain rfl := Option.some.inj hi
    have hj2 := (List.getElem?_eq_some_iff.1 hj).1
    rw [Nat.zero_mul, Nat.zero_add, List.getElem?_toArray, List.getElem?_append_left hj2]
    exact hj
  | 1, hi =>
    obtain rfl := Option.some.inj hi
    rw [List.getElem?_toArray, List.getElem?_append_right (by omega), show 1 * m + j - X.length = j by omega]
    exact hj
  | k + 2, hi => simp at hi
theorem w8_one (u v : W8) : ∀ x ∈ ([.int .u64 u.a0, .int .u64 u.a1, .int .u64 u.a2, .int .u64 u.a3, .int .u64 u.a4, .int .u64 u.a5, .int .u64 u.a6, .int .u64 u.a7, .int .u64 v.a0, .int .u64 v.a1, .int .u64 v.a2, .int .u64 v.a3, .int .u64 v.a4, .int .u64 v.a5, .int .u64 v.a6, .int .u64 v.a7] : List Value), x.oneCell' = true := by
 intro x hx
 simp only [List.mem_cons, List.not_mem_nil, or_false] at hx
 rcases hx with rfl | rfl | rfl | rfl | rfl | rfl | rfl | rfl | rfl | rfl | rfl | rfl | rfl | rfl | rfl | rfl <;> rfl
theorem row_lit2 {w : World} {g : Nat} {ya yb yc yd : W8} (h : Blk w g 42 #[.int .u64 ya.a0, .int .u64 ya.a1, .int .u64 ya.a2, .int .u64 ya.a3, .int .u64 ya.a4, .int .u64 ya.a5, .int .u64 ya.a6, .int .u64 ya.a7, .int .u64 yb.a0, .int .u64 yb.a1, .int .u64 yb.a2, .int .u64 yb.a3, .int .u64 yb.a4, .int .u64 yb.a5, .int .u64 yb.a6, .int .u64 yb.a7, .int .u64 yc.a0, .int .u64 yc.a1, .int .u64 yc.a2, .int .u64 yc.a3, .int .u64 yc.a4, .int .u64 yc.a5, .int .u64 yc.a6, .int .u64 yc.a7, .int .u64 yd.a0, .int .u64 yd.a1, .int .u64 yd.a2, .int .u64 yd.a3, .int .u64 yd.a4, .int .u64 yd.a5, .int .u64 yd.a6, .int .u64 yd.a7]) : RowB w g 42 16 [[.int .u64 ya.a0, .int .u64 ya.a1, .int .u64 ya.a2, .int .u64 ya.a3, .int .u64 ya.a4, .int .u64 ya.a5, .int .u64 ya.a6, .int .u64 ya.a7, .int .u64 yb.a0, .int .u64 yb.a1, .int .u64 yb.a2, .int .u64 yb.a3, .int .u64 yb.a4, .int .u64 yb.a5, .int .u64 yb.a6, .int .u64 yb.a7], [.int .u64 yc.a0, .int .u64 yc.a1, .int .u64 yc.a2, .int .u64 yc.a3, .int .u64 yc.a4, .int .u64 yc.a5, .int .u64 yc.a6, .int .u64 yc.a7, .int .u64 yd.a0, .int .u64 yd.a1, .int .u64 yd.a2, .int .u64 yd.a3, .int .u64 yd.a4, .int .u64 yd.a5, .int .u64 yd.a6, .int .u64 yd.a7]] :=
 rowB_two rfl rfl (w8_one _ _) (w8_one _ _) h
theorem S_eql3 {a : Act} {x : Operand} {m n : Int} {b : Bool} (hx : a.eval x = .int .i64 m) (o : Oper) (w : World) (ho : o.op = .binOp .eql 3 x (.const (.int .i64 n)) 3) (hk : (m == n) = b) : (execOp a.eval o).run Tryz.prog w = .ok (.value (.bool b)) w := by
 obtain ⟨d, op, ty, p, af, g⟩ := o
 simp only at ho
 subst ho
 subst hk
 unfold execOp
 simp only [hx, eval_const]
 go_simp
theorem S_eql31 {a : Act} {x : Operand} {m n : Int} {b : Bool} (hx : a.eval x = .int .i64 m) (o : Oper) (w : World) (ho : o.op = .binOp .eql 31 x (.const (.int .i64 n)) 31) (hk : (m == n) = b) : (execOp a.eval o).run Tryz.prog w = .ok (.value (.bool b)) w := by
 obtain ⟨d, op, ty, p, af, g⟩ := o
 simp only at ho
 subst ho
 subst hk
 unfold execOp
 simp only [hx, eval_const]
 go_simp
theorem spell124 (T : Array Value) (h : T.size = 124) : ∃ f : Nat → Value, (∀ k, f k = T.getD k undef) ∧ T = #[f 0, f 1, f 2, f 3, f 4, f 5, f 6, f 7, f 8, f 9, f 10, f 11, f 12, f 13, f 14, f 15, f 16, f 17, f 18, f 19, f 20, f 21, f 22, f 23, f 24, f 25, f 26, f 27, f 28, f 29, f 30, f 31, f 32, f 33, f 34, f 35, f 36, f 37, f 38, f 39, f 40, f 41, f 42, f 43, f 44, f 45, f 46, f 47, f 48, f 49, f 50, f 51, f 52, f 53, f 54, f 55, f 56, f 57, f 58, f 59, f 60, f 61, f 62, f 63, f 64, f 65, f 66, f 67, f 68, f 69, f 70, f 71, f 72, f 73, f 74, f 75, f 76, f 77, f 78, f 79, f 80, f 81, f 82, f 83, f 84, f 85, f 86, f 87, f 88, f 89, f 90, f 91, f 92, f 93, f 94, f 95, f 96, f 97, f 98, f 99, f 100, f 101, f 102, f 103, f 104, f 105, f 106, f 107, f 108, f 109, f 110, f 111, f 112, f 113, f 114, f 115, f 116, f 117, f 118, f 119, f 120, f 121, f 122, f 123] := ⟨fun k => T.getD k undef, fun _ => rfl, (spell 124 T h).trans (by kernel_rfl)⟩
noncomputable def wk6_rows (g1 g6 g10 c10 : Nat) (ya yb yc yd : W8) : List SRow := [
 ⟨Op.move (Operand.tmp 6), some 63, none, [], fun v _ => v = .slice (some ⟨g6, 0, none⟩) 2 2⟩,
 ⟨Op.call { callee := Callee.value (Operand.func 36), args := #[Operand.const (Value.int IntKind.i64 14), Operand.const (Value.int IntKind.i64 5)], argTypes := #[3, 3] }, some 64, none, [], fun v _ => v = .agg #[.int .u64 ya.a0, .int .u64 ya.a1, .int .u64 ya.a2, .int .u64 ya.a3, .int .u64 ya.a4, .int .u64 ya.a5, .int .u64 ya.a6, .int .u64 ya.a7, .int .u64 yb.a0, .int .u64 yb.a1, .int .u64 yb.a2, .int .u64 yb.a3, .int .u64 yb.a4, .int .u64 yb.a5, .int .u64 yb.a6, .int .u64 yb.a7]⟩,
 ⟨Op.call { callee := Callee.value (Operand.func 36), args := #[Operand.const (Value.int IntKind.i64 6), Operand.const (Value.int IntKind.i64 5)], argTypes := #[3, 3] }, some 65, none, [1], fun v _ => v = .agg #[.int .u64 yc.a0, .int .u64 yc.a1, .int .u64 yc.a2, .int .u64 yc.a3, .int .u64 yc.a4, .int .u64 yc.a5, .int .u64 yc.a6, .int .u64 yc.a7, .int .u64 yd.a0, .int .u64 yd.a1, .int .u64 yd.a2, .int .u64 yd.a3, .int .u64 yd.a4, .int .u64 yd.a5, .int .u64 yd.a6, .int .u64 yd.a7]⟩,
 ⟨Op.buildSlice 45 2 #[(0, Operand.tmp 64), (1, Operand.tmp 65)], some 66, none, [1, 2], fun v w => ∃ g : Nat, v = .slice (some ⟨g, 0, none⟩) 2 2 ∧ RowB w g 42 16 [[.int .u64 ya.a0, .int .u64 ya.a1, .int .u64 ya.a2, .int .u64 ya.a3, .int .u64 ya.a4, .int .u64 ya.a5, .int .u64 ya.a6, .int .u64 ya.a7, .int .u64 yb.a0, .int .u64 yb.a1, .int .u64 yb.a2, .int .u64 yb.a3, .int .u64 yb.a4, .int .u64 yb.a5, .int .u64 yb.a6, .int .u64 yb.a7], [.int .u64 yc.a0, .int .u64 yc.a1, .int .u64 yc.a2, .int .u64 yc.a3, .int .u64 yc.a4, .int .u64 yc.a5, .int .u64 yc.a6, .int .u64 yc.a7, .int .u64 yd.a0, .int .u64 yd.a1, .int .u64 yd.a2, .int .u64 yd.a3, .int .u64 yd.a4, .int .u64 yd.a5, .int .u64 yd.a6, .int .u64 yd.a7]]⟩,
 ⟨Op.call { callee := Callee.value (Operand.func 22), args := #[Operand.tmp 63, Operand.tmp 66], argTypes := #[45, 45] }, some 67, none, [0, 3, 2], fun v _ => v = .bool true⟩,
 ⟨Op.move (Operand.tmp 67), some 68, none, [4, 4], fun v _ => v = .bool true⟩,
 ⟨Op.move (Operand.tmp 7), some 69, some (5, true), [5], fun v _ => v = .int .i64 0⟩,
 ⟨Op.binOp BinOp.eql 31 (Operand.tmp 69) (Operand.const (Value.int IntKind.i64 0)) 31, some 70, some (5, true), [6, 5], fun v _ => v = .bool true⟩,
 ⟨Op.pick (Operand.tmp 68) (Operand.tmp 70) (Operand.const (Value.bool false)), some 71, none, [5, 7], fun v _ => v = .bool true⟩,
 ⟨Op.move (Operand.tmp 71), some 72, none, [8, 5], fun v _ => v = .bool true⟩,
 ⟨Op.move (Operand.tmp 1), some 73, some (9, true), [9], fun v _ => v = .slice (some ⟨g1, 0, none⟩) 2 2⟩,
 ⟨Op.buildSlice 27 2 #[(0, Operand.const (Value.int IntKind.i64 3)), (1, Operand.const (Value.int IntKind.i64 1))], some 74, some (9, true), [9], fun v w => ∃ g : Nat, v = .slice (some ⟨g, 0, none⟩) 2 2 ∧ Blk w g 3 #[.int .i64 3, .int .i64 1]⟩,
 ⟨Op.build 54 #[(0, Operand.tmp 74)], some 75, some (9, true), [11, 9], fun v w => ∃ g : Nat, v = .agg #[.slice (some ⟨g, 0, none⟩) 2 2, .slice none 0 0, .int .i64 0] ∧ Blk w g 3 #[.int .i64 3, .int .i64 1]⟩,
 ⟨Op.call { callee := Callee.value (Operand.func 33), args := #[Operand.tmp 73, Operand.const (Value.int IntKind.i64 4), Operand.const (Value.int IntKind.i64 1), Operand.const (Value.slice none 0 0), Operand.tmp 75], argTypes := #[27, 3, 3, 27, 54] }, some 76, some (9, true), [10, 12, 9, 9], fun v _ => v = .bool true⟩,
 ⟨Op.pick (Operand.tmp 72) (Operand.tmp 76) (Operand.const (Value.bool false)), some 77, none, [9, 13], fun v _ => v = .bool true⟩,
 ⟨Op.move (Operand.tmp 77), some 78, none, [14, 13], fun v _ => v = .bool true⟩,
 ⟨Op.buildSlice 27 4 #[(0, Operand.const (Value.int IntKind.i64 5)), (1, Operand.const (Value.int IntKind.i64 3)), (2, Operand.const (Value.int IntKind.i64 1)), (3, Operand.const (Value.int IntKind.i64 1))], some 79, some (15, true), [15], fun v w => ∃ g : Nat, v = .slice (some ⟨g, 0, none⟩) 4 4 ∧ Blk w g 3 #[.int .i64 5, .int .i64 3, .int .i64 1, .int .i64 1]⟩,
 ⟨Op.buildSlice 27 4 #[(0, Operand.const (Value.int IntKind.i64 2)), (1, Operand.const (Value.int IntKind.i64 1)), (2, Operand.const (Value.int IntKind.i64 0)), (3, Operand.const (Value.int IntKind.i64 0))], some 80, some (15, true), [15], fun v w => ∃ g : Nat, v = .slice (some ⟨g, 0, none⟩) 4 4 ∧ Blk w g 3 #[.int .i64 2, .int .i64 1, .int .i64 0, .int .i64 0]⟩,
 ⟨Op.buildSlice 27 4 #[(0, Operand.const (Value.int IntKind.i64 0)), (1, Operand.const (Value.int IntKind.i64 1)), (2, Operand.const (Value.int IntKind.i64 2)), (3, Operand.const (Value.int IntKind.i64 3))], some 81, some (15, true), [15], fun v w => ∃ g : Nat, v = .slice (some ⟨g, 0, none⟩) 4 4 ∧ Blk w g 3 #[.int .i64 0, .int .i64 1, .int .i64 2, .int .i64 3]⟩,
 ⟨Op.build 54 #[(0, Operand.tmp 80), (1, Operand.tmp 81), (2, Operand.const (Value.int IntKind.i64 2))], some 82, some (15, true), [17, 18, 15], fun v w => ∃ g h : Nat, v = .agg #[.slice (some ⟨g, 0, none⟩) 4 4, .slice (some ⟨h, 0, none⟩) 4 4, .int .i64 2] ∧ Blk w g 3 #[.int .i64 2, .int .i64 1, .int .i64 0, .int .i64 0] ∧ Blk w h 3 #[.int .i64 0, .int .i64 1, .int .i64 2, .int .i64 3]⟩,
 ⟨Op.call { callee := Callee.value (Operand.func 33), args := #[Operand.tmp 79, Operand.const (Value.int IntKind.i64 5), Operand.const (Value.int IntKind.i64 1), Operand.const (Value.slice none 0 0), Operand.tmp 82], argTypes := #[27, 3, 3, 27, 54] }, some 83, some (15, true), [16, 19, 15, 15], fun v _ => v = .bool true⟩,
 ⟨Op.pick (Operand.tmp 78) (Operand.tmp 83) (Operand.const (Value.bool false)), some 84, none, [15, 20], fun v _ => v = .bool true⟩,
 ⟨Op.move (Operand.tmp 84), some 85, none, [21, 20], fun v _ => v = .bool true⟩,
 ⟨Op.buildSlice 27 2 #[(0, Operand.const (Value.int IntKind.i64 2)), (1, Operand.const (Value.int IntKind.i64 2))], some 86, some (22, true), [22], fun v w => ∃ g : Nat, v = .slice (some ⟨g, 0, none⟩) 2 2 ∧ Blk w g 3 #[.int .i64 2, .int .i64 2]⟩,
 ⟨Op.buildSlice 27 2 #[(0, Operand.const (Value.int IntKind.i64 1)), (1, Operand.const (Value.int IntKind.i64 1))], some 87, some (22, true), [22], fun v w => ∃ g : Nat, v = .slice (some ⟨g, 0, none⟩) 2 2 ∧ Blk w g 3 #[.int .i64 1, .int .i64 1]⟩,
 ⟨Op.buildSlice 27 2 #[(0, Operand.const (Value.int IntKind.i64 0)), (1, Operand.const (Value.int IntKind.i64 1))], some 88, some (22, true), [22], fun v w => ∃ g : Nat, v = .slice (some ⟨g, 0, none⟩) 2 2 ∧ Blk w g 3 #[.int .i64 0, .int .i64 1]⟩,
 ⟨Op.build 54 #[(0, Operand.tmp 87), (1, Operand.tmp 88), (2, Operand.const (Value.int IntKind.i64 1))], some 89, some (22, true), [24, 25, 22], fun v w => ∃ g h : Nat, v = .agg #[.slice (some ⟨g, 0, none⟩) 2 2, .slice (some ⟨h, 0, none⟩) 2 2, .int .i64 1] ∧ Blk w g 3 #[.int .i64 1, .int .i64 1] ∧ Blk w h 3 #[.int .i64 0, .int .i64 1]⟩,
 ⟨Op.call { callee := Callee.value (Operand.func 33), args := #[Operand.tmp 86, Operand.const (Value.int IntKind.i64 3), Operand.const (Value.int IntKind.i64 1), Operand.const (Value.slice none 0 0), Operand.tmp 89], argTypes := #[27, 3, 3, 27, 54] }, some 90, some (22, true), [23, 26, 22, 22], fun v _ => v = .bool true⟩,
 ⟨Op.pick (Operand.tmp 85) (Operand.tmp 90) (Operand.const (Value.bool false)), some 91, none, [22, 27], fun v _ => v = .bool true⟩,
 ⟨Op.move (Operand.tmp 91), some 92, none, [28, 27], fun v _ => v = .bool true⟩,
 ⟨Op.buildSlice 27 2 #[(0, Operand.const (Value.int IntKind.i64 9)), (1, Operand.const (Value.int IntKind.i64 1))], some 93, some (29, true), [29], fun v w => ∃ g : Nat, v = .slice (some ⟨g, 0, none⟩) 2 2 ∧ Blk w g 3 #[.int .i64 9, .int .i64 1]⟩,
 ⟨Op.buildSlice 27 2 #[(0, Operand.const (Value.int IntKind.i64 0)), (1, Operand.const (Value.int IntKind.i64 2))], some 94, some (29, true), [29], fun v w => ∃ g : Nat, v = .slice (some ⟨g, 0, none⟩) 2 2 ∧ Blk w g 3 #[.int .i64 0, .int .i64 2]⟩,
 ⟨Op.buildSlice 27 2 #[(0, Operand.const (Value.int IntKind.i64 2)), (1, Operand.const (Value.int IntKind.i64 2))], some 95, some (29, true), [29], fun v w => ∃ g : Nat, v = .slice (some ⟨g, 0, none⟩) 2 2 ∧ Blk w g 3 #[.int .i64 2, .int .i64 2]⟩,
 ⟨Op.build 54 #[(0, Operand.tmp 95)], some 96, some (29, true), [32, 29], fun v w => ∃ g : Nat, v = .agg #[.slice (some ⟨g, 0, none⟩) 2 2, .slice none 0 0, .int .i64 0] ∧ Blk w g 3 #[.int .i64 2, .int .i64 2]⟩,
 ⟨Op.call { callee := Callee.value (Operand.func 33), args := #[Operand.tmp 93, Operand.const (Value.int IntKind.i64 4), Operand.const (Value.int IntKind.i64 1), Operand.tmp 94, Operand.tmp 96], argTypes := #[27, 3, 3, 27, 54] }, some 97, some (29, true), [30, 31, 33, 29, 29], fun v _ => v = .bool true⟩,
 ⟨Op.pick (Operand.tmp 92) (Operand.tmp 97) (Operand.const (Value.bool false)), some 98, none, [29, 34], fun v _ => v = .bool true⟩,
 ⟨Op.move (Operand.tmp 98), some 99, none, [35, 34], fun v _ => v = .bool true⟩,
 ⟨Op.move (Operand.tmp 9), some 100, some (36, true), [36], fun v _ => v = .int .i64 9⟩,
 ⟨Op.binOp BinOp.eql 31 (Operand.tmp 100) (Operand.const (Value.int IntKind.i64 9)) 31, some 101, some (36, true), [37, 36], fun v _ => v = .bool true⟩,
 ⟨Op.pick (Operand.tmp 99) (Operand.tmp 101) (Operand.const (Value.bool false)), some 102, none, [36, 38], fun v _ => v = .bool true⟩,
 ⟨Op.move (Operand.tmp 102), some 103, none, [39, 36], fun v _ => v = .bool true⟩,
 ⟨Op.move (Operand.tmp 10), some 104, some (40, true), [40], fun v _ => v = .slice (some ⟨g10, 0, none⟩) 2 c10⟩,
 ⟨Op.buildSlice 27 2 #[(0, Operand.const (Value.int IntKind.i64 1)), (1, Operand.const (Value.int IntKind.i64 2))], some 105, some (40, true), [40], fun v w => ∃ g : Nat, v = .slice (some ⟨g, 0, none⟩) 2 2 ∧ Blk w g 3 #[.int .i64 1, .int .i64 2]⟩,
 ⟨Op.call { callee := Callee.value (Operand.func 31), args := #[Operand.tmp 104, Operand.tmp 105], argTypes := #[27, 27] }, some 106, some (40, true), [41, 42, 40, 40], fun v _ => v = .bool true⟩,
 ⟨Op.pick (Operand.tmp 103) (Operand.tmp 106) (Operand.const (Value.bool false)), some 107, none, [40, 43], fun v _ => v = .bool true⟩,
 ⟨Op.move (Operand.tmp 107), some 108, none, [44, 43], fun v _ => v = .bool true⟩,
 ⟨Op.move (Operand.tmp 11), some 109, some (45, true), [45], fun v _ => v = .int .i64 0⟩,
 ⟨Op.binOp BinOp.eql 31 (Operand.tmp 109) (Operand.const (Value.int IntKind.i64 0)) 31, some 110, some (45, true), [46, 45], fun v _ => v = .bool true⟩,
 ⟨Op.pick (Operand.tmp 108) (Operand.tmp 110) (Operand.const (Value.bool false)), some 111, none, [45, 47], fun v _ => v = .bool true⟩,
 ⟨Op.move (Operand.tmp 111), some 112, none, [48, 45], fun v _ => v = .bool true⟩,
 ⟨Op.move (Operand.tmp 12), some 113, some (49, true), [49], fun v _ => v = .int .i64 10⟩,
 ⟨Op.binOp BinOp.eql 3 (Operand.tmp 113) (Operand.const (Value.int IntKind.i64 10)) 3, some 114, some (49, true), [50, 49], fun v _ => v = .bool true⟩,
 ⟨Op.pick (Operand.tmp 112) (Operand.tmp 114) (Operand.const (Value.bool false)), some 115, none, [49, 51], fun v _ => v = .bool true⟩,
 ⟨Op.move (Operand.tmp 115), some 116, none, [52, 49], fun v _ => v = .bool true⟩,
 ⟨Op.move (Operand.tmp 13), some 117, some (53, true), [53], fun v _ => v = .int .i64 0⟩,
 ⟨Op.binOp BinOp.eql 31 (Operand.tmp 117) (Operand.const (Value.int IntKind.i64 0)) 31, some 118, some (53, true), [54, 53], fun v _ => v = .bool true⟩,
 ⟨Op.pick (Operand.tmp 116) (Operand.tmp 118) (Operand.const (Value.bool false)), some 119, none, [53, 55], fun v _ => v = .bool true⟩,
 ⟨Op.move (Operand.tmp 119), some 120, none, [56, 53], fun v _ => v = .bool true⟩,
 ⟨Op.call { callee := Callee.value (Operand.func 15), args := #[Operand.const (Value.slice none 0 0)], argTypes := #[27] }, some 121, some (57, true), [57, 57], fun v _ => v = .int .i64 60⟩,
 ⟨Op.binOp BinOp.eql 31 (Operand.tmp 121) (Operand.const (Value.int IntKind.i64 60)) 31, some 122, some (57, true), [58, 57], fun v _ => v = .bool true⟩,
 ⟨Op.pick (Operand.tmp 120) (Operand.tmp 122) (Operand.const (Value.bool false)), some 123, none, [57, 59], fun v _ => v = .bool true⟩,
 ⟨Op.assign (Operand.tmp 123), some 0, none, [60, 58, 0, 1, 2, 3, 4, 5, 6, 7, 8, 9, 10, 11, 12, 13, 14, 15, 16, 17, 18, 19, 20, 21, 22, 23, 24, 25, 26, 27, 28, 29, 30, 31, 32, 33, 34, 35, 36, 37, 38, 39, 40, 41, 42, 43, 44, 45, 46, 47, 48, 49, 50, 51, 52, 53, 54, 55, 56, 57, 58, 59, 60], fun v _ => v = .bool true⟩]
noncomputable def wk6_base (g1 g6 g10 c10 : Nat) (ya yb yc yd : W8) (v2 v3 v4 v5 v8 v14 v15 v16 v17 v18 v19 v20 v21 v22 v23 v24 v25 v26 v27 v28 v29 v30 v31 v32 v33 v34 v35 v36 v37 v38 v39 v40 v41 v42 v43 v44 v45 v46 v47 v48 v49 v50 v51 v52 v53 v54 v55 v56 v57 v58 v59 v60 v61 v62 : Value) : List (Nat × Value) := [(1, .slice (some ⟨g1, 0, none⟩) 2 2), (6, .slice (some ⟨g6, 0, none⟩) 2 2), (7, .int .i64 0), (9, .int .i64 9), (10, .slice (some ⟨g10, 0, none⟩) 2 c10), (11, .int .i64 0), (12, .int .i64 10), (13, .int .i64 0), (2, v2), (3, v3), (4, v4), (5, v5), (8, v8), (14, v14), (15, v15), (16, v16), (17, v17), (18, v18), (19, v19), (20, v20), (21, v21), (22, v22), (23, v23), (24, v24), (25, v25), (26, v26), (27, v27), (28, v28), (29, v29), (30, v30), (31, v31), (32, v32), (33, v33), (34, v34), (35, v35), (36, v36), (37, v37), (38, v38), (39, v39), (40, v40), (41, v41), (42, v42), (43, v43), (44, v44), (45, v45), (46, v46), (47, v47), (48, v48), (49, v49), (50, v50), (51, v51), (52, v52), (53, v53), (54, v54), (55, v55), (56, v56), (57, v57), (58, v58), (59, v59), (60, v60), (61, v61), (62, v62)]
set_option maxRecDepth 100000 in
set_option maxHeartbeats 4000000 in
theorem wk6_steps (V : World) (g1 g6 g10 c10 : Nat) (ya yb yc yd : W8) (v2 v3 v4 v5 v8 v14 v15 v16 v17 v18 v19 v20 v21 v22 v23 v24 v25 v26 v27 v28 v29 v30 v31 v32 v33 v34 v35 v36 v37 v38 v39 v40 v41 v42 v43 v44 v45 v46 v47 v48 v49 v50 v51 v52 v53 v54 v55 v56 v57 v58 v59 v60 v61 v62 : Value) (HO1 : ∀ w, Calls Tryz.prog 36 #[.int .i64 14, .int .i64 5] w (fun e w' => e = .returned (.agg #[.int .u64 ya.a0, .int .u64 ya.a1, .int .u64 ya.a2, .int .u64 ya.a3, .int .u64 ya.a4, .int .u64 ya.a5, .int .u64 ya.a6, .int .u64 ya.a7, .int .u64 yb.a0, .int .u64 yb.a1, .int .u64 yb.a2, .int .u64 yb.a3, .int .u64 yb.a4, .int .u64 yb.a5, .int .u64 yb.a6, .int .u64 yb.a7]) ∧ Lat w w')) (HO2 : ∀ w, Calls Tryz.prog 36 #[.int .i64 6, .int .i64 5] w (fun e w' => e = .returned (.agg #[.int .u64 yc.a0, .int .u64 yc.a1, .int .u64 yc.a2, .int .u64 yc.a3, .int .u64 yc.a4, .int .u64 yc.a5, .int .u64 yc.a6, .int .u64 yc.a7, .int .u64 yd.a0, .int .u64 yd.a1, .int .u64 yd.a2, .int .u64 yd.a3, .int .u64 yd.a4, .int .u64 yd.a5, .int .u64 yd.a6, .int .u64 yd.a7]) ∧ Lat w w')) (HEQ : ∀ w, Lat V w → ∀ (g2 : Nat) (b2 : RowB w g2 42 16 [[.int .u64 ya.a0, .int .u64 ya.a1, .int .u64 ya.a2, .int .u64 ya.a3, .int .u64 ya.a4, .int .u64 ya.a5, .int .u64 ya.a6, .int .u64 ya.a7, .int .u64 yb.a0, .int .u64 yb.a1, .int .u64 yb.a2, .int .u64 yb.a3, .int .u64 yb.a4, .int .u64 yb.a5, .int .u64 yb.a6, .int .u64 yb.a7], [.int .u64 yc.a0, .int .u64 yc.a1, .int .u64 yc.a2, .int .u64 yc.a3, .int .u64 yc.a4, .int .u64 yc.a5, .int .u64 yc.a6, .int .u64 yc.a7, .int .u64 yd.a0, .int .u64 yd.a1, .int .u64 yd.a2, .int .u64 yd.a3, .int .u64 yd.a4, .int .u64 yd.a5, .int .u64 yd.a6, .int .u64 yd.a7]]), Calls Tryz.prog 22 #[.slice (some ⟨g6, 0, none⟩) 2 2, .slice (some ⟨g2, 0, none⟩) 2 2] w (fun e w' => e = .returned (.bool true) ∧ Lat w w')) (HG1 : ∀ w, Lat V w → ∀  (ga : Nat) (ba : Blk w ga 3 #[.int .i64 3, .int .i64 1]), Calls Tryz.prog 33 #[.slice (some ⟨g1, 0, none⟩) 2 2, .int .i64 4, .int .i64 1, .slice none 0 0, .agg #[.slice (some ⟨ga, 0, none⟩) 2 2, .slice none 0 0, .int .i64 0]] w (fun e w' => e = .returned (.bool true) ∧ Lat w w')) (HG2 : ∀ w, Lat V w → ∀ (gp0 : Nat) (bp0 : Blk w gp0 3 #[.int .i64 5, .int .i64 3, .int .i64 1, .int .i64 1]) (ga : Nat) (ba : Blk w ga 3 #[.int .i64 2, .int .i64 1, .int .i64 0, .int .i64 0]) (ha : Nat) (bb : Blk w ha 3 #[.int .i64 0, .int .i64 1, .int .i64 2, .int .i64 3]), Calls Tryz.prog 33 #[.slice (some ⟨gp0, 0, none⟩) 4 4, .int .i64 5, .int .i64 1, .slice none 0 0, .agg #[.slice (some ⟨ga, 0, none⟩) 4 4, .slice (some ⟨ha, 0, none⟩) 4 4, .int .i64 2]] w (fun e w' => e = .returned (.bool true) ∧ Lat w w')) (HG3 : ∀ w, Lat V w → ∀ (gp0 : Nat) (bp0 : Blk w gp0 3 #[.int .i64 2, .int .i64 2]) (ga : Nat) (ba : Blk w ga 3 #[.int .i64 1, .int .i64 1]) (ha : Nat) (bb : Blk w ha 3 #[.int .i64 0, .int .i64 1]), Calls Tryz.prog 33 #[.slice (some ⟨gp0, 0, none⟩) 2 2, .int .i64 3, .int .i64 1, .slice none 0 0, .agg #[.slice (some ⟨ga, 0, none⟩) 2 2, .slice (some ⟨ha, 0, none⟩) 2 2, .int .i64 1]] w (fun e w' => e = .returned (.bool true) ∧ Lat w w')) (HG4 : ∀ w, Lat V w → ∀ (gp0 : Nat) (bp0 : Blk w gp0 3 #[.int .i64 9, .int .i64 1]) (gp1 : Nat) (bp1 : Blk w gp1 3 #[.int .i64 0, .int .i64 2]) (ga : Nat) (ba : Blk w ga 3 #[.int .i64 2, .int .i64 2]), Calls Tryz.prog 33 #[.slice (some ⟨gp0, 0, none⟩) 2 2, .int .i64 4, .int .i64 1, .slice (some ⟨gp1, 0, none⟩) 2 2, .agg #[.slice (some ⟨ga, 0, none⟩) 2 2, .slice none 0 0, .int .i64 0]] w (fun e w' => e = .returned (.bool true) ∧ Lat w w')) (HEI : ∀ w, Lat V w → ∀ (g2 : Nat) (b2 : Blk w g2 3 #[.int .i64 1, .int .i64 2]), Calls Tryz.prog 31 #[.slice (some ⟨g10, 0, none⟩) 2 c10, .slice (some ⟨g2, 0, none⟩) 2 2] w (fun e w' => e = .returned (.bool true) ∧ Lat w w')) (HCK : ∀ w, Calls Tryz.prog 15 #[.slice none 0 0] w (fun e w' => e = .returned (.int .i64 60) ∧ Lat w w')) :
  AllSteps Tryz.prog (wk6_rows g1 g6 g10 c10 ya yb yc yd) (wk6_base g1 g6 g10 c10 ya yb yc yd v2 v3 v4 v5 v8 v14 v15 v16 v17 v18 v19 v20 v21 v22 v23 v24 v25 v26 v27 v28 v29 v30 v31 v32 v33 v34 v35 v36 v37 v38 v39 v40 v41 v42 v43 v44 v45 v46 v47 v48 v49 v50 v51 v52 v53 v54 v55 v56 v57 v58 v59 v60 v61 v62) V (wk6_rows g1 g6 g10 c10 ya yb yc yd) := by
 refine AllSteps.next (fun _ _ _ h _ => h) (fun j b h => by cases h) (fun a w hl hb hd o ho => by have e1 := hb 6 _ rfl; exact Runs.val (yv_move (S := fun _ => True) e1 o w ho trivial) ⟨Lat.refl _, fun _ => rfl⟩) ?_
 refine AllSteps.next (fun _ _ _ h _ => h) (fun j b h => by cases h) (fun a w hl hb hd o ho => by exact Runs.call (yv_call (f := 36) (fun _ => by go_simp) o ho (by simp only [List.map_toArray, List.map_cons, List.map_nil, eval_const])) ((HO1 w).mono fun e w' h => ⟨_, h.1, h.2, fun _ => rfl⟩)) ?_
 refine AllSteps.next (fun _ _ _ h _ => h) (fun j b h => by cases h) (fun a w hl hb hd o ho => by exact Runs.call (yv_call (f := 36) (fun _ => by go_simp) o ho (by simp only [List.map_toArray, List.map_cons, List.map_nil, eval_const])) ((HO2 w).mono fun e w' h => ⟨_, h.1, h.2, fun _ => rfl⟩)) ?_
 refine AllSteps.next (fun v w w' h l => by obtain ⟨g, h1, h2⟩ := h; exact ⟨g, h1, h2.later l⟩) (fun j b h => by cases h) (fun a w hl hb hd o ho => by obtain ⟨v1, e1, q1⟩ := hd 1 _ _ (by simp) rfl rfl; obtain ⟨v2, e2, q2⟩ := hd 2 _ _ (by simp) rfl rfl; subst q1; subst q2; obtain ⟨d, op, ty, p, af, g⟩ := o; simp only at ho; subst ho; have ec : ∀ v, a.eval (.const v) = v := fun _ => rfl; exact Runs.new (w' := w.alloc (.cells #[.int .u64 ya.a0, .int .u64 ya.a1, .int .u64 ya.a2, .int .u64 ya.a3, .int .u64 ya.a4, .int .u64 ya.a5, .int .u64 ya.a6, .int .u64 ya.a7, .int .u64 yb.a0, .int .u64 yb.a1, .int .u64 yb.a2, .int .u64 yb.a3, .int .u64 yb.a4, .int .u64 yb.a5, .int .u64 yb.a6, .int .u64 yb.a7, .int .u64 yc.a0, .int .u64 yc.a1, .int .u64 yc.a2, .int .u64 yc.a3, .int .u64 yc.a4, .int .u64 yc.a5, .int .u64 yc.a6, .int .u64 yc.a7, .int .u64 yd.a0, .int .u64 yd.a1, .int .u64 yd.a2, .int .u64 yd.a3, .int .u64 yd.a4, .int .u64 yd.a5, .int .u64 yd.a6, .int .u64 yd.a7] 42)) (by unfold execOp; generalize a.eval = ev at e1 e2 ec ⊢; simp only [e1, e2, ec]; go_simp) ⟨Lat.alloc _ _, fun _ => ⟨_, rfl, row_lit2 (Blk.new _ _ _)⟩⟩) ?_
 refine AllSteps.next (fun _ _ _ h _ => h) (fun j b h => by cases h) (fun a w hl hb hd o ho => by obtain ⟨v1, e1, q1⟩ := hd 0 _ _ (by simp) rfl rfl; subst q1; obtain ⟨v2, e2, q2⟩ := hd 3 _ _ (by simp) rfl rfl; obtain ⟨g2, rfl, b2⟩ := q2; exact Runs.call (yv_call (f := 22) (fun _ => by go_simp) o ho (by simp only [List.map_toArray, List.map_cons, List.map_nil, e1, e2])) ((HEQ w hl g2 b2).mono fun e w' h => ⟨_, h.1, h.2, fun _ => rfl⟩)) ?_
 refine AllSteps.next (fun _ _ _ h _ => h) (fun j b h => by cases h) (fun a w hl hb hd o ho => by obtain ⟨v1, e1, q1⟩ := hd 4 _ _ (by simp) rfl rfl; subst q1; exact Runs.val (yv_move (S := fun _ => True) e1 o w ho trivial) ⟨Lat.refl _, fun _ => rfl⟩) ?_
 refine AllSteps.next (fun _ _ _ h _ => h) (fun j b h => by cases h; exact ⟨_, rfl, ⟨_, rfl⟩, by simp, fun _ _ h => h⟩) (fun a w hl hb hd o ho => by have e1 := hb 7 _ rfl; exact Runs.val (yv_move (S := fun _ => True) e1 o w ho trivial) ⟨Lat.refl _, fun _ => rfl⟩) ?_
 refine AllSteps.next (fun _ _ _ h _ => h) (fun j b h => by cases h; exact ⟨_, rfl, ⟨_, rfl⟩, by simp, fun _ _ h => h⟩) (fun a w hl hb hd o ho => by obtain ⟨v1, e1, q1⟩ := hd 6 _ _ (by simp) rfl rfl; subst q1; exact Runs.val (S_eql31 e1 o w ho (by decide)) ⟨Lat.refl _, fun _ => rfl⟩) ?_
 refine AllSteps.next (fun _ _ _ h _ => h) (fun j b h => by cases h) (fun a w hl hb hd o ho => by obtain ⟨v1, e1, q1⟩ := hd 5 _ _ (by simp) rfl rfl; obtain ⟨v2, e2, q2⟩ := hd 7 _ _ (by simp) rfl rfl; subst q1; subst q2; exact Runs.val (yv_pick (S := fun _ => True) e1 e2 o w ho trivial) ⟨Lat.refl _, fun _ => rfl⟩) ?_
 refine AllSteps.next (fun _ _ _ h _ => h) (fun j b h => by cases h) (fun a w hl hb hd o ho => by obtain ⟨v1, e1, q1⟩ := hd 8 _ _ (by simp) rfl rfl; subst q1; exact Runs.val (yv_move (S := fun _ => True) e1 o w ho trivial) ⟨Lat.refl _, fun _ => rfl⟩) ?_
 refine AllSteps.next (fun _ _ _ h _ => h) (fun j b h => by cases h; exact ⟨_, rfl, ⟨_, rfl⟩, by simp, fun _ _ h => h⟩) (fun a w hl hb hd o ho => by have e1 := hb 1 _ rfl; exact Runs.val (yv_move (S := fun _ => True) e1 o w ho trivial) ⟨Lat.refl _, fun _ => rfl⟩) ?_
 refine AllSteps.next (fun v w w' h l => by obtain ⟨g, h1, h2⟩ := h; exact ⟨g, h1, h2.later l⟩) (fun j b h => by cases h; exact ⟨_, rfl, ⟨_, rfl⟩, by simp, fun _ _ h => h⟩) (fun a w hl hb hd o ho => by obtain ⟨d, op, ty, p, af, g⟩ := o; simp only at ho; subst ho; have ec : ∀ v, a.eval (.const v) = v := fun _ => rfl; exact Runs.new (w' := w.alloc (.cells #[.int .i64 3, .int .i64 1] 3)) (by unfold execOp; generalize a.eval = ev at ec ⊢; simp only [ec]; go_simp) ⟨Lat.alloc _ _, fun _ => ⟨_, rfl, Blk.new _ _ _⟩⟩) ?_
 refine AllSteps.next (fun v w w' h l => by obtain ⟨g, h1, h2⟩ := h; exact ⟨g, h1, h2.later l⟩) (fun j b h => by cases h; exact ⟨_, rfl, ⟨_, rfl⟩, by simp, fun _ _ h => h⟩) (fun a w hl hb hd o ho => by obtain ⟨v1, e1, q1⟩ := hd 11 _ _ (by simp) rfl rfl; obtain ⟨g, rfl, b1⟩ := q1; obtain ⟨d, op, ty, p, af, gg⟩ := o; simp only at ho; subst ho; have ec : ∀ v, a.eval (.const v) = v := fun _ => rfl; exact Runs.val (by unfold execOp; generalize a.eval = ev at e1 ec ⊢; simp only [e1, ec]; go_simp) ⟨Lat.refl _, fun _ => ⟨_, rfl, b1⟩⟩) ?_
 refine AllSteps.next (fun _ _ _ h _ => h) (fun j b h => by cases h; exact ⟨_, rfl, ⟨_, rfl⟩, by simp, fun _ _ h => h⟩) (fun a w hl hb hd o ho => by obtain ⟨v1, e1, q1⟩ := hd 10 _ _ (by simp) rfl rfl; obtain ⟨v2, e2, q2⟩ := hd 12 _ _ (by simp) rfl rfl; subst q1; obtain ⟨ga, rfl, ba⟩ := q2; exact Runs.call (yv_call (f := 33) (fun _ => by go_simp) o ho (by simp only [List.map_toArray, List.map_cons, List.map_nil, eval_const, e1, e2])) ((HG1 w hl ga ba).mono fun e w' h => ⟨_, h.1, h.2, fun _ => rfl⟩)) ?_
 refine AllSteps.next (fun _ _ _ h _ => h) (fun j b h => by cases h) (fun a w hl hb hd o ho => by obtain ⟨v1, e1, q1⟩ := hd 9 _ _ (by simp) rfl rfl; obtain ⟨v2, e2, q2⟩ := hd 13 _ _ (by simp) rfl rfl; subst q1; subst q2; exact Runs.val (yv_pick (S := fun _ => True) e1 e2 o w ho trivial) ⟨Lat.refl _, fun _ => rfl⟩) ?_
 refine AllSteps.next (fun _ _ _ h _ => h) (fun j b h => by cases h) (fun a w hl hb hd o ho => by obtain ⟨v1, e1, q1⟩ := hd 14 _ _ (by simp) rfl rfl; subst q1; exact Runs.val (yv_move (S := fun _ => True) e1 o w ho trivial) ⟨Lat.refl _, fun _ => rfl⟩) ?_
 refine AllSteps.next (fun v w w' h l => by obtain ⟨g, h1, h2⟩ := h; exact ⟨g, h1, h2.later l⟩) (fun j b h => by cases h; exact ⟨_, rfl, ⟨_, rfl⟩, by simp, fun _ _ h => h⟩) (fun a w hl hb hd o ho => by obtain ⟨d, op, ty, p, af, g⟩ := o; simp only at ho; subst ho; have ec : ∀ v, a.eval (.const v) = v := fun _ => rfl; exact Runs.new (w' := w.alloc (.cells #[.int .i64 5, .int .i64 3, .int .i64 1, .int .i64 1] 3)) (by unfold execOp; generalize a.eval = ev at ec ⊢; simp only [ec]; go_simp) ⟨Lat.alloc _ _, fun _ => ⟨_, rfl, Blk.new _ _ _⟩⟩) ?_
 refine AllSteps.next (fun v w w' h l => by obtain ⟨g, h1, h2⟩ := h; exact ⟨g, h1, h2.later l⟩) (fun j b h => by cases h; exact ⟨_, rfl, ⟨_, rfl⟩, by simp, fun _ _ h => h⟩) (fun a w hl hb hd o ho => by obtain ⟨d, op, ty, p, af, g⟩ := o; simp only at ho; subst ho; have ec : ∀ v, a.eval (.const v) = v := fun _ => rfl; exact Runs.new (w' := w.alloc (.cells #[.int .i64 2, .int .i64 1, .int .i64 0, .int .i64 0] 3)) (by unfold execOp; generalize a.eval = ev at ec ⊢; simp only [ec]; go_simp) ⟨Lat.alloc _ _, fun _ => ⟨_, rfl, Blk.new _ _ _⟩⟩) ?_
 refine AllSteps.next (fun v w w' h l => by obtain ⟨g, h1, h2⟩ := h; exact ⟨g, h1, h2.later l⟩) (fun j b h => by cases h; exact ⟨_, rfl, ⟨_, rfl⟩, by simp, fun _ _ h => h⟩) (fun a w hl hb hd o ho => by obtain ⟨d, op, ty, p, af, g⟩ := o; simp only at ho; subst ho; have ec : ∀ v, a.eval (.const v) = v := fun _ => rfl; exact Runs.new (w' := w.alloc (.cells #[.int .i64 0, .int .i64 1, .int .i64 2, .int .i64 3] 3)) (by unfold execOp; generalize a.eval = ev at ec ⊢; simp only [ec]; go_simp) ⟨Lat.alloc _ _, fun _ => ⟨_, rfl, Blk.new _ _ _⟩⟩) ?_
 refine AllSteps.next (fun v w w' h l => by obtain ⟨g, k, h1, h2, h3⟩ := h; exact ⟨g, k, h1, h2.later l, h3.later l⟩) (fun j b h => by cases h; exact ⟨_, rfl, ⟨_, rfl⟩, by simp, fun _ _ h => h⟩) (fun a w hl hb hd o ho => by obtain ⟨v1, e1, q1⟩ := hd 17 _ _ (by simp) rfl rfl; obtain ⟨v2, e2, q2⟩ := hd 18 _ _ (by simp) rfl rfl; obtain ⟨g, rfl, b1⟩ := q1; obtain ⟨h, rfl, b2⟩ := q2; obtain ⟨d, op, ty, p, af, gg⟩ := o; simp only at ho; subst ho; have ec : ∀ v, a.eval (.const v) = v := fun _ => rfl; exact Runs.val (by unfold execOp; generalize a.eval = ev at e1 e2 ec ⊢; simp only [e1, e2, ec]; go_simp) ⟨Lat.refl _, fun _ => ⟨_, _, rfl, b1, b2⟩⟩) ?_
 refine AllSteps.next (fun _ _ _ h _ => h) (fun j b h => by cases h; exact ⟨_, rfl, ⟨_, rfl⟩, by simp, fun _ _ h => h⟩) (fun a w hl hb hd o ho => by obtain ⟨v1, e1, q1⟩ := hd 16 _ _ (by simp) rfl rfl; obtain ⟨v2, e2, q2⟩ := hd 19 _ _ (by simp) rfl rfl; obtain ⟨gp0, rfl, bp0⟩ := q1; obtain ⟨ga, ha, rfl, ba, bb⟩ := q2; exact Runs.call (yv_call (f := 33) (fun _ => by go_simp) o ho (by simp only [List.map_toArray, List.map_cons, List.map_nil, eval_const, e1, e2])) ((HG2 w hl gp0 bp0 ga ba ha bb).mono fun e w' h => ⟨_, h.1, h.2, fun _ => rfl⟩)) ?_
 refine AllSteps.next (fun _ _ _ h _ => h) (fun j b h => by cases h) (fun a w hl hb hd o ho => by obtain ⟨v1, e1, q1⟩ := hd 15 _ _ (by simp) rfl rfl; obtain ⟨v2, e2, q2⟩ := hd 20 _ _ (by simp) rfl rfl; subst q1; subst q2; exact Runs.val (yv_pick (S := fun _ => True) e1 e2 o w ho trivial) ⟨Lat.refl _, fun _ => rfl⟩) ?_
 refine AllSteps.next (fun _ _ _ h _ => h) (fun j b h => by cases h) (fun a w hl hb hd o ho => by obtain ⟨v1, e1, q1⟩ := hd 21 _ _ (by simp) rfl rfl; subst q1; exact Runs.val (yv_move (S := fun _ => True) e1 o w ho trivial) ⟨Lat.refl _, fun _ => rfl⟩) ?_
 refine AllSteps.next (fun v w w' h l => by obtain ⟨g, h1, h2⟩ := h; exact ⟨g, h1, h2.later l⟩) (fun j b h => by cases h; exact ⟨_, rfl, ⟨_, rfl⟩, by simp, fun _ _ h => h⟩) (fun a w hl hb hd o ho => by obtain ⟨d, op, ty, p, af, g⟩ := o; simp only at ho; subst ho; have ec : ∀ v, a.eval (.const v) = v := fun _ => rfl; exact Runs.new (w' := w.alloc (.cells #[.int .i64 2, .int .i64 2] 3)) (by unfold execOp; generalize a.eval = ev at ec ⊢; simp only [ec]; go_simp) ⟨Lat.alloc _ _, fun _ => ⟨_, rfl, Blk.new _ _ _⟩⟩) ?_
 refine AllSteps.next (fun v w w' h l => by obtain ⟨g, h1, h2⟩ := h; exact ⟨g, h1, h2.later l⟩) (fun j b h => by cases h; exact ⟨_, rfl, ⟨_, rfl⟩, by simp, fun _ _ h => h⟩) (fun a w hl hb hd o ho => by obtain ⟨d, op, ty, p, af, g⟩ := o; simp only at ho; subst ho; have ec : ∀ v, a.eval (.const v) = v := fun _ => rfl; exact Runs.new (w' := w.alloc (.cells #[.int .i64 1, .int .i64 1] 3)) (by unfold execOp; generalize a.eval = ev at ec ⊢; simp only [ec]; go_simp) ⟨Lat.alloc _ _, fun _ => ⟨_, rfl, Blk.new _ _ _⟩⟩) ?_
 refine AllSteps.next (fun v w w' h l => by obtain ⟨g, h1, h2⟩ := h; exact ⟨g, h1, h2.later l⟩) (fun j b h => by cases h; exact ⟨_, rfl, ⟨_, rfl⟩, by simp, fun _ _ h => h⟩) (fun a w hl hb hd o ho => by obtain ⟨d, op, ty, p, af, g⟩ := o; simp only at ho; subst ho; have ec : ∀ v, a.eval (.const v) = v := fun _ => rfl; exact Runs.new (w' := w.alloc (.cells #[.int .i64 0, .int .i64 1] 3)) (by unfold execOp; generalize a.eval = ev at ec ⊢; simp only [ec]; go_simp) ⟨Lat.alloc _ _, fun _ => ⟨_, rfl, Blk.new _ _ _⟩⟩) ?_
 refine AllSteps.next (fun v w w' h l => by obtain ⟨g, k, h1, h2, h3⟩ := h; exact ⟨g, k, h1, h2.later l, h3.later l⟩) (fun j b h => by cases h; exact ⟨_, rfl, ⟨_, rfl⟩, by simp, fun _ _ h => h⟩) (fun a w hl hb hd o ho => by obtain ⟨v1, e1, q1⟩ := hd 24 _ _ (by simp) rfl rfl; obtain ⟨v2, e2, q2⟩ := hd 25 _ _ (by simp) rfl rfl; obtain ⟨g, rfl, b1⟩ := q1; obtain ⟨h, rfl, b2⟩ := q2; obtain ⟨d, op, ty, p, af, gg⟩ := o; simp only at ho; subst ho; have ec : ∀ v, a.eval (.const v) = v := fun _ => rfl; exact Runs.val (by unfold execOp; generalize a.eval = ev at e1 e2 ec ⊢; simp only [e1, e2, ec]; go_simp) ⟨Lat.refl _, fun _ => ⟨_, _, rfl, b1, b2⟩⟩) ?_
 refine AllSteps.next (fun _ _ _ h _ => h) (fun j b h => by cases h; exact ⟨_, rfl, ⟨_, rfl⟩, by simp, fun _ _ h => h⟩) (fun a w hl hb hd o ho => by obtain ⟨v1, e1, q1⟩ := hd 23 _ _ (by simp) rfl rfl; obtain ⟨v2, e2, q2⟩ := hd 26 _ _ (by simp) rfl rfl; obtain ⟨gp0, rfl, bp0⟩ := q1; obtain ⟨ga, ha, rfl, ba, bb⟩ := q2; exact Runs.call (yv_call (f := 33) (fun _ => by go_simp) o ho (by simp only [List.map_toArray, List.map_cons, List.map_nil, eval_const, e1, e2])) ((HG3 w hl gp0 bp0 ga ba ha bb).mono fun e w' h => ⟨_, h.1, h.2, fun _ => rfl⟩)) ?_
 refine AllSteps.next (fun _ _ _ h _ => h) (fun j b h => by cases h) (fun a w hl hb hd o ho => by obtain ⟨v1, e1, q1⟩ := hd 22 _ _ (by simp) rfl rfl; obtain ⟨v2, e2, q2⟩ := hd 27 _ _ (by simp) rfl rfl; subst q1; subst q2; exact Runs.val (yv_pick (S := fun _ => True) e1 e2 o w ho trivial) ⟨Lat.refl _, fun _ => rfl⟩) ?_
 refine AllSteps.next (fun _ _ _ h _ => h) (fun j b h => by cases h) (fun a w hl hb hd o ho => by obtain ⟨v1, e1, q1⟩ := hd 28 _ _ (by simp) rfl rfl; subst q1; exact Runs.val (yv_move (S := fun _ => True) e1 o w ho trivial) ⟨Lat.refl _, fun _ => rfl⟩) ?_
 refine AllSteps.next (fun v w w' h l => by obtain ⟨g, h1, h2⟩ := h; exact ⟨g, h1, h2.later l⟩) (fun j b h => by cases h; exact ⟨_, rfl, ⟨_, rfl⟩, by simp, fun _ _ h => h⟩) (fun a w hl hb hd o ho => by obtain ⟨d, op, ty, p, af, g⟩ := o; simp only at ho; subst ho; have ec : ∀ v, a.eval (.const v) = v := fun _ => rfl; exact Runs.new (w' := w.alloc (.cells #[.int .i64 9, .int .i64 1] 3)) (by unfold execOp; generalize a.eval = ev at ec ⊢; simp only [ec]; go_simp) ⟨Lat.alloc _ _, fun _ => ⟨_, rfl, Blk.new _ _ _⟩⟩) ?_
 refine AllSteps.next (fun v w w' h l => by obtain ⟨g, h1, h2⟩ := h; exact ⟨g, h1, h2.later l⟩) (fun j b h => by cases h; exact ⟨_, rfl, ⟨_, rfl⟩, by simp, fun _ _ h => h⟩) (fun a w hl hb hd o ho => by obtain ⟨d, op, ty, p, af, g⟩ := o; simp only at ho; subst ho; have ec : ∀ v, a.eval (.const v) = v := fun _ => rfl; exact Runs.new (w' := w.alloc (.cells #[.int .i64 0, .int .i64 2] 3)) (by unfold execOp; generalize a.eval = ev at ec ⊢; simp only [ec]; go_simp) ⟨Lat.alloc _ _, fun _ => ⟨_, rfl, Blk.new _ _ _⟩⟩) ?_
 refine AllSteps.next (fun v w w' h l => by obtain ⟨g, h1, h2⟩ := h; exact ⟨g, h1, h2.later l⟩) (fun j b h => by cases h; exact ⟨_, rfl, ⟨_, rfl⟩, by simp, fun _ _ h => h⟩) (fun a w hl hb hd o ho => by obtain ⟨d, op, ty, p, af, g⟩ := o; simp only at ho; subst ho; have ec : ∀ v, a.eval (.const v) = v := fun _ => rfl; exact Runs.new (w' := w.alloc (.cells #[.int .i64 2, .int .i64 2] 3)) (by unfold execOp; generalize a.eval = ev at ec ⊢; simp only [ec]; go_simp) ⟨Lat.alloc _ _, fun _ => ⟨_, rfl, Blk.new _ _ _⟩⟩) ?_
 refine AllSteps.next (fun v w w' h l => by obtain ⟨g, h1, h2⟩ := h; exact ⟨g, h1, h2.later l⟩) (fun j b h => by cases h; exact ⟨_, rfl, ⟨_, rfl⟩, by simp, fun _ _ h => h⟩) (fun a w hl hb hd o ho => by obtain ⟨v1, e1, q1⟩ := hd 32 _ _ (by simp) rfl rfl; obtain ⟨g, rfl, b1⟩ := q1; obtain ⟨d, op, ty, p, af, gg⟩ := o; simp only at ho; subst ho; have ec : ∀ v, a.eval (.const v) = v := fun _ => rfl; exact Runs.val (by unfold execOp; generalize a.eval = ev at e1 ec ⊢; simp only [e1, ec]; go_simp) ⟨Lat.refl _, fun _ => ⟨_, rfl, b1⟩⟩) ?_
 refine AllSteps.next (fun _ _ _ h _ => h) (fun j b h => by cases h; exact ⟨_, rfl, ⟨_, rfl⟩, by simp, fun _ _ h => h⟩) (fun a w hl hb hd o ho => by obtain ⟨v1, e1, q1⟩ := hd 30 _ _ (by simp) rfl rfl; obtain ⟨v2, e2, q2⟩ := hd 31 _ _ (by simp) rfl rfl; obtain ⟨v3, e3, q3⟩ := hd 33 _ _ (by simp) rfl rfl; obtain ⟨gp0, rfl, bp0⟩ := q1; obtain ⟨gp1, rfl, bp1⟩ := q2; obtain ⟨ga, rfl, ba⟩ := q3; exact Runs.call (yv_call (f := 33) (fun _ => by go_simp) o ho (by simp only [List.map_toArray, List.map_cons, List.map_nil, eval_const, e1, e2, e3])) ((HG4 w hl gp0 bp0 gp1 bp1 ga ba).mono fun e w' h => ⟨_, h.1, h.2, fun _ => rfl⟩)) ?_
 refine AllSteps.next (fun _ _ _ h _ => h) (fun j b h => by cases h) (fun a w hl hb hd o ho => by obtain ⟨v1, e1, q1⟩ := hd 29 _ _ (by simp) rfl rfl; obtain ⟨v2, e2, q2⟩ := hd 34 _ _ (by simp) rfl rfl; subst q1; subst q2; exact Runs.val (yv_pick (S := fun _ => True) e1 e2 o w ho trivial) ⟨Lat.refl _, fun _ => rfl⟩) ?_
 refine AllSteps.next (fun _ _ _ h _ => h) (fun j b h => by cases h) (fun a w hl hb hd o ho => by obtain ⟨v1, e1, q1⟩ := hd 35 _ _ (by simp) rfl rfl; subst q1; exact Runs.val (yv_move (S := fun _ => True) e1 o w ho trivial) ⟨Lat.refl _, fun _ => rfl⟩) ?_
 refine AllSteps.next (fun _ _ _ h _ => h) (fun j b h => by cases h; exact ⟨_, rfl, ⟨_, rfl⟩, by simp, fun _ _ h => h⟩) (fun a w hl hb hd o ho => by have e1 := hb 9 _ rfl; exact Runs.val (yv_move (S := fun _ => True) e1 o w ho trivial) ⟨Lat.refl _, fun _ => rfl⟩) ?_
 refine AllSteps.next (fun _ _ _ h _ => h) (fun j b h => by cases h; exact ⟨_, rfl, ⟨_, rfl⟩, by simp, fun _ _ h => h⟩) (fun a w hl hb hd o ho => by obtain ⟨v1, e1, q1⟩ := hd 37 _ _ (by simp) rfl rfl; subst q1; exact Runs.val (S_eql31 e1 o w ho (by decide)) ⟨Lat.refl _, fun _ => rfl⟩) ?_
 refine AllSteps.next (fun _ _ _ h _ => h) (fun j b h => by cases h) (fun a w hl hb hd o ho => by obtain ⟨v1, e1, q1⟩ := hd 36 _ _ (by simp) rfl rfl; obtain ⟨v2, e2, q2⟩ := hd 38 _ _ (by simp) rfl rfl; subst q1; subst q2; exact Runs.val (yv_pick (S := fun _ => True) e1 e2 o w ho trivial) ⟨Lat.refl _, fun _ => rfl⟩) ?_
 refine AllSteps.next (fun _ _ _ h _ => h) (fun j b h => by cases h) (fun a w hl hb hd o ho => by obtain ⟨v1, e1, q1⟩ := hd 39 _ _ (by simp) rfl rfl; subst q1; exact Runs.val (yv_move (S := fun _ => True) e1 o w ho trivial) ⟨Lat.refl _, fun _ => rfl⟩) ?_
 refine AllSteps.next (fun _ _ _ h _ => h) (fun j b h => by cases h; exact ⟨_, rfl, ⟨_, rfl⟩, by simp, fun _ _ h => h⟩) (fun a w hl hb hd o ho => by have e1 := hb 10 _ rfl; exact Runs.val (yv_move (S := fun _ => True) e1 o w ho trivial) ⟨Lat.refl _, fun _ => rfl⟩) ?_
 refine AllSteps.next (fun v w w' h l => by obtain ⟨g, h1, h2⟩ := h; exact ⟨g, h1, h2.later l⟩) (fun j b h => by cases h; exact ⟨_, rfl, ⟨_, rfl⟩, by simp, fun _ _ h => h⟩) (fun a w hl hb hd o ho => by obtain ⟨d, op, ty, p, af, g⟩ := o; simp only at ho; subst ho; have ec : ∀ v, a.eval (.const v) = v := fun _ => rfl; exact Runs.new (w' := w.alloc (.cells #[.int .i64 1, .int .i64 2] 3)) (by unfold execOp; generalize a.eval = ev at ec ⊢; simp only [ec]; go_simp) ⟨Lat.alloc _ _, fun _ => ⟨_, rfl, Blk.new _ _ _⟩⟩) ?_
 refine AllSteps.next (fun _ _ _ h _ => h) (fun j b h => by cases h; exact ⟨_, rfl, ⟨_, rfl⟩, by simp, fun _ _ h => h⟩) (fun a w hl hb hd o ho => by obtain ⟨v1, e1, q1⟩ := hd 41 _ _ (by simp) rfl rfl; subst q1; obtain ⟨v2, e2, q2⟩ := hd 42 _ _ (by simp) rfl rfl; obtain ⟨g2, rfl, b2⟩ := q2; exact Runs.call (yv_call (f := 31) (fun _ => by go_simp) o ho (by simp only [List.map_toArray, List.map_cons, List.map_nil, e1, e2])) ((HEI w hl g2 b2).mono fun e w' h => ⟨_, h.1, h.2, fun _ => rfl⟩)) ?_
 refine AllSteps.next (fun _ _ _ h _ => h) (fun j b h => by cases h) (fun a w hl hb hd o ho => by obtain ⟨v1, e1, q1⟩ := hd 40 _ _ (by simp) rfl rfl; obtain ⟨v2, e2, q2⟩ := hd 43 _ _ (by simp) rfl rfl; subst q1; subst q2; exact Runs.val (yv_pick (S := fun _ => True) e1 e2 o w ho trivial) ⟨Lat.refl _, fun _ => rfl⟩) ?_
 refine AllSteps.next (fun _ _ _ h _ => h) (fun j b h => by cases h) (fun a w hl hb hd o ho => by obtain ⟨v1, e1, q1⟩ := hd 44 _ _ (by simp) rfl rfl; subst q1; exact Runs.val (yv_move (S := fun _ => True) e1 o w ho trivial) ⟨Lat.refl _, fun _ => rfl⟩) ?_
 refine AllSteps.next (fun _ _ _ h _ => h) (fun j b h => by cases h; exact ⟨_, rfl, ⟨_, rfl⟩, by simp, fun _ _ h => h⟩) (fun a w hl hb hd o ho => by have e1 := hb 11 _ rfl; exact Runs.val (yv_move (S := fun _ => True) e1 o w ho trivial) ⟨Lat.refl _, fun _ => rfl⟩) ?_
 refine AllSteps.next (fun _ _ _ h _ => h) (fun j b h => by cases h; exact ⟨_, rfl, ⟨_, rfl⟩, by simp, fun _ _ h => h⟩) (fun a w hl hb hd o ho => by obtain ⟨v1, e1, q1⟩ := hd 46 _ _ (by simp) rfl rfl; subst q1; exact Runs.val (S_eql31 e1 o w ho (by decide)) ⟨Lat.refl _, fun _ => rfl⟩) ?_
 refine AllSteps.next (fun _ _ _ h _ => h) (fun j b h => by cases h) (fun a w hl hb hd o ho => by obtain ⟨v1, e1, q1⟩ := hd 45 _ _ (by simp) rfl rfl; obtain ⟨v2, e2, q2⟩ := hd 47 _ _ (by simp) rfl rfl; subst q1; subst q2; exact Runs.val (yv_pick (S := fun _ => True) e1 e2 o w ho trivial) ⟨Lat.refl _, fun _ => rfl⟩) ?_
 refine AllSteps.next (fun _ _ _ h _ => h) (fun j b h => by cases h) (fun a w hl hb hd o ho => by obtain ⟨v1, e1, q1⟩ := hd 48 _ _ (by simp) rfl rfl; subst q1; exact Runs.val (yv_move (S := fun _ => True) e1 o w ho trivial) ⟨Lat.refl _, fun _ => rfl⟩) ?_
 refine AllSteps.next (fun _ _ _ h _ => h) (fun j b h => by cases h; exact ⟨_, rfl, ⟨_, rfl⟩, by simp, fun _ _ h => h⟩) (fun a w hl hb hd o ho => by have e1 := hb 12 _ rfl; exact Runs.val (yv_move (S := fun _ => True) e1 o w ho trivial) ⟨Lat.refl _, fun _ => rfl⟩) ?_
 refine AllSteps.next (fun _ _ _ h _ => h) (fun j b h => by cases h; exact ⟨_, rfl, ⟨_, rfl⟩, by simp, fun _ _ h => h⟩) (fun a w hl hb hd o ho => by obtain ⟨v1, e1, q1⟩ := hd 50 _ _ (by simp) rfl rfl; subst q1; exact Runs.val (S_eql3 e1 o w ho (by decide)) ⟨Lat.refl _, fun _ => rfl⟩) ?_
 refine AllSteps.next (fun _ _ _ h _ => h) (fun j b h => by cases h) (fun a w hl hb hd o ho => by obtain ⟨v1, e1, q1⟩ := hd 49 _ _ (by simp) rfl rfl; obtain ⟨v2, e2, q2⟩ := hd 51 _ _ (by simp) rfl rfl; subst q1; subst q2; exact Runs.val (yv_pick (S := fun _ => True) e1 e2 o w ho trivial) ⟨Lat.refl _, fun _ => rfl⟩) ?_
 refine AllSteps.next (fun _ _ _ h _ => h) (fun j b h => by cases h) (fun a w hl hb hd o ho => by obtain ⟨v1, e1, q1⟩ := hd 52 _ _ (by simp) rfl rfl; subst q1; exact Runs.val (yv_move (S := fun _ => True) e1 o w ho trivial) ⟨Lat.refl _, fun _ => rfl⟩) ?_
 refine AllSteps.next (fun _ _ _ h _ => h) (fun j b h => by cases h; exact ⟨_, rfl, ⟨_, rfl⟩, by simp, fun _ _ h => h⟩) (fun a w hl hb hd o ho => by have e1 := hb 13 _ rfl; exact Runs.val (yv_move (S := fun _ => True) e1 o w ho trivial) ⟨Lat.refl _, fun _ => rfl⟩) ?_
 refine AllSteps.next (fun _ _ _ h _ => h) (fun j b h => by cases h; exact ⟨_, rfl, ⟨_, rfl⟩, by simp, fun _ _ h => h⟩) (fun a w hl hb hd o ho => by obtain ⟨v1, e1, q1⟩ := hd 54 _ _ (by simp) rfl rfl; subst q1; exact Runs.val (S_eql31 e1 o w ho (by decide)) ⟨Lat.refl _, fun _ => rfl⟩) ?_
 refine AllSteps.next (fun _ _ _ h _ => h) (fun j b h => by cases h) (fun a w hl hb hd o ho => by obtain ⟨v1, e1, q1⟩ := hd 53 _ _ (by simp) rfl rfl; obtain ⟨v2, e2, q2⟩ := hd 55 _ _ (by simp) rfl rfl; subst q1; subst q2; exact Runs.val (yv_pick (S := fun _ => True) e1 e2 o w ho trivial) ⟨Lat.refl _, fun _ => rfl⟩) ?_
 refine AllSteps.next (fun _ _ _ h _ => h) (fun j b h => by cases h) (fun a w hl hb hd o ho => by obtain ⟨v1, e1, q1⟩ := hd 56 _ _ (by simp) rfl rfl; subst q1; exact Runs.val (yv_move (S := fun _ => True) e1 o w ho trivial) ⟨Lat.refl _, fun _ => rfl⟩) ?_
 refine AllSteps.next (fun _ _ _ h _ => h) (fun j b h => by cases h; exact ⟨_, rfl, ⟨_, rfl⟩, by simp, fun _ _ h => h⟩) (fun a w hl hb hd o ho => by exact Runs.call (yv_call (f := 15) (fun _ => by go_simp) o ho (by simp only [List.map_toArray, List.map_cons, List.map_nil, eval_const])) ((HCK w).mono fun e w' h => ⟨_, h.1, h.2, fun _ => rfl⟩)) ?_
 refine AllSteps.next (fun _ _ _ h _ => h) (fun j b h => by cases h; exact ⟨_, rfl, ⟨_, rfl⟩, by simp, fun _ _ h => h⟩) (fun a w hl hb hd o ho => by obtain ⟨v1, e1, q1⟩ := hd 58 _ _ (by simp) rfl rfl; subst q1; exact Runs.val (S_eql31 e1 o w ho (by decide)) ⟨Lat.refl _, fun _ => rfl⟩) ?_
 refine AllSteps.next (fun _ _ _ h _ => h) (fun j b h => by cases h) (fun a w hl hb hd o ho => by obtain ⟨v1, e1, q1⟩ := hd 57 _ _ (by simp) rfl rfl; obtain ⟨v2, e2, q2⟩ := hd 59 _ _ (by simp) rfl rfl; subst q1; subst q2; exact Runs.val (yv_pick (S := fun _ => True) e1 e2 o w ho trivial) ⟨Lat.refl _, fun _ => rfl⟩) ?_
 refine AllSteps.next (fun _ _ _ h _ => h) (fun j b h => by cases h) (fun a w hl hb hd o ho => by obtain ⟨v1, e1, q1⟩ := hd 60 _ _ (by simp) rfl rfl; subst q1; exact Runs.val (yv_assignS (S := fun _ => True) e1 o w ho trivial) ⟨Lat.refl _, fun _ => rfl⟩) ?_
 exact AllSteps.none
end Go.Proofs.YtbgngmamnonlbaaGreat
namespace Go.Proofs.YtbgngmamnonlbaaGreat
open Go.RowKit
set_option linter.unusedSimpArgs false
set_option linter.unusedVariables false
def Yes6 (w : World) (e : Ending) (w' : World) : Prop := e = .returned (.bool true) ∧ Lat w w'
theorem gq1 : giveQ 1 [7, 3] [0, 0] 4 = some ⟨[3, 1], [], 0, []⟩ := by rfl
theorem gq2 : giveQ 1 [5, 3, 1, 1] [0, 0, 0, 0] 5 = some ⟨[2, 1, 0, 0], [0, 1, 2, 3], 2, []⟩ := by rfl
theorem gq3 : giveQ 1 [2, 2] [0, 0] 3 = some ⟨[1, 1], [0, 1], 1, []⟩ := by rfl
theorem gq4 : giveQ 1 [9, 1] [0, 2] 4 = some ⟨[2, 2], [], 0, []⟩ := by rfl
theorem gq5 : giveQ 4 [1, 1] [0, 0] 2 = none := by rfl
theorem st1 : setl [1, 0] [0, 1] 1 = ([1], 0) := by rfl
theorem qt1 : qtR (quoN 1 [7, 3].sum 4) (quoD 1 4) [7, 3] = [(shA 14 5).toList, (shA 6 5).toList] := by
 have h : ∀ a b c d : Int, lowN a b = lowN c d → lowD a b = lowD c d → shA a b = shA c d := fun a b c d h1 h2 => by unfold shA; rw [h1, h2]
 have e1 : shA (7 * 4) 10 = shA 14 5 := h _ _ _ _ (by decide) (by decide)
 have e2 : shA (3 * 4) 10 = shA 6 5 := h _ _ _ _ (by decide) (by decide)
 show [(shA (7 * 4) 10).toList, (shA (3 * 4) 10).toList] = _
 rw [e1, e2]
theorem Sl.lit {w : World} {g : Nat} {xs : List Int} (h : Blk w g 3 (nums .i64 xs)) : Sl w .i64 (some ⟨g, 0, none⟩) xs.length xs := Sl.of_blk h
theorem give_lit {P L : List Int} {k s : Int} {F : Option Aw} (hF : giveQ k P (if L = [] then List.replicate P.length 0 else L) s = F) (hn1 : 0 < P.length) (hn : P.length < 20) (hc : censusB P = true) (hs1 : 1 ≤ s) (hs2 : s ≤ 1000) (hk1 : 1 ≤ k) (hk4 : k ≤ 4)
  (hL : L = [] ∨ (L.length = P.length ∧ (∀ x ∈ L, 0 ≤ x ∧ x ≤ s) ∧ L.sum ≤ s)) (A1 : Option Addr) (c1 : Nat) (Al : Option Addr) (cl : Nat) (w : World) (hP : Sl w .i64 A1 P.length P) (hl : Sl w .i64 Al L.length L) :
  Calls Tryz.prog 25 #[.slice A1 P.length c1, .int .i64 s, .int .i64 k, .slice Al L.length cl] w (GivP w P.length F) := by
 rw [← hF]
 refine give_any A1 P.length c1 P Al L.length cl L _ s k w hP hl hn1 hn hc hs1 hs2 hk1 hk4 ?_
 rcases hL with rfl | ⟨h1, h2, h3⟩
 ·exact lowIs_nil (by omega)
 ·have : L ≠ [] := by rintro rfl; simp at h1; omega
  rw [if_neg this]
  exact ⟨h1, h2, h3, .inr ⟨h1, rfl⟩⟩
theorem gives_lit (A : Option Addr) (n c : Nat) (Al : Option Addr) (nl cl : Nat) (seats m : Int) (F : Aw) (A3 : Option Addr) (n3 c3 : Nat) (S2 : List Int) (A4 : Option Addr) (n4 c4 : Nat) (T2 : List Int) (o2 : Int) (w : World) (hs : sameB F.seats (natLL F.tied) F.left S2 T2 o2 = true)
  (HR : ∀ w', Lat w w' → Calls Tryz.prog 25 #[.slice A n c, .int .i64 seats, .int .i64 m, .slice Al nl cl] w' (GivP w' n (some F))) (h3 : Sl w .i64 A3 n3 S2) (h4 : Sl w .i64 A4 n4 T2) (b3 : n3 ≤ 17000000000000) (b4 : n4 ≤ 17000000000000) (hb1 : n ≤ 17000000000000) (hb2 : F.tied.length ≤ 17000000000000) :
  Calls Tryz.prog 33 #[.slice A n c, .int .i64 seats, .int .i64 m, .slice Al nl cl, .agg #[.slice A3 n3 c3, .slice A4 n4 c4, .int .i64 o2]] w
   (fun e w' => e = .returned (.bool true) ∧ Lat w w') := by
 have h := gives_yes A n c Al nl cl seats m F A3 n3 c3 S2 A4 n4 c4 T2 o2 w HR h3 h4 b3 b4 hb1 hb2
 rw [hs] at h
 exact h
theorem equal_lit (A1 : Option Addr) (n1 c1 : Nat) (xs : List Int) (A2 : Option Addr) (n2 c2 : Nat) (w : World) (h1 : Sl w .i64 A1 n1 xs) (h2 : Sl w .i64 A2 n2 xs) (hn1 : n1 ≤ 17000000000000) (hn2 : n2 ≤ 17000000000000) :
  Calls Tryz.prog 31 #[.slice A1 n1 c1, .slice A2 n2 c2] w (fun e w' => e = .returned (.bool true) ∧ Lat w w') := by
 have h := equal_any A1 n1 c1 xs A2 n2 c2 xs w h1 h2 hn1 hn2
 rw [beq_self_eq_true] at h
 exact h
theorem sound_lit : Sound 2 [1, 1] [0, 1] 1 := ⟨by decide, by decide, by decide, by decide, by decide, .inr (by decide)⟩
theorem quoEs_born {X1 X2 X3 X4 : Array Value} : ∀ x ∈ (quoEs X1 X2 X3 X4).toList, x.born < 4 := by
 intro x hx
 rcases quoEs_mem hx with rfl | rfl | rfl | rfl <;> simp [mE]
theorem quoEs_nodup {X1 X2 X3 X4 : Array Value} : ((quoEs X1 X2 X3 X4).toList.map (·.born)).Nodup := by
 show ([0, 1, 2, 3] : List Nat).Nodup
 decide
set_option maxRecDepth 100000 in
set_option maxHeartbeats 8000000 in
theorem wakes6 (w : World) : Calls Tryz.prog 11 #[] w (Yes6 w) := by
 have HQE := fun e h => @quo_entry e h
 obtain ⟨X1, hX1⟩ : ∃ X, shA 5 2 = X := ⟨_, rfl⟩
 obtain ⟨X2, hX2⟩ : ∃ X, shA 3 1 = X := ⟨_, rfl⟩
 obtain ⟨X3, hX3⟩ : ∃ X, shA 2 1 = X := ⟨_, rfl⟩
 obtain ⟨X4, hX4⟩ : ∃ X, shA 5 3 = X := ⟨_, rfl⟩
 rw [hX1, hX2, hX3, hX4] at HQE
 have HA := fun w => l6_of 5 2 w (by decide) (by decide) (by decide) (by decide)
 have HB := fun w => l6_of 3 1 w (by decide) (by decide) (by decide) (by decide)
 have HC := fun w => l6_of 2 1 w (by decide) (by decide) (by decide) (by decide)
 have HD := fun w => l6_of 5 3 w (by decide) (by decide) (by decide) (by decide)
 rw [hX1] at HA
 rw [hX2] at HB
 rw [hX3] at HC
 rw [hX4] at HD
 have HQE := Lib.hid HQE
 clear hX1 hX2 hX3 hX4
 go_enter Tryz.func11, Tryz.ntmps11
 go_upto_region 2 with (fail)
 refine name1 (Q := fun W => Code.wp _ _ _ _ W) ?_
 intro W lW hsW kc
 have hmm := @run_makeMap Tryz.prog
 go_wp2_with fail
 obtain ⟨V0, hV0⟩ : ∃ Z, W.alloc (.map #[] 0) = Z := ⟨_, rfl⟩
 have m0 : MapAt V0 W.heap.size #[] 0 := by rw [← hV0]; exact World.alloc_heap_new W _
 have B0 : Lat W V0 := by rw [← hV0]; exact Lat.alloc _ _
 obtain ⟨bm, hbme⟩ : ∃ z, W.heap.size = z := ⟨_, rfl⟩
 have hbm : W.heap.size ≤ bm := by omega
 have hwb : w.heap.size < bm := by rw [← hbme]; exact kc.lt
 have kc := kc.later B0
 rw [hbme] at m0 ⊢
 rw [hV0]
 clear hV0 hbme hmm hsW
 refine (HA V0).mono ?_
 rintro e V1a ⟨rfl, la⟩
 obtain ⟨V1, i1, m1, lb1, lp1⟩ := (m0.later la).ins (B0.trans la) hbm 1 X1 (by rfl)
 have B1 := lb1
 have kc := (kc.later la).keepP lp1 (by omega)
 clear la lp1 lb1 HA B0
 go_wp2_with fail
 clear i1 m0
 refine (HB V1).mono ?_
 rintro e V2a ⟨rfl, la⟩
 obtain ⟨V2, i2, m2, lb2, lp2⟩ := (m1.later la).ins (B1.trans la) hbm 2 X2 (by rfl)
 have B2 := lb2
 have kc := (kc.later la).keepP lp2 (by omega)
 clear la lp2 lb2 HB B1
 go_wp2_with fail
 clear i2 m1
 refine (HC V2).mono ?_
 rintro e V3a ⟨rfl, la⟩
 obtain ⟨V3, i3, m3, lb3, lp3⟩ := (m2.later la).ins (B2.trans la) hbm 3 X3 (by rfl)
 have B3 := lb3
 have kc := (kc.later la).keepP lp3 (by omega)
 clear la lp3 lb3 HC B2
 go_wp2_with fail
 clear i3 m2
 refine (HD V3).mono ?_
 rintro e V4a ⟨rfl, la⟩
 obtain ⟨V4, i4, m4, lb4, lp4⟩ := (m3.later la).ins (B3.trans la) hbm 4 X4 (by rfl)
 have B4 := lb4
 have kc := (kc.later la).keepP lp4 (by omega)
 clear la lp4 lb4 HD B3
 have hrg := run_range_map (P := Tryz.prog) V4 73 3 42 bm _ 4 Tryz.underlying73 m4
 go_wp2
 clear i4 m3
 have m4 : MapAt V4 bm (quoEs X1 X2 X3 X4) 4 := m4
 obtain ⟨it, hit⟩ : ∃ z, V4.heap.size = z := ⟨_, rfl⟩
 obtain ⟨V5, hV5⟩ : ∃ Z, V4.alloc (.mapIter (some bm) 4 #[] 4) = Z := ⟨_, rfl⟩
 have i5 : V5.heap[it]? = some (.mapIter (some bm) 4 #[] 4) := by rw [← hV5, ← hit]; exact World.alloc_heap_new V4 _
 have la : Lat V4 V5 := by rw [← hV5]; exact Lat.alloc _ _
 have hbi : bm < it := by rw [← hit]; exact hlt_of m4
 have m5 := m4.later la
 have kc := kc.later la
 have L5 : Lat w V5 := lW.trans (B4.trans la)
 rw [hV5, hit]
 clear hV5 hit la m4 B4 hrg lW hbm
 go_loopw [2] (fun t2 wr => ∃ seen : Array Nat, wr.heap[it]? = some (.mapIter (some bm) 4 seen 4) ∧ MapAt wr bm (quoEs X1 X2 X3 X4) 4 ∧ Blk wr w.heap.size 3 #[.int .i64 7, .int .i64 3] ∧ LatP (· = it) V5 wr) (fun _ wr => (Go.leftOf (quoEs X1 X2 X3 X4) (wr.iterSeen it)).size)
 case atStart => exact ⟨#[], i5, m5, kc, LatP.refl _ _⟩
 case round =>
  clear i5 m5 kc
  obtain ⟨seen, hi, hm, hkc, hlr⟩ := hrel
  have hsn : wr.iterSeen it = seen := by unfold World.iterSeen; rw [hi]
  have hwit : w.heap.size ≤ it := by omega
  have Lr : Lat w wr := LatP.lat (M := (· = it)) L5 hlr (fun q e => by subst e; exact hwit)
  rcases run_next_at (P := Tryz.prog) wr 0 bm it 4 4 seen (quoEs X1 X2 X3 X4) 4 hi hm quoEs_born (Nat.le_refl _) with ⟨hz, hrun⟩ | ⟨e, he, w1, hw1, hrun⟩
  ·as_aux_lemma =>
   have K := hkc
   clear hi hm hkc hlr hz hsn HQE
   obtain ⟨g1, hg1⟩ : ∃ z, w.heap.size = z := ⟨_, rfl⟩
   rw [hg1] at K ⊢
   go_wp2_with fail
   have HQT := qQuotients_yes (some ⟨g1, 0, none⟩) 2 2 [7, 3] 4 1 wr (Sl.lit K) (by decide) (by decide) (by decide) (by decide) (by decide) (by decide)
   rw [qt1] at HQT
   refine HQT.mono ?_
   rintro e V6 ⟨l6, g6, rfl, r6, _⟩
   replace K := K.later l6
   replace Lr := Lr.trans l6
   clear l6 HQT
   go_wp2_with fail
   refine name1 (Q := fun W => Calls _ _ _ W _) ?_
   intro V7 l7 _ kg
   have r6 := r6.later l7
   replace K := K.later l7
   replace Lr := Lr.trans l7
   refine (give_lit (P := [1, 1]) (L := []) (k := 4) (s := 2) gq5 (by decide) (by decide) (by decide) (by decide) (by decide) (by decide) (by decide) (.inl rfl) (some ⟨V6.heap.size, 0, none⟩) 2 none 0 V7 (Sl.lit kg) (Sl.nil _ _ _)).mono ?_
   rintro e V8 ⟨l8, h8⟩
   obtain rfl : e = _ := h8
   have r6 := r6.later l8
   replace K := K.later l8
   replace Lr := Lr.trans l8
   clear l7 l8 kg
   go_upto_region 10 with (fail)
   refine name1 (Q := fun W => Code.wp _ _ _ _ W) ?_
   intro V9 l9 _ _
   have r6 := r6.later l9
   replace K := K.later l9
   replace Lr := Lr.trans l9
   clear l9
   go_wp2_with fail
   refine name3 (Q := fun W => Calls _ _ _ W _) ?_
   intro Y0 l0 _ q1 q2 q3
   have r6 := r6.later l0
   replace K := K.later l0
   replace Lr := Lr.trans l0
   refine (settle_yes (some ⟨V9.heap.size, 0, none⟩) 2 2 [1, 1] (some ⟨V9.heap.size + 1, 0, none⟩) 2 2 [0, 1] 1 (some ⟨V9.heap.size + 1 + 1, 0, none⟩) 2 2 [1, 0] Y0 (Sl.lit q1) (Sl.lit q2) (Sl.lit q3) sound_lit (by decide) (by decide)).mono ?_
   rintro e Y1 ⟨l1, h1⟩
   rw [st1] at h1
   rcases h1 with ⟨_, g10, c10, rfl, r10, _, _⟩ | ⟨h1, _⟩
   rotate_left
   ·exact absurd rfl h1
   have r6 := r6.later l1
   replace K := K.later l1
   replace Lr := Lr.trans l1
   clear l0 l1 q1 q2 q3
   go_wp2_with fail
   refine (qTotal_yes (some ⟨g1, 0, none⟩) 2 2 [7, 3] Y1 (Sl.lit K) (by decide) (by decide)).mono ?_
   rintro e Y4 ⟨rfl, l4⟩
   have r6 := r6.later l4
   replace r10 := r10.later l4
   replace K := K.later l4
   replace Lr := Lr.trans l4
   clear l4
   obtain ⟨ya, yb, hy1⟩ : ∃ u v : W8, shA 14 5 = #[.int .u64 u.a0, .int .u64 u.a1, .int .u64 u.a2, .int .u64 u.a3, .int .u64 u.a4, .int .u64 u.a5, .int .u64 u.a6, .int .u64 u.a7, .int .u64 v.a0, .int .u64 v.a1, .int .u64 v.a2, .int .u64 v.a3, .int .u64 v.a4, .int .u64 v.a5, .int .u64 v.a6, .int .u64 v.a7] := ⟨_, _, rfl⟩
   obtain ⟨yc, yd, hy2⟩ : ∃ u v : W8, shA 6 5 = #[.int .u64 u.a0, .int .u64 u.a1, .int .u64 u.a2, .int .u64 u.a3, .int .u64 u.a4, .int .u64 u.a5, .int .u64 u.a6, .int .u64 u.a7, .int .u64 v.a0, .int .u64 v.a1, .int .u64 v.a2, .int .u64 v.a3, .int .u64 v.a4, .int .u64 v.a5, .int .u64 v.a6, .int .u64 v.a7] := ⟨_, _, rfl⟩
   have HO1 := Lib.hid (fun w => l6_of 14 5 w (by decide) (by decide) (by decide) (by decide))
   have HO2 := Lib.hid (fun w => l6_of 6 5 w (by decide) (by decide) (by decide) (by decide))
   have HEQ := Lib.hid (fun w (h : Lat Y4 w) (g2 : Nat) (b2 : RowB w g2 42 16 [(shA 14 5).toList, (shA 6 5).toList]) => equalS_yes g6 2 2 g2 2 _ w (r6.later h) b2 rfl (by decide) (fun x hx w => by
    simp only [List.mem_cons, List.not_mem_nil, or_false] at hx
    rcases hx with rfl | rfl
    ·exact (shA_good 14 5).neq w
    ·exact (shA_good 6 5).neq w))
   rw [hy1] at HO1 HEQ
   rw [hy2] at HO2 HEQ
   have HEI := Lib.hid (fun w (h : Lat Y4 w) (g2 : Nat) (b2 : Blk w g2 3 #[.int .i64 1, .int .i64 2]) => equal_lit (some ⟨g10, 0, none⟩) 2 c10 [1, 2] (some ⟨g2, 0, none⟩) 2 2 w (r10.sl.later h) (Sl.lit b2) (by decide) (by decide))
   have HCK := Lib.hid (fun w => (qCheck_any none 0 0 [] w (Sl.nil _ _ _) (by decide)).mono (fun e w' (h : e = .returned (.int .i64 60) ∧ w = w') => (⟨h.1, h.2 ▸ Lat.refl w⟩ : e = .returned (.int .i64 60) ∧ Lat w w')))
   have HG1 := Lib.hid (fun w (h : Lat Y4 w) (ga : Nat) (ba : Blk w ga 3 #[.int .i64 3, .int .i64 1]) => gives_lit (some ⟨g1, 0, none⟩) 2 2 none 0 0 4 1 ⟨[3, 1], [], 0, []⟩ (some ⟨ga, 0, none⟩) 2 2 [3, 1] none 0 0 [] 0 w (by decide) (fun w' h' => give_lit (P := [7, 3]) (L := []) (k := 1) (s := 4) gq1 (by decide) (by decide) (by decide) (by decide) (by decide) (by decide) (by decide) (.inl rfl) (some ⟨g1, 0, none⟩) 2 none 0 w' (Sl.lit ((K.later h).later h')) (Sl.nil _ _ _)) (Sl.lit ba) (Sl.nil _ _ _) (by decide) (by decide) (by decide) (by decide))
   have HG2 := Lib.hid (fun w (h : Lat Y4 w) (gp0 : Nat) (bp0 : Blk w gp0 3 #[.int .i64 5, .int .i64 3, .int .i64 1, .int .i64 1]) (ga : Nat) (ba : Blk w ga 3 #[.int .i64 2, .int .i64 1, .int .i64 0, .int .i64 0]) (ha : Nat) (bb : Blk w ha 3 #[.int .i64 0, .int .i64 1, .int .i64 2, .int .i64 3]) => gives_lit (some ⟨gp0, 0, none⟩) 4 4 none 0 0 5 1 ⟨[2, 1, 0, 0], [0, 1, 2, 3], 2, []⟩ (some ⟨ga, 0, none⟩) 4 4 [2, 1, 0, 0] (some ⟨ha, 0, none⟩) 4 4 [0, 1, 2, 3] 2 w (by decide) (fun w' h' => give_lit (P := [5, 3, 1, 1]) (L := []) (k := 1) (s := 5) gq2 (by decide) (by decide) (by decide) (by decide) (by decide) (by decide) (by decide) (.inl rfl) (some ⟨gp0, 0, none⟩) 4 none 0 w' (Sl.lit (bp0.later h')) (Sl.nil _ _ _)) (Sl.lit ba) (Sl.lit bb) (by decide) (by decide) (by decide) (by decide))
   have HG3 := Lib.hid (fun w (h : Lat Y4 w) (gp0 : Nat) (bp0 : Blk w gp0 3 #[.int .i64 2, .int .i64 2]) (ga : Nat) (ba : Blk w ga 3 #[.int .i64 1, .int .i64 1]) (ha : Nat) (bb : Blk w ha 3 #[.int .i64 0, .int .i64 1]) => gives_lit (some ⟨gp0, 0, none⟩) 2 2 none 0 0 3 1 ⟨[1, 1], [0, 1], 1, []⟩ (some ⟨ga, 0, none⟩) 2 2 [1, 1] (some ⟨ha, 0, none⟩) 2 2 [0, 1] 1 w (by decide) (fun w' h' => give_lit (P := [2, 2]) (L := []) (k := 1) (s := 3) gq3 (by decide) (by decide) (by decide) (by decide) (by decide) (by decide) (by decide) (.inl rfl) (some ⟨gp0, 0, none⟩) 2 none 0 w' (Sl.lit (bp0.later h')) (Sl.nil _ _ _)) (Sl.lit ba) (Sl.lit bb) (by decide) (by decide) (by decide) (by decide))
   have HG4 := Lib.hid (fun w (h : Lat Y4 w) (gp0 : Nat) (bp0 : Blk w gp0 3 #[.int .i64 9, .int .i64 1]) (gp1 : Nat) (bp1 : Blk w gp1 3 #[.int .i64 0, .int .i64 2]) (ga : Nat) (ba : Blk w ga 3 #[.int .i64 2, .int .i64 2]) => gives_lit (some ⟨gp0, 0, none⟩) 2 2 (some ⟨gp1, 0, none⟩) 2 2 4 1 ⟨[2, 2], [], 0, []⟩ (some ⟨ga, 0, none⟩) 2 2 [2, 2] none 0 0 [] 0 w (by decide) (fun w' h' => give_lit (P := [9, 1]) (L := [0, 2]) (k := 1) (s := 4) gq4 (by decide) (by decide) (by decide) (by decide) (by decide) (by decide) (by decide) (.inr (by decide)) (some ⟨gp0, 0, none⟩) 2 (some ⟨gp1, 0, none⟩) 2 w' (Sl.lit (bp0.later h')) (Sl.lit (bp1.later h'))) (Sl.lit ba) (Sl.nil _ _ _) (by decide) (by decide) (by decide) (by decide))
   clear r6 r10 K hy1 hy2
   go_upto_region 12 with (fail)
   rename_i KN hKN
   refine wp_region_slotsB (wk6_rows g1 g6 g10 c10 ya yb yc yd) (wk6_base g1 g6 g10 c10 ya yb yc yd _ _ _ _ _ _ _ _ _ _ _ _ _ _ _ _ _ _ _ _ _ _ _ _ _ _ _ _ _ _ _ _ _ _ _ _ _ _ _ _ _ _ _ _ _ _ _ _ _ _ _ _ _ _) 124 62 [[], [], [1], [1, 2], [0, 3, 2], [4, 4], [5], [6, 5], [5, 7], [8, 5], [9], [9], [11, 9], [10, 12, 9, 9], [9, 13], [14, 13], [15], [15], [15], [17, 18, 15], [16, 19, 15, 15], [15, 20], [21, 20], [22], [22], [22], [24, 25, 22], [23, 26, 22, 22], [22, 27], [28, 27], [29], [29], [29], [32, 29], [30, 31, 33, 29, 29], [29, 34], [35, 34], [36], [37, 36], [36, 38], [39, 36], [40], [40], [41, 42, 40, 40], [40, 43], [44, 43], [45], [46, 45], [45, 47], [48, 45], [49], [50, 49], [49, 51], [52, 49], [53], [54, 53], [53, 55], [56, 53], [57, 57], [58, 57], [57, 59], [60, 58, 0, 1, 2, 3, 4, 5, 6, 7, 8, 9, 10, 11, 12, 13, 14, 15, 16, 17, 18, 19, 20, 21, 22, 23, 24, 25, 26, 27, 28, 29, 30, 31, 32, 33, 34, 35, 36, 37, 38, 39, 40, 41, 42, 43, 44, 45, 46, 47, 48, 49, 50, 51, 52, 53, 54, 55, 56, 57, 58, 59, 60]] (by kernel_rfl) (by kernel_rfl) (by kernel_rfl) (by kernel_rfl) (by kernel_rfl) (by kernel_rfl) (by rfl) rfl (base_of (base_cons rfl (base_cons rfl (base_cons rfl (base_cons rfl (base_cons rfl (base_cons rfl (base_cons rfl (base_cons rfl (base_cons rfl (base_cons rfl (base_cons rfl (base_cons rfl (base_cons rfl (base_cons rfl (base_cons rfl (base_cons rfl (base_cons rfl (base_cons rfl (base_cons rfl (base_cons rfl (base_cons rfl (base_cons rfl (base_cons rfl (base_cons rfl (base_cons rfl (base_cons rfl (base_cons rfl (base_cons rfl (base_cons rfl (base_cons rfl (base_cons rfl (base_cons rfl (base_cons rfl (base_cons rfl (base_cons rfl (base_cons rfl (base_cons rfl (base_cons rfl (base_cons rfl (base_cons rfl (base_cons rfl (base_cons rfl (base_cons rfl (base_cons rfl (base_cons rfl (base_cons rfl (base_cons rfl (base_cons rfl (base_cons rfl (base_cons rfl (base_cons rfl (base_cons rfl (base_cons rfl (base_cons rfl (base_cons rfl (base_cons rfl (base_cons rfl (base_cons rfl (base_cons rfl (base_cons rfl (base_cons rfl (base_cons rfl (base_nil _)))))))))))))))))))))))))))))))))))))))))))))))))))))))))))))))) (wk6_steps Y4 g1 g6 g10 c10 ya yb yc yd _ _ _ _ _ _ _ _ _ _ _ _ _ _ _ _ _ _ _ _ _ _ _ _ _ _ _ _ _ _ _ _ _ _ _ _ _ _ _ _ _ _ _ _ _ _ _ _ _ _ _ _ _ _ HO1.out HO2.out HEQ.out HG1.out HG2.out HG3.out HG4.out HEI.out HCK.out) ?_
   ·intro a9 W9 hsz9 hdf9 hL9 hbs hsl
    obtain ⟨v9, h9, q9⟩ := hsl 61 _ _ rfl rfl
    obtain rfl : v9 = .bool true := q9
    have w0 := slot_getD h9
    clear h9
    refine hKN _ _ ?_
    obtain ⟨T9, df9⟩ := a9
    obtain rfl : df9 = [] := hdf9
    obtain ⟨f, hf, rfl⟩ := spell124 T9 hsz9
    have x1 : f 1 = .slice (some ⟨g1, 0, none⟩) 2 2 := (hf 1).trans (slot_getD (hbs 1 _ rfl))
    have x6 : f 6 = .slice (some ⟨g6, 0, none⟩) 2 2 := (hf 6).trans (slot_getD (hbs 6 _ rfl))
    have x7 : f 7 = .int .i64 0 := (hf 7).trans (slot_getD (hbs 7 _ rfl))
    have x9 : f 9 = .int .i64 9 := (hf 9).trans (slot_getD (hbs 9 _ rfl))
    have x10 : f 10 = .slice (some ⟨g10, 0, none⟩) 2 c10 := (hf 10).trans (slot_getD (hbs 10 _ rfl))
    have x11 : f 11 = .int .i64 0 := (hf 11).trans (slot_getD (hbs 11 _ rfl))
    have x12 : f 12 = .int .i64 10 := (hf 12).trans (slot_getD (hbs 12 _ rfl))
    have x13 : f 13 = .int .i64 0 := (hf 13).trans (slot_getD (hbs 13 _ rfl))
    have x2 := (hf 2).trans (slot_getD (hbs 2 _ rfl))
    have x3 := (hf 3).trans (slot_getD (hbs 3 _ rfl))
    have x4 := (hf 4).trans (slot_getD (hbs 4 _ rfl))
    have x5 := (hf 5).trans (slot_getD (hbs 5 _ rfl))
    have x8 := (hf 8).trans (slot_getD (hbs 8 _ rfl))
    have x14 := (hf 14).trans (slot_getD (hbs 14 _ rfl))
    have x15 := (hf 15).trans (slot_getD (hbs 15 _ rfl))
    have x16 := (hf 16).trans (slot_getD (hbs 16 _ rfl))
    have x17 := (hf 17).trans (slot_getD (hbs 17 _ rfl))
    have x18 := (hf 18).trans (slot_getD (hbs 18 _ rfl))
    have x19 := (hf 19).trans (slot_getD (hbs 19 _ rfl))
    have x20 := (hf 20).trans (slot_getD (hbs 20 _ rfl))
    have x21 := (hf 21).trans (slot_getD (hbs 21 _ rfl))
    have x22 := (hf 22).trans (slot_getD (hbs 22 _ rfl))
    have x23 := (hf 23).trans (slot_getD (hbs 23 _ rfl))
    have x24 := (hf 24).trans (slot_getD (hbs 24 _ rfl))
    have x25 := (hf 25).trans (slot_getD (hbs 25 _ rfl))
    have x26 := (hf 26).trans (slot_getD (hbs 26 _ rfl))
    have x27 := (hf 27).trans (slot_getD (hbs 27 _ rfl))
    have x28 := (hf 28).trans (slot_getD (hbs 28 _ rfl))
    have x29 := (hf 29).trans (slot_getD (hbs 29 _ rfl))
    have x30 := (hf 30).trans (slot_getD (hbs 30 _ rfl))
    have x31 := (hf 31).trans (slot_getD (hbs 31 _ rfl))
    have x32 := (hf 32).trans (slot_getD (hbs 32 _ rfl))
    have x33 := (hf 33).trans (slot_getD (hbs 33 _ rfl))
    have x34 := (hf 34).trans (slot_getD (hbs 34 _ rfl))
    have x35 := (hf 35).trans (slot_getD (hbs 35 _ rfl))
    have x36 := (hf 36).trans (slot_getD (hbs 36 _ rfl))
    have x37 := (hf 37).trans (slot_getD (hbs 37 _ rfl))
    have x38 := (hf 38).trans (slot_getD (hbs 38 _ rfl))
    have x39 := (hf 39).trans (slot_getD (hbs 39 _ rfl))
    have x40 := (hf 40).trans (slot_getD (hbs 40 _ rfl))
    have x41 := (hf 41).trans (slot_getD (hbs 41 _ rfl))
    have x42 := (hf 42).trans (slot_getD (hbs 42 _ rfl))
    have x43 := (hf 43).trans (slot_getD (hbs 43 _ rfl))
    have x44 := (hf 44).trans (slot_getD (hbs 44 _ rfl))
    have x45 := (hf 45).trans (slot_getD (hbs 45 _ rfl))
    have x46 := (hf 46).trans (slot_getD (hbs 46 _ rfl))
    have x47 := (hf 47).trans (slot_getD (hbs 47 _ rfl))
    have x48 := (hf 48).trans (slot_getD (hbs 48 _ rfl))
    have x49 := (hf 49).trans (slot_getD (hbs 49 _ rfl))
    have x50 := (hf 50).trans (slot_getD (hbs 50 _ rfl))
    have x51 := (hf 51).trans (slot_getD (hbs 51 _ rfl))
    have x52 := (hf 52).trans (slot_getD (hbs 52 _ rfl))
    have x53 := (hf 53).trans (slot_getD (hbs 53 _ rfl))
    have x54 := (hf 54).trans (slot_getD (hbs 54 _ rfl))
    have x55 := (hf 55).trans (slot_getD (hbs 55 _ rfl))
    have x56 := (hf 56).trans (slot_getD (hbs 56 _ rfl))
    have x57 := (hf 57).trans (slot_getD (hbs 57 _ rfl))
    have x58 := (hf 58).trans (slot_getD (hbs 58 _ rfl))
    have x59 := (hf 59).trans (slot_getD (hbs 59 _ rfl))
    have x60 := (hf 60).trans (slot_getD (hbs 60 _ rfl))
    have x61 := (hf 61).trans (slot_getD (hbs 61 _ rfl))
    have x62 := (hf 62).trans (slot_getD (hbs 62 _ rfl))
    have x0 := (hf 0).trans w0
    clear hbs hsl hf hsz9 hKN w0
    simp only [x1, x6, x7, x9, x10, x11, x12, x13, x2, x3, x4, x5, x8, x14, x15, x16, x17, x18, x19, x20, x21, x22, x23, x24, x25, x26, x27, x28, x29, x30, x31, x32, x33, x34, x35, x36, x37, x38, x39, x40, x41, x42, x43, x44, x45, x46, x47, x48, x49, x50, x51, x52, x53, x54, x55, x56, x57, x58, x59, x60, x61, x62, x0]
    clear x1 x6 x7 x9 x10 x11 x12 x13 x2 x3 x4 x5 x8 x14 x15 x16 x17 x18 x19 x20 x21 x22 x23 x24 x25 x26 x27 x28 x29 x30 x31 x32 x33 x34 x35 x36 x37 x38 x39 x40 x41 x42 x43 x44 x45 x46 x47 x48 x49 x50 x51 x52 x53 x54 x55 x56 x57 x58 x59 x60 x61 x62 x0
    go_wp2
    go_ret
    exact ⟨rfl, Lr.trans hL9⟩
  ·as_aux_lemma =>
   obtain ⟨k, X, hk, hv, k1, k4, hX, gX⟩ := HQE.out e (mem_left he).1
   have HSH := Lib.hid (left_shrinks (quoEs X1 X2 X3 X4) seen e he)
   have hlt := hlt_of hi
   obtain ⟨Z, hZ⟩ : ∃ Z, w1.putObj it (.mapIter (some bm) 4 (seen.push e.born) 4) = Z := ⟨_, rfl⟩
   have hw1l : Lat wr w1 := by rcases hw1 with rfl | rfl; exact Lat.refl _; exact Lat.drew _
   have hi1 : w1.heap[it]? = some (.mapIter (some bm) 4 seen 4) := (Below.block hw1l _ hlt).trans hi
   have hp : LatP (· = it) w1 Z := by rw [← hZ]; exact lat_putObj (hlt_of hi1)
   have hi2 : Z.heap[it]? = some (.mapIter (some bm) 4 (seen.push e.born) 4) := by rw [← hZ]; exact putObj_at (hlt_of hi1)
   have hm2 : MapAt Z bm (quoEs X1 X2 X3 X4) 4 := hp.at_ (hm.later hw1l) (by omega)
   have hkc2 := (hkc.later hw1l).keepP hp (by omega)
   have hlr2 := (hlr.trans (hw1l.p _)).trans hp
   rw [hZ, hk, hv] at hrun
   have hent := run_entry_at (P := Tryz.prog) Z bm it 4 seen (quoEs X1 X2 X3 X4) 4 e hi2 hm2 (mem_left he).1 quoEs_nodup
   rw [hk, hv] at hent
   have hZs : Z.iterSeen it = seen.push e.born := by unfold World.iterSeen; rw [hi2]
   have LZ : Lat w Z := LatP.lat (M := (· = it)) L5 hlr2 (fun q e => by subst e; exact hwit)
   have HQ : ∀ w', Sl w' .i64 (some ⟨w.heap.size, 0, none⟩) 2 [7, 3] → Calls Tryz.prog 18 #[.slice (some ⟨w.heap.size, 0, none⟩) 2 2, .int .i64 4, .int .i64 k] w' (ShR w' X 0) := fun w' h => by
    have h9 := qQuota_yes (some ⟨w.heap.size, 0, none⟩) 2 2 [7, 3] 4 k w' h (by decide) (by decide) (by decide) (by decide) k1 k4
    rw [show ([7, 3] : List Int).sum = 10 from rfl, hX] at h9
    exact h9
   have X3' := Lib.hid gX.info
   have X1' := Lib.hid gX.1
   have X2' := Lib.hid gX.2.1
   have HNQ := Lib.hid (fun w => gX.neq w)
   clear hZ hw1 hw1l hi1 hp hi hm hkc hlr he hk hv hlt Lr gX
   have K0 := Blk.new Z 42 #[.int .u64 W8.zero.a0, .int .u64 W8.zero.a1, .int .u64 W8.zero.a2, .int .u64 W8.zero.a3, .int .u64 W8.zero.a4, .int .u64 W8.zero.a5, .int .u64 W8.zero.a6, .int .u64 W8.zero.a7, .int .u64 W8.zero.a0, .int .u64 W8.zero.a1, .int .u64 W8.zero.a2, .int .u64 W8.zero.a3, .int .u64 W8.zero.a4, .int .u64 W8.zero.a5, .int .u64 W8.zero.a6, .int .u64 W8.zero.a7]
   go_wp2_with (refine wpList_put rfl 42 (.tmp 3) (.tmp 26) (by rfl) (by rfl) Z.heap.size (by rfl) X (by rfl) K0 (by rw [X1'.out]; rfl) X3'.out X2'.out ?_; intro Z2 hput; have k3 := hput.blk; have la := hput.lat Z (Lat.alloc _ _) (Nat.le_refl _))
   obtain ⟨b3, hb3⟩ : ∃ z, Z.heap.size = z := ⟨_, rfl⟩
   rw [hb3] at k3 ⊢
   have hkc3 := hkc2.later la
   have hi3 : Z2.heap[it]? = some (.mapIter (some bm) 4 (seen.push e.born) 4) := (Below.block la _ (hlt_of hi2)).trans hi2
   have hm3 := hm2.later la
   have hlr3 := hlr2.trans (la.p _)
   clear hput K0 hb3 la hkc2 hi2 hm2 hlr2 hrun hent hZs LZ
   refine (HQ Z2 (Sl.lit hkc3)).mono ?_
   rintro e9 Z3 ⟨rfl, la⟩
   have hkc4 := hkc3.later la
   have hi4 : Z3.heap[it]? = some (.mapIter (some bm) 4 (seen.push e.born) 4) := (Below.block la _ (hlt_of hi3)).trans hi3
   have hm4 := hm3.later la
   have hlr4 := hlr3.trans (la.p _)
   have k3 := k3.later la
   clear la hkc3 hi3 hm3 hlr3 HQ
   have K0 := Blk.new Z3 42 #[.int .u64 W8.zero.a0, .int .u64 W8.zero.a1, .int .u64 W8.zero.a2, .int .u64 W8.zero.a3, .int .u64 W8.zero.a4, .int .u64 W8.zero.a5, .int .u64 W8.zero.a6, .int .u64 W8.zero.a7, .int .u64 W8.zero.a0, .int .u64 W8.zero.a1, .int .u64 W8.zero.a2, .int .u64 W8.zero.a3, .int .u64 W8.zero.a4, .int .u64 W8.zero.a5, .int .u64 W8.zero.a6, .int .u64 W8.zero.a7]
   go_upto_region 6 with (refine wpList_put rfl 42 (.tmp 4) (.tmp 31) (by rfl) (by rfl) Z3.heap.size (by rfl) X (by rfl) K0 (by rw [X1'.out]; rfl) X3'.out X2'.out ?_; intro Z4 hput; have k4 := hput.blk; have la := hput.lat Z3 (Lat.alloc _ _) (Nat.le_refl _))
   obtain ⟨b4, hb4⟩ : ∃ z, Z3.heap.size = z := ⟨_, rfl⟩
   rw [hb4] at k4 ⊢
   have hkc5 := hkc4.later la
   have hi5 : Z4.heap[it]? = some (.mapIter (some bm) 4 (seen.push e.born) 4) := (Below.block la _ (hlt_of hi4)).trans hi4
   have hm5 := hm4.later la
   have hlr5 := hlr4.trans (la.p _)
   have k3 := k3.later la
   have HZs : Hid (Z4.iterSeen it = seen.push e.born) := by show _ = _; unfold World.iterSeen; rw [hi5]
   have HWs : Hid (wr.iterSeen it = seen) := hsn
   clear la hkc4 hi4 hm4 hlr4 hput K0 hb4 hsn
   go_wp2_with (first
    | (refine wpList_get rfl 42 (.tmp 4) (by rfl) b4 (by rfl) k4 _ Tryz.underlying42 rfl X3'.out ?_)
    | (refine wpList_get rfl 42 (.tmp 3) (by rfl) b3 (by rfl) k3 _ Tryz.underlying42 rfl X3'.out ?_)
    | (refine wpList_bin rfl .neq 42 42 (.tmp 33) (.tmp 34) (by rfl) X X _ (by rfl) (by rfl) (by kernel_rfl) (HNQ.out _) ?_))
   go_roundw
   case rel =>
    have HRel : ∃ seen' : Array Nat, Z4.heap[it]? = some (.mapIter (some bm) 4 seen' 4) ∧ MapAt Z4 bm (quoEs X1 X2 X3 X4) 4 ∧ Blk Z4 w.heap.size 3 #[.int .i64 7, .int .i64 3] ∧ LatP (· = it) V5 Z4 := ⟨_, hi5, hm5, hkc5, hlr5⟩
    first | exact HRel | exact ⟨_, HRel, rfl⟩ | exact ⟨_, _, HRel, rfl⟩ | exact ⟨_, _, _, HRel, rfl⟩ | exact ⟨_, _, _, _, HRel, rfl⟩ | exact ⟨_, _, _, _, _, HRel, rfl⟩ | exact ⟨_, _, _, _, _, _, HRel, rfl⟩ | exact ⟨_, _, _, _, _, _, _, HRel, rfl⟩ | exact ⟨_, _, _, _, _, _, _, _, HRel, rfl⟩ | exact ⟨_, _, _, _, _, _, _, _, _, HRel, rfl⟩ | exact ⟨_, _, _, _, _, _, _, _, _, _, HRel, rfl⟩ | exact ⟨_, _, _, _, _, _, _, _, _, _, _, HRel, rfl⟩ | exact ⟨_, _, _, _, _, _, _, _, _, _, _, _, HRel, rfl⟩ | exact ⟨_, _, _, _, _, _, _, _, _, _, _, _, _, HRel, rfl⟩ | exact ⟨_, _, _, _, _, _, _, _, _, _, _, _, _, _, HRel, rfl⟩ | exact ⟨_, _, _, _, _, _, _, _, _, _, _, _, _, _, _, HRel, rfl⟩ | exact ⟨_, _, _, _, _, _, _, _, _, _, _, _, _, _, _, _, HRel, rfl⟩ | exact ⟨_, _, _, _, _, _, _, _, _, _, _, _, _, _, _, _, _, HRel, rfl⟩ | exact ⟨_, _, _, _, _, _, _, _, _, _, _, _, _, _, _, _, _, _, HRel, rfl⟩ | exact ⟨_, _, _, _, _, _, _, _, _, _, _, _, _, _, _, _, _, _, _, HRel, rfl⟩ | exact ⟨_, _, _, _, _, _, _, _, _, _, _, _, _, _, _, _, _, _, _, _, HRel, rfl⟩ | exact ⟨_, _, _, _, _, _, _, _, _, _, _, _, _, _, _, _, _, _, _, _, _, HRel, rfl⟩ | exact ⟨_, _, _, _, _, _, _, _, _, _, _, _, _, _, _, _, _, _, _, _, _, _, HRel, rfl⟩ | exact ⟨_, _, _, _, _, _, _, _, _, _, _, _, _, _, _, _, _, _, _, _, _, _, _, HRel, rfl⟩ | exact ⟨_, _, _, _, _, _, _, _, _, _, _, _, _, _, _, _, _, _, _, _, _, _, _, _, HRel, rfl⟩ | exact ⟨_, _, _, _, _, _, _, _, _, _, _, _, _, _, _, _, _, _, _, _, _, _, _, _, _, HRel, rfl⟩ | exact ⟨_, _, _, _, _, _, _, _, _, _, _, _, _, _, _, _, _, _, _, _, _, _, _, _, _, _, HRel, rfl⟩ | exact ⟨_, _, _, _, _, _, _, _, _, _, _, _, _, _, _, _, _, _, _, _, _, _, _, _, _, _, _, HRel, rfl⟩ | exact ⟨_, _, _, _, _, _, _, _, _, _, _, _, _, _, _, _, _, _, _, _, _, _, _, _, _, _, _, _, HRel, rfl⟩ | exact ⟨_, _, _, _, _, _, _, _, _, _, _, _, _, _, _, _, _, _, _, _, _, _, _, _, _, _, _, _, _, HRel, rfl⟩ | exact ⟨_, _, _, _, _, _, _, _, _, _, _, _, _, _, _, _, _, _, _, _, _, _, _, _, _, _, _, _, _, _, HRel, rfl⟩ | exact ⟨_, _, _, _, _, _, _, _, _, _, _, _, _, _, _, _, _, _, _, _, _, _, _, _, _, _, _, _, _, _, _, HRel, rfl⟩ | exact ⟨_, _, _, _, _, _, _, _, _, _, _, _, _, _, _, _, _, _, _, _, _, _, _, _, _, _, _, _, _, _, _, _, HRel, rfl⟩ | exact ⟨_, _, _, _, _, _, _, _, _, _, _, _, _, _, _, _, _, _, _, _, _, _, _, _, _, _, _, _, _, _, _, _, _, HRel, rfl⟩ | exact ⟨_, _, _, _, _, _, _, _, _, _, _, _, _, _, _, _, _, _, _, _, _, _, _, _, _, _, _, _, _, _, _, _, _, _, HRel, rfl⟩ | exact ⟨_, _, _, _, _, _, _, _, _, _, _, _, _, _, _, _, _, _, _, _, _, _, _, _, _, _, _, _, _, _, _, _, _, _, _, HRel, rfl⟩ | exact ⟨_, _, _, _, _, _, _, _, _, _, _, _, _, _, _, _, _, _, _, _, _, _, _, _, _, _, _, _, _, _, _, _, _, _, _, _, HRel, rfl⟩ | exact ⟨_, _, _, _, _, _, _, _, _, _, _, _, _, _, _, _, _, _, _, _, _, _, _, _, _, _, _, _, _, _, _, _, _, _, _, _, _, HRel, rfl⟩ | exact ⟨_, _, _, _, _, _, _, _, _, _, _, _, _, _, _, _, _, _, _, _, _, _, _, _, _, _, _, _, _, _, _, _, _, _, _, _, _, _, HRel, rfl⟩ | exact ⟨_, _, _, _, _, _, _, _, _, _, _, _, _, _, _, _, _, _, _, _, _, _, _, _, _, _, _, _, _, _, _, _, _, _, _, _, _, _, _, HRel, rfl⟩ | exact ⟨_, _, _, _, _, _, _, _, _, _, _, _, _, _, _, _, _, _, _, _, _, _, _, _, _, _, _, _, _, _, _, _, _, _, _, _, _, _, _, _, HRel, rfl⟩ | exact ⟨_, _, _, _, _, _, _, _, _, _, _, _, _, _, _, _, _, _, _, _, _, _, _, _, _, _, _, _, _, _, _, _, _, _, _, _, _, _, _, _, _, HRel, rfl⟩ | exact ⟨_, _, _, _, _, _, _, _, _, _, _, _, _, _, _, _, _, _, _, _, _, _, _, _, _, _, _, _, _, _, _, _, _, _, _, _, _, _, _, _, _, _, HRel, rfl⟩ | exact ⟨_, _, _, _, _, _, _, _, _, _, _, _, _, _, _, _, _, _, _, _, _, _, _, _, _, _, _, _, _, _, _, _, _, _, _, _, _, _, _, _, _, _, _, HRel, rfl⟩ | exact ⟨_, _, _, _, _, _, _, _, _, _, _, _, _, _, _, _, _, _, _, _, _, _, _, _, _, _, _, _, _, _, _, _, _, _, _, _, _, _, _, _, _, _, _, _, HRel, rfl⟩ | exact ⟨_, _, _, _, _, _, _, _, _, _, _, _, _, _, _, _, _, _, _, _, _, _, _, _, _, _, _, _, _, _, _, _, _, _, _, _, _, _, _, _, _, _, _, _, _, HRel, rfl⟩ | exact ⟨_, _, _, _, _, _, _, _, _, _, _, _, _, _, _, _, _, _, _, _, _, _, _, _, _, _, _, _, _, _, _, _, _, _, _, _, _, _, _, _, _, _, _, _, _, _, HRel, rfl⟩ | exact ⟨_, _, _, _, _, _, _, _, _, _, _, _, _, _, _, _, _, _, _, _, _, _, _, _, _, _, _, _, _, _, _, _, _, _, _, _, _, _, _, _, _, _, _, _, _, _, _, HRel, rfl⟩ | exact ⟨_, _, _, _, _, _, _, _, _, _, _, _, _, _, _, _, _, _, _, _, _, _, _, _, _, _, _, _, _, _, _, _, _, _, _, _, _, _, _, _, _, _, _, _, _, _, _, _, HRel, rfl⟩ | exact ⟨_, _, _, _, _, _, _, _, _, _, _, _, _, _, _, _, _, _, _, _, _, _, _, _, _, _, _, _, _, _, _, _, _, _, _, _, _, _, _, _, _, _, _, _, _, _, _, _, _, HRel, rfl⟩ | exact ⟨_, _, _, _, _, _, _, _, _, _, _, _, _, _, _, _, _, _, _, _, _, _, _, _, _, _, _, _, _, _, _, _, _, _, _, _, _, _, _, _, _, _, _, _, _, _, _, _, _, _, HRel, rfl⟩
   case measure =>
    rw [HZs.out, HWs.out]
    exact HSH.out
end Go.Proofs.YtbgngmamnonlbaaGreat
