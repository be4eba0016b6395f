/- Several texts in one: KqB. -/
import Derived.Test.YtbgngmamnonlbaaGreatH51
import Derived.Test.YtbgngmamnonlbaaGreatH50
namespace Go.Proofs.YtbgngmamnonlbaaGreat
open Go.RowKit
set_option linter.unusedSimpArgs false
set_option linter.unusedVariables false
set_option maxRecDepth 100000
theorem kq_app (w : World) (g1 g2 : Nat) (ty : TypeId) (b1 : Blk w g1 3 (nums .i64 (List.replicate 60 0))) (b2 : Blk w g2 3 #[.int .i64 1]) :
  ∃ c w', (Builtin.append_ #[27, 27] ty #[.slice (some ⟨g1, 0, none⟩) 60 60, .slice (some ⟨g2, 0, none⟩) 1 1]).run Tryz.prog w = .ok (.slice (some ⟨w.heap.size, 0, none⟩) 61 c) w' ∧ Lat w w' ∧ Sl w' .i64 (some ⟨w.heap.size, 0, none⟩) 61 (List.replicate 60 0 ++ [1]) := by
 obtain ⟨i0, hi, hz0, hz1, hz2⟩ := info_parts infoI64
 have hr := run_append_grow (P := Tryz.prog) w 27 ty 3 i0 (.int .i64 0) Tryz.underlying27 hi hz0 ⟨g1, 0, none⟩ 60 60 ((List.replicate 60 (0 : Int)).map (Value.int .i64)) (by simp [hz1]) (fun j v hv => by
  have e : (⟨g1, 0, none⟩ : Addr).add j = ⟨g1, j, none⟩ := by unfold Addr.add; split <;> simp_all
  rw [e, b1.cell j]
  simpa [nums] using hv) ⟨g2, 0, none⟩ 1 1 [.int .i64 1] (by simp [hz1]) (fun j v hv => by
  have e : (⟨g2, 0, none⟩ : Addr).add j = ⟨g2, j, none⟩ := by unfold Addr.add; split <;> simp_all
  rw [e, b2.cell j]
  simpa using hv) (by decide) (by decide) (by rw [hz2]; decide)
 refine ⟨_, _, hr, (Lat.drew w).trans (Lat.alloc _ _), ?_⟩
 refine ⟨by simp, fun _ => ⟨_, rfl, by simp, fun i x hx => ?_⟩⟩
 have hi : i < 61 := by
  have := (List.getElem?_eq_some_iff.1 hx).1
  simpa using this
 have e : (⟨w.heap.size, 0, none⟩ : Addr).add i = ⟨w.heap.size, i, none⟩ := by unfold Addr.add; split <;> simp_all
 have hk := (Blk.new w.drew 3 (((List.replicate 60 (0 : Int)).map (Value.int .i64)).toArray ++ [Value.int .i64 1].toArray ++ Builtin.zeroCells (Value.int .i64 0).cells (grownCap w (60 + 1) 60 3 - (60 + 1)))).cell i
 rw [e]
 refine hk.trans ?_
 rw [Array.getElem?_append_left (by simp; omega), List.append_toArray, List.getElem?_toArray]
 have : (List.replicate 60 (0 : Int)).map (Value.int .i64) ++ [Value.int .i64 1] = (List.replicate 60 (0 : Int) ++ [1]).map (Value.int .i64) := by simp
 rw [this, List.getElem?_map, hx]
 rfl
def PairL (v : Value) (w : World) : Prop := ∃ g : Nat, v = .slice (some ⟨g, 0, none⟩) 6 6 ∧ Blk w g 37 #[.int .i64 0, .int .i64 1, .int .i64 1001, .int .i64 1, .int .i64 (-1), .int .i64 1, .int .i64 1, .int .i64 0, .int .i64 1, .int .i64 5, .int .i64 1, .int .i64 11]
theorem PairL.later {v : Value} {w w' : World} (h : PairL v w) (l : Lat w w') : PairL v w' := by obtain ⟨g, h1, h2⟩ := h; exact ⟨g, h1, h2.later l⟩
def FourL (v : Value) (w : World) : Prop := ∃ g g1 g2 g3 g4 : Nat, v = .slice (some ⟨g, 0, none⟩) 4 4 ∧ Blk w g 27 #[.slice (some ⟨g1, 0, none⟩) 2 2, .slice (some ⟨g2, 0, none⟩) 1 1, .slice (some ⟨g3, 0, none⟩) 1 1, .slice (some ⟨g4, 0, none⟩) 1 1] ∧ Blk w g1 3 #[.int .i64 0, .int .i64 0] ∧ Blk w g2 3 #[.int .i64 (-1)] ∧ Blk w g3 3 #[.int .i64 3] ∧ Blk w g4 3 #[.int .i64 4611686018427387904]
theorem FourL.later {v : Value} {w w' : World} (h : FourL v w) (l : Lat w w') : FourL v w' := by
 obtain ⟨g, g1, g2, g3, g4, h0, h1, h2, h3, h4, h5⟩ := h
 exact ⟨g, g1, g2, g3, g4, h0, h1.later l, h2.later l, h3.later l, h4.later l, h5.later l⟩
theorem badL_new {w : World} {g1 g2 g3 g4 g5 g6 c7 : Nat} (b1 : Blk w g1 3 #[.int .i64 0]) (b2 : Blk w g2 3 #[.int .i64 0, .int .i64 0]) (b3 : Blk w g3 3 #[.int .i64 (-1), .int .i64 5]) (b4 : Blk w g4 3 #[.int .i64 1000000001]) (b5 : Blk w g5 3 (nums .i64 (List.replicate 60 0))) (b6 : Sl w .i64 (some ⟨g6, 0, none⟩) 61 (List.replicate 60 0 ++ [1])) :
  BadL (.slice (some ⟨w.heap.size, 0, none⟩) 7 7) (w.alloc (.cells #[.slice none 0 0, .slice (some ⟨g1, 0, none⟩) 1 1, .slice (some ⟨g2, 0, none⟩) 2 2, .slice (some ⟨g3, 0, none⟩) 2 2, .slice (some ⟨g4, 0, none⟩) 1 1, .slice (some ⟨g5, 0, none⟩) 60 60, .slice (some ⟨g6, 0, none⟩) 61 c7] 27)) := by
 have L := fun (o : Obj) => Lat.alloc w o
 refine ⟨_, _, rfl, Blk.new _ _ _, fun j hj => ?_⟩
 have hq : j = 0 ∨ j = 1 ∨ j = 2 ∨ j = 3 ∨ j = 4 ∨ j = 5 ∨ j = 6 := by omega
 rcases hq with rfl | rfl | rfl | rfl | rfl | rfl | rfl
 ·exact ⟨_, _, _, [], rfl, Sl.nil _ _ _, by decide, by decide⟩
 ·exact ⟨_, _, _, [0], rfl, Sl.lit (xs := [0]) (b1.later (L _)), by decide, by decide⟩
 ·exact ⟨_, _, _, [0, 0], rfl, Sl.lit (xs := [0, 0]) (b2.later (L _)), by decide, by decide⟩
 ·exact ⟨_, _, _, [-1, 5], rfl, Sl.lit (xs := [-1, 5]) (b3.later (L _)), by decide, by decide⟩
 ·exact ⟨_, _, _, [1000000001], rfl, Sl.lit (xs := [1000000001]) (b4.later (L _)), by decide, by decide⟩
 ·exact ⟨_, _, _, List.replicate 60 0, rfl, Sl.of_blk' (t := 3) (b5.later (L _)) (by simp), by decide, cz60⟩
 ·exact ⟨_, _, _, List.replicate 60 0 ++ [1], rfl, b6.later (L _), by decide, cz61⟩
theorem spell315 (T : Array Value) (h : T.size = 315) : ∃ f : Nat → Value, (∀ k, f k = T.getD k undef) ∧ T = #[f 0, f 1, f 2, f 3, f 4, f 5, f 6, f 7, f 8, f 9, f 10, f 11, f 12, f 13, f 14, f 15, f 16, f 17, f 18, f 19, f 20, f 21, f 22, f 23, f 24, f 25, f 26, f 27, f 28, f 29, f 30, f 31, f 32, f 33, f 34, f 35, f 36, f 37, f 38, f 39, f 40, f 41, f 42, f 43, f 44, f 45, f 46, f 47, f 48, f 49, f 50, f 51, f 52, f 53, f 54, f 55, f 56, f 57, f 58, f 59, f 60, f 61, f 62, f 63, f 64, f 65, f 66, f 67, f 68, f 69, f 70, f 71, f 72, f 73, f 74, f 75, f 76, f 77, f 78, f 79, f 80, f 81, f 82, f 83, f 84, f 85, f 86, f 87, f 88, f 89, f 90, f 91, f 92, f 93, f 94, f 95, f 96, f 97, f 98, f 99, f 100, f 101, f 102, f 103, f 104, f 105, f 106, f 107, f 108, f 109, f 110, f 111, f 112, f 113, f 114, f 115, f 116, f 117, f 118, f 119, f 120, f 121, f 122, f 123, f 124, f 125, f 126, f 127, f 128, f 129, f 130, f 131, f 132, f 133, f 134, f 135, f 136, f 137, f 138, f 139, f 140, f 141, f 142, f 143, f 144, f 145, f 146, f 147, f 148, f 149, f 150, f 151, f 152, f 153, f 154, f 155, f 156, f 157, f 158, f 159, f 160, f 161, f 162, f 163, f 164, f 165, f 166, f 167, f 168, f 169, f 170, f 171, f 172, f 173, f 174, f 175, f 176, f 177, f 178, f 179, f 180, f 181, f 182, f 183, f 184, f 185, f 186, f 187, f 188, f 189, f 190, f 191, f 192, f 193, f 194, f 195, f 196, f 197, f 198, f 199, f 200, f 201, f 202, f 203, f 204, f 205, f 206, f 207, f 208, f 209, f 210, f 211, f 212, f 213, f 214, f 215, f 216, f 217, f 218, f 219, f 220, f 221, f 222, f 223, f 224, f 225, f 226, f 227, f 228, f 229, f 230, f 231, f 232, f 233, f 234, f 235, f 236, f 237, f 238, f 239, f 240, f 241, f 242, f 243, f 244, f 245, f 246, f 247, f 248, f 249, f 250, f 251, f 252, f 253, f 254, f 255, f 256, f 257, f 258, f 259, f 260, f 261, f 262, f 263, f 264, f 265, f 266, f 267, f 268, f 269, f 270, f 271, f 272, f 273, f 274, f 275, f 276, f 277, f 278, f 279, f 280, f 281, f 282, f 283, f 284, f 285, f 286, f 287, f 288, f 289, f 290, f 291, f 292, f 293, f 294, f 295, f 296, f 297, f 298, f 299, f 300, f 301, f 302, f 303, f 304, f 305, f 306, f 307, f 308, f 309, f 310, f 311, f 312, f 313, f 314] := ⟨fun k => T.getD k undef, fun _ => rfl, (spell 315 T h).trans (by kernel_rfl)⟩
noncomputable def kq3r_rows  : List SRow := [
 ⟨Op.buildSlice 27 1 #[(0, Operand.const (Value.int IntKind.i64 0))], some 50, none, [], fun v w => ∃ g : Nat, v = .slice (some ⟨g, 0, none⟩) 1 1 ∧ Blk w g 3 #[.int .i64 0]⟩,
 ⟨Op.buildSlice 27 2 #[(0, Operand.const (Value.int IntKind.i64 0)), (1, Operand.const (Value.int IntKind.i64 0))], some 51, none, [], fun v w => ∃ g : Nat, v = .slice (some ⟨g, 0, none⟩) 2 2 ∧ Blk w g 3 #[.int .i64 0, .int .i64 0]⟩,
 ⟨Op.buildSlice 27 2 #[(0, Operand.const (Value.int IntKind.i64 (-1))), (1, Operand.const (Value.int IntKind.i64 5))], some 52, none, [], fun v w => ∃ g : Nat, v = .slice (some ⟨g, 0, none⟩) 2 2 ∧ Blk w g 3 #[.int .i64 (-1), .int .i64 5]⟩,
 ⟨Op.buildSlice 27 1 #[(0, Operand.const (Value.int IntKind.i64 1000000001))], some 53, none, [], fun v w => ∃ g : Nat, v = .slice (some ⟨g, 0, none⟩) 1 1 ∧ Blk w g 3 #[.int .i64 1000000001]⟩,
 ⟨Op.makeSlice 27 (Operand.const (Value.int IntKind.i64 60)) (Operand.const (Value.int IntKind.i64 60)), some 54, none, [], fun v w => ∃ g : Nat, v = .slice (some ⟨g, 0, none⟩) 60 60 ∧ Blk w g 3 (nums .i64 (List.replicate 60 0))⟩,
 ⟨Op.makeSlice 27 (Operand.const (Value.int IntKind.i64 60)) (Operand.const (Value.int IntKind.i64 60)), some 55, none, [], fun v w => ∃ g : Nat, v = .slice (some ⟨g, 0, none⟩) 60 60 ∧ Blk w g 3 (nums .i64 (List.replicate 60 0))⟩,
 ⟨Op.buildSlice 27 1 #[(0, Operand.const (Value.int IntKind.i64 1))], some 56, none, [], fun v w => ∃ g : Nat, v = .slice (some ⟨g, 0, none⟩) 1 1 ∧ Blk w g 3 #[.int .i64 1]⟩,
 ⟨Op.call { callee := Callee.builtin Builtin.append, args := #[Operand.tmp 55, Operand.tmp 56], argTypes := #[27, 27] }, some 57, none, [5, 6], fun v w => ∃ g c : Nat, v = .slice (some ⟨g, 0, none⟩) 61 c ∧ Sl w .i64 (some ⟨g, 0, none⟩) 61 (List.replicate 60 0 ++ [1])⟩,
 ⟨Op.buildSlice 66 7 #[(0, Operand.const (Value.slice none 0 0)), (1, Operand.tmp 50), (2, Operand.tmp 51), (3, Operand.tmp 52), (4, Operand.tmp 53), (5, Operand.tmp 54), (6, Operand.tmp 57)], some 58, none, [0, 1, 2, 3, 4, 7], BadL⟩,
 ⟨Op.call { callee := Callee.builtin Builtin.len, args := #[Operand.tmp 58], argTypes := #[66] }, some 59, none, [8], fun v _ => v = .int .i64 7⟩,
 ⟨Op.move (Operand.const (Value.int IntKind.i64 0)), some 60, none, [], fun v _ => v = .int .i64 0⟩]
noncomputable def kq3r_base  : List (Nat × Value) := []
set_option maxRecDepth 100000 in
set_option maxHeartbeats 4000000 in
theorem kq3r_steps (V : World)   :
  AllStepsN Tryz.prog (kq3r_rows ) (kq3r_base ) V (kq3r_rows ) := by
 refine AllStepsN.next (fun v w w' h l => by obtain ⟨g, h1, h2⟩ := h; exact ⟨g, h1, h2.later l⟩) (fun j b h => by cases h) (fun a w hl hb hd o ho => by obtain ⟨d, op, ty, p, af, gg⟩ := o; simp only at ho; subst ho; have ec : ∀ v, a.eval (.const v) = v := fun _ => rfl; exact Runs.new (w' := w.alloc (.cells #[.int .i64 0] 3)) (by unfold execOp; generalize a.eval = ev at ec ⊢; simp only [ec]; go_simp) ⟨Lat.alloc _ _, fun _ => ⟨_, rfl, Blk.new _ _ _⟩⟩) ?_
 refine AllStepsN.next (fun v w w' h l => by obtain ⟨g, h1, h2⟩ := h; exact ⟨g, h1, h2.later l⟩) (fun j b h => by cases h) (fun a w hl hb hd o ho => by obtain ⟨d, op, ty, p, af, gg⟩ := o; simp only at ho; subst ho; have ec : ∀ v, a.eval (.const v) = v := fun _ => rfl; exact Runs.new (w' := w.alloc (.cells #[.int .i64 0, .int .i64 0] 3)) (by unfold execOp; generalize a.eval = ev at ec ⊢; simp only [ec]; go_simp) ⟨Lat.alloc _ _, fun _ => ⟨_, rfl, Blk.new _ _ _⟩⟩) ?_
 refine AllStepsN.next (fun v w w' h l => by obtain ⟨g, h1, h2⟩ := h; exact ⟨g, h1, h2.later l⟩) (fun j b h => by cases h) (fun a w hl hb hd o ho => by obtain ⟨d, op, ty, p, af, gg⟩ := o; simp only at ho; subst ho; have ec : ∀ v, a.eval (.const v) = v := fun _ => rfl; exact Runs.new (w' := w.alloc (.cells #[.int .i64 (-1), .int .i64 5] 3)) (by unfold execOp; generalize a.eval = ev at ec ⊢; simp only [ec]; go_simp) ⟨Lat.alloc _ _, fun _ => ⟨_, rfl, Blk.new _ _ _⟩⟩) ?_
 refine AllStepsN.next (fun v w w' h l => by obtain ⟨g, h1, h2⟩ := h; exact ⟨g, h1, h2.later l⟩) (fun j b h => by cases h) (fun a w hl hb hd o ho => by obtain ⟨d, op, ty, p, af, gg⟩ := o; simp only at ho; subst ho; have ec : ∀ v, a.eval (.const v) = v := fun _ => rfl; exact Runs.new (w' := w.alloc (.cells #[.int .i64 1000000001] 3)) (by unfold execOp; generalize a.eval = ev at ec ⊢; simp only [ec]; go_simp) ⟨Lat.alloc _ _, fun _ => ⟨_, rfl, Blk.new _ _ _⟩⟩) ?_
 refine AllStepsN.next (fun v w w' h l => by obtain ⟨g, h1, h2⟩ := h; exact ⟨g, h1, h2.later l⟩) (fun j b h => by cases h) (fun a w hl hb hd o ho => by obtain ⟨d, op, ty, p, af, gg⟩ := o; simp only at ho; subst ho; have ec : ∀ v, a.eval (.const v) = v := fun _ => rfl; have hm := run_make_nums (P := Tryz.prog) (t := 27) (e := 3) (k := .i64) (by_ := 8) Tryz.underlying27 (by kernel_rfl) (60 : Int) 60 rfl (by decide) (by decide) w; exact Runs.new (w' := w.alloc (.cells (nums .i64 (List.replicate 60 0)) 3)) (by unfold execOp; generalize a.eval = ev at ec ⊢; simp only [ec]; go_simp) ⟨Lat.alloc _ _, fun _ => ⟨_, rfl, Blk.new _ _ _⟩⟩) ?_
 refine AllStepsN.next (fun v w w' h l => by obtain ⟨g, h1, h2⟩ := h; exact ⟨g, h1, h2.later l⟩) (fun j b h => by cases h) (fun a w hl hb hd o ho => by obtain ⟨d, op, ty, p, af, gg⟩ := o; simp only at ho; subst ho; have ec : ∀ v, a.eval (.const v) = v := fun _ => rfl; have hm := run_make_nums (P := Tryz.prog) (t := 27) (e := 3) (k := .i64) (by_ := 8) Tryz.underlying27 (by kernel_rfl) (60 : Int) 60 rfl (by decide) (by decide) w; exact Runs.new (w' := w.alloc (.cells (nums .i64 (List.replicate 60 0)) 3)) (by unfold execOp; generalize a.eval = ev at ec ⊢; simp only [ec]; go_simp) ⟨Lat.alloc _ _, fun _ => ⟨_, rfl, Blk.new _ _ _⟩⟩) ?_
 refine AllStepsN.next (fun v w w' h l => by obtain ⟨g, h1, h2⟩ := h; exact ⟨g, h1, h2.later l⟩) (fun j b h => by cases h) (fun a w hl hb hd o ho => by obtain ⟨d, op, ty, p, af, gg⟩ := o; simp only at ho; subst ho; have ec : ∀ v, a.eval (.const v) = v := fun _ => rfl; exact Runs.new (w' := w.alloc (.cells #[.int .i64 1] 3)) (by unfold execOp; generalize a.eval = ev at ec ⊢; simp only [ec]; go_simp) ⟨Lat.alloc _ _, fun _ => ⟨_, rfl, Blk.new _ _ _⟩⟩) ?_
 refine AllStepsN.next (fun v w w' h l => by obtain ⟨g, c, h1, h2⟩ := h; exact ⟨g, c, h1, h2.later l⟩) (fun j b h => by cases h) (fun a w hl hb hd o ho => by obtain ⟨v1, e1, q1⟩ := hd 5 _ _ (by simp) rfl rfl; obtain ⟨g1, rfl, b1⟩ := q1; obtain ⟨v2, e2, q2⟩ := hd 6 _ _ (by simp) rfl rfl; obtain ⟨g2, rfl, b2⟩ := q2; obtain ⟨d, op, ty, p, af, gg⟩ := o; simp only at ho; subst ho; have ec : ∀ v, a.eval (.const v) = v := fun _ => rfl; obtain ⟨c9, w9, hr, hl9, hs9⟩ := kq_app w g1 g2 ty b1 b2; exact Runs.new (v := .slice (some ⟨w.heap.size, 0, none⟩) 61 c9) (w' := w9) (by unfold execOp; simp only [resolve, invoke, builtin, Sem.run_bind, Sem.run_pure, Result.andThen_ok, List.map_toArray, List.map_cons, List.map_nil, e1, e2, hr]) ⟨hl9, fun _ => ⟨_, _, rfl, hs9⟩⟩) ?_
 refine AllStepsN.next (fun v w w' h l => h.later l) (fun j b h => by cases h) (fun a w hl hb hd o ho => by obtain ⟨v1, e1, q1⟩ := hd 0 _ _ (by simp) rfl rfl; obtain ⟨g1, rfl, b1⟩ := q1; obtain ⟨v2, e2, q2⟩ := hd 1 _ _ (by simp) rfl rfl; obtain ⟨g2, rfl, b2⟩ := q2; obtain ⟨v3, e3, q3⟩ := hd 2 _ _ (by simp) rfl rfl; obtain ⟨g3, rfl, b3⟩ := q3; obtain ⟨v4, e4, q4⟩ := hd 3 _ _ (by simp) rfl rfl; obtain ⟨g4, rfl, b4⟩ := q4; obtain ⟨v5, e5, q5⟩ := hd 4 _ _ (by simp) rfl rfl; obtain ⟨g5, rfl, b5⟩ := q5; obtain ⟨v6, e6, q6⟩ := hd 7 _ _ (by simp) rfl rfl; obtain ⟨g6, c7, rfl, b6⟩ := q6; obtain ⟨d, op, ty, p, af, gg⟩ := o; simp only at ho; subst ho; have ec : ∀ v, a.eval (.const v) = v := fun _ => rfl; exact Runs.new (w' := w.alloc (.cells #[.slice none 0 0, .slice (some ⟨g1, 0, none⟩) 1 1, .slice (some ⟨g2, 0, none⟩) 2 2, .slice (some ⟨g3, 0, none⟩) 2 2, .slice (some ⟨g4, 0, none⟩) 1 1, .slice (some ⟨g5, 0, none⟩) 60 60, .slice (some ⟨g6, 0, none⟩) 61 c7] 27)) (by unfold execOp; generalize a.eval = ev at e1 e2 e3 e4 e5 e6 ec ⊢; simp only [e1, e2, e3, e4, e5, e6, ec]; go_simp) ⟨Lat.alloc _ _, fun _ => badL_new b1 b2 b3 b4 b5 b6⟩) ?_
 refine AllStepsN.next (fun _ _ _ h _ => h) (fun j b h => by cases h) (fun a w hl hb hd o ho => by obtain ⟨v1, e1, q1⟩ := hd 8 _ _ (by simp) rfl rfl; obtain ⟨g1, cs, rfl, _⟩ := q1; obtain ⟨d, op, ty, p, af, gg⟩ := o; simp only at ho; subst ho; have ec : ∀ v, a.eval (.const v) = v := fun _ => rfl; exact Runs.val (by unfold execOp; generalize a.eval = ev at e1 ec ⊢; simp only [e1, ec]; go_simp) ⟨Lat.refl _, fun _ => rfl⟩) ?_
 refine n0 ?_  (fun ev w hl ec  d ty p af g => ?_)
 ·exact AllStepsN.none
 all_goals (unfold execOp; first | simp only [e1, e2, ec] | simp only [e1, ec] | simp only [ec])
 all_goals go_simp
noncomputable def kq10r_rows (A : Option Addr) (n c : Nat) : List SRow := [
 ⟨Op.move (Operand.tmp 2), some 85, none, [], fun v _ => v = .slice A n c⟩,
 ⟨Op.call { callee := Callee.value (Operand.func 15), args := #[Operand.tmp 85], argTypes := #[27] }, some 86, none, [0], fun v _ => v = .int .i64 60⟩,
 ⟨Op.binOp BinOp.neq 31 (Operand.tmp 86) (Operand.const (Value.int IntKind.i64 60)) 31, some 87, none, [1], fun v _ => v = .bool false⟩,
 ⟨Op.move (Operand.tmp 87), some 88, none, [2, 1], fun v _ => v = .bool false⟩,
 ⟨Op.move (Operand.tmp 4), some 89, some (3, false), [3], fun v _ => v = .int .i64 60⟩,
 ⟨Op.binOp BinOp.neq 31 (Operand.tmp 89) (Operand.const (Value.int IntKind.i64 60)) 31, some 90, some (3, false), [4, 3], fun v _ => v = .bool false⟩,
 ⟨Op.pick (Operand.tmp 88) (Operand.const (Value.bool true)) (Operand.tmp 90), some 91, none, [3, 5], fun v _ => v = .bool false⟩,
 ⟨Op.move (Operand.tmp 91), some 92, none, [6, 3], fun v _ => v = .bool false⟩,
 ⟨Op.move (Operand.tmp 6), some 93, some (7, false), [7], fun v _ => v = .int .i64 60⟩,
 ⟨Op.binOp BinOp.neq 31 (Operand.tmp 93) (Operand.const (Value.int IntKind.i64 60)) 31, some 94, some (7, false), [8, 7], fun v _ => v = .bool false⟩,
 ⟨Op.pick (Operand.tmp 92) (Operand.const (Value.bool true)) (Operand.tmp 94), some 95, none, [7, 9], fun v _ => v = .bool false⟩,
 ⟨Op.move (Operand.tmp 95), some 96, none, [10, 7], fun v _ => v = .bool false⟩,
 ⟨Op.move (Operand.tmp 8), some 97, some (11, false), [11], fun v _ => v = .int .i64 60⟩,
 ⟨Op.binOp BinOp.neq 31 (Operand.tmp 97) (Operand.const (Value.int IntKind.i64 60)) 31, some 98, some (11, false), [12, 11], fun v _ => v = .bool false⟩,
 ⟨Op.pick (Operand.tmp 96) (Operand.const (Value.bool true)) (Operand.tmp 98), some 99, none, [11, 13], fun v _ => v = .bool false⟩,
 ⟨Op.move (Operand.tmp 99), some 100, none, [14, 11], fun v _ => v = .bool false⟩,
 ⟨Op.move (Operand.tmp 10), some 101, some (15, false), [15], fun v _ => v = .int .i64 60⟩,
 ⟨Op.binOp BinOp.neq 31 (Operand.tmp 101) (Operand.const (Value.int IntKind.i64 60)) 31, some 102, some (15, false), [16, 15], fun v _ => v = .bool false⟩,
 ⟨Op.pick (Operand.tmp 100) (Operand.const (Value.bool true)) (Operand.tmp 102), some 103, none, [15, 17], fun v _ => v = .bool false⟩]
noncomputable def kq10r_base (A : Option Addr) (n c : Nat) (v0 v1 v3 v5 v7 v9 v11 v12 v13 v14 v15 v16 v17 v18 v19 v20 v21 v22 v23 v24 v25 v26 v27 v28 v29 v30 v31 v32 v33 v34 v35 v36 v37 v38 v39 v40 v41 v42 v43 v44 v45 v46 v47 v48 v49 v50 v51 v52 v53 v54 v55 v56 v57 v58 v59 v60 v61 v62 v63 v64 v65 v66 v67 v68 v69 v70 v71 v72 v73 v74 v75 v76 v77 v78 v79 v80 v81 v82 v83 v84 v104 v105 v106 v107 v108 v109 v110 v111 v112 v113 v114 v115 v116 v117 v118 v119 v120 v121 v122 v123 v124 v125 v126 v127 v128 v129 v130 v131 v132 v133 v134 v135 v136 v137 v138 v139 v140 v141 v142 v143 v144 v145 v146 v147 v148 v149 v150 v151 v152 v153 v154 v155 v156 v157 v158 v159 v160 v161 v162 v163 v164 v165 v166 v167 v168 v169 v170 v171 v172 v173 v174 v175 v176 v177 v178 v179 v180 v181 v182 v183 v184 v185 v186 v187 v188 v189 v190 v191 v192 v193 v194 v195 v196 v197 v198 v199 v200 v201 v202 v203 v204 v205 v206 v207 v208 v209 v210 v211 v212 v213 v214 v215 v216 v217 v218 v219 v220 v221 v222 v223 v224 v225 v226 v227 v228 v229 v230 v231 v232 v233 v234 v235 v236 v237 v238 v239 v240 v241 v242 v243 v244 v245 v246 v247 v248 v249 v250 v251 v252 v253 v254 v255 v256 v257 v258 v259 v260 v261 v262 v263 v264 v265 v266 v267 v268 v269 v270 v271 v272 v273 v274 v275 v276 v277 v278 v279 v280 v281 v282 v283 v284 v285 v286 v287 v288 v289 v290 v291 v292 v293 v294 v295 v296 v297 v298 v299 v300 v301 v302 v303 v304 v305 v306 v307 v308 v309 v310 v311 v312 v313 v314 : Value) : List (Nat × Value) := [(2, .slice A n c), (4, .int .i64 60), (6, .int .i64 60), (8, .int .i64 60), (10, .int .i64 60), (0, v0), (1, v1), (3, v3), (5, v5), (7, v7), (9, v9), (11, v11), (12, v12), (13, v13), (14, v14), (15, v15), (16, v16), (17, v17), (18, v18), (19, v19), (20, v20), (21, v21), (22, v22), (23, v23), (24, v24), (25, v25), (26, v26), (27, v27), (28, v28), (29, v29), (30, v30), (31, v31), (32, v32), (33, v33), (34, v34), (35, v35), (36, v36), (37, v37), (38, v38), (39, v39), (40, v40), (41, v41), (42, v42), (43, v43), (44, v44), (45, v45), (46, v46), (47, v47), (48, v48), (49, v49), (50, v50), (51, v51), (52, v52), (53, v53), (54, v54), (55, v55), (56, v56), (57, v57), (58, v58), (59, v59), (60, v60), (61, v61), (62, v62), (63, v63), (64, v64), (65, v65), (66, v66), (67, v67), (68, v68), (69, v69), (70, v70), (71, v71), (72, v72), (73, v73), (74, v74), (75, v75), (76, v76), (77, v77), (78, v78), (79, v79), (80, v80), (81, v81), (82, v82), (83, v83), (84, v84), (104, v104), (105, v105), (106, v106), (107, v107), (108, v108), (109, v109), (110, v110), (111, v111), (112, v112), (113, v113), (114, v114), (115, v115), (116, v116), (117, v117), (118, v118), (119, v119), (120, v120), (121, v121), (122, v122), (123, v123), (124, v124), (125, v125), (126, v126), (127, v127), (128, v128), (129, v129), (130, v130), (131, v131), (132, v132), (133, v133), (134, v134), (135, v135), (136, v136), (137, v137), (138, v138), (139, v139), (140, v140), (141, v141), (142, v142), (143, v143), (144, v144), (145, v145), (146, v146), (147, v147), (148, v148), (149, v149), (150, v150), (151, v151), (152, v152), (153, v153), (154, v154), (155, v155), (156, v156), (157, v157), (158, v158), (159, v159), (160, v160), (161, v161), (162, v162), (163, v163), (164, v164), (165, v165), (166, v166), (167, v167), (168, v168), (169, v169), (170, v170), (171, v171), (172, v172), (173, v173), (174, v174), (175, v175), (176, v176), (177, v177), (178, v178), (179, v179), (180, v180), (181, v181), (182, v182), (183, v183), (184, v184), (185, v185), (186, v186), (187, v187), (188, v188), (189, v189), (190, v190), (191, v191), (192, v192), (193, v193), (194, v194), (195, v195), (196, v196), (197, v197), (198, v198), (199, v199), (200, v200), (201, v201), (202, v202), (203, v203), (204, v204), (205, v205), (206, v206), (207, v207), (208, v208), (209, v209), (210, v210), (211, v211), (212, v212), (213, v213), (214, v214), (215, v215), (216, v216), (217, v217), (218, v218), (219, v219), (220, v220), (221, v221), (222, v222), (223, v223), (224, v224), (225, v225), (226, v226), (227, v227), (228, v228), (229, v229), (230, v230), (231, v231), (232, v232), (233, v233), (234, v234), (235, v235), (236, v236), (237, v237), (238, v238), (239, v239), (240, v240), (241, v241), (242, v242), (243, v243), (244, v244), (245, v245), (246, v246), (247, v247), (248, v248), (249, v249), (250, v250), (251, v251), (252, v252), (253, v253), (254, v254), (255, v255), (256, v256), (257, v257), (258, v258), (259, v259), (260, v260), (261, v261), (262, v262), (263, v263), (264, v264), (265, v265), (266, v266), (267, v267), (268, v268), (269, v269), (270, v270), (271, v271), (272, v272), (273, v273), (274, v274), (275, v275), (276, v276), (277, v277), (278, v278), (279, v279), (280, v280), (281, v281), (282, v282), (283, v283), (284, v284), (285, v285), (286, v286), (287, v287), (288, v288), (289, v289), (290, v290), (291, v291), (292, v292), (293, v293), (294, v294), (295, v295), (296, v296), (297, v297), (298, v298), (299, v299), (300, v300), (301, v301), (302, v302), (303, v303), (304, v304), (305, v305), (306, v306), (307, v307), (308, v308), (309, v309), (310, v310), (311, v311), (312, v312), (313, v313), (314, v314)]
set_option maxRecDepth 100000 in
set_option maxHeartbeats 4000000 in
theorem kq10r_steps (V : World) (A : Option Addr) (n c : Nat) (v0 v1 v3 v5 v7 v9 v11 v12 v13 v14 v15 v16 v17 v18 v19 v20 v21 v22 v23 v24 v25 v26 v27 v28 v29 v30 v31 v32 v33 v34 v35 v36 v37 v38 v39 v40 v41 v42 v43 v44 v45 v46 v47 v48 v49 v50 v51 v52 v53 v54 v55 v56 v57 v58 v59 v60 v61 v62 v63 v64 v65 v66 v67 v68 v69 v70 v71 v72 v73 v74 v75 v76 v77 v78 v79 v80 v81 v82 v83 v84 v104 v105 v106 v107 v108 v109 v110 v111 v112 v113 v114 v115 v116 v117 v118 v119 v120 v121 v122 v123 v124 v125 v126 v127 v128 v129 v130 v131 v132 v133 v134 v135 v136 v137 v138 v139 v140 v141 v142 v143 v144 v145 v146 v147 v148 v149 v150 v151 v152 v153 v154 v155 v156 v157 v158 v159 v160 v161 v162 v163 v164 v165 v166 v167 v168 v169 v170 v171 v172 v173 v174 v175 v176 v177 v178 v179 v180 v181 v182 v183 v184 v185 v186 v187 v188 v189 v190 v191 v192 v193 v194 v195 v196 v197 v198 v199 v200 v201 v202 v203 v204 v205 v206 v207 v208 v209 v210 v211 v212 v213 v214 v215 v216 v217 v218 v219 v220 v221 v222 v223 v224 v225 v226 v227 v228 v229 v230 v231 v232 v233 v234 v235 v236 v237 v238 v239 v240 v241 v242 v243 v244 v245 v246 v247 v248 v249 v250 v251 v252 v253 v254 v255 v256 v257 v258 v259 v260 v261 v262 v263 v264 v265 v266 v267 v268 v269 v270 v271 v272 v273 v274 v275 v276 v277 v278 v279 v280 v281 v282 v283 v284 v285 v286 v287 v288 v289 v290 v291 v292 v293 v294 v295 v296 v297 v298 v299 v300 v301 v302 v303 v304 v305 v306 v307 v308 v309 v310 v311 v312 v313 v314 : Value) (HCK : ∀ w, Lat V w → Calls Tryz.prog 15 #[.slice A n c] w (fun e w' => e = .returned (.int .i64 60) ∧ Lat w w')) :
  AllStepsN Tryz.prog (kq10r_rows A n c) (kq10r_base A n c v0 v1 v3 v5 v7 v9 v11 v12 v13 v14 v15 v16 v17 v18 v19 v20 v21 v22 v23 v24 v25 v26 v27 v28 v29 v30 v31 v32 v33 v34 v35 v36 v37 v38 v39 v40 v41 v42 v43 v44 v45 v46 v47 v48 v49 v50 v51 v52 v53 v54 v55 v56 v57 v58 v59 v60 v61 v62 v63 v64 v65 v66 v67 v68 v69 v70 v71 v72 v73 v74 v75 v76 v77 v78 v79 v80 v81 v82 v83 v84 v104 v105 v106 v107 v108 v109 v110 v111 v112 v113 v114 v115 v116 v117 v118 v119 v120 v121 v122 v123 v124 v125 v126 v127 v128 v129 v130 v131 v132 v133 v134 v135 v136 v137 v138 v139 v140 v141 v142 v143 v144 v145 v146 v147 v148 v149 v150 v151 v152 v153 v154 v155 v156 v157 v158 v159 v160 v161 v162 v163 v164 v165 v166 v167 v168 v169 v170 v171 v172 v173 v174 v175 v176 v177 v178 v179 v180 v181 v182 v183 v184 v185 v186 v187 v188 v189 v190 v191 v192 v193 v194 v195 v196 v197 v198 v199 v200 v201 v202 v203 v204 v205 v206 v207 v208 v209 v210 v211 v212 v213 v214 v215 v216 v217 v218 v219 v220 v221 v222 v223 v224 v225 v226 v227 v228 v229 v230 v231 v232 v233 v234 v235 v236 v237 v238 v239 v240 v241 v242 v243 v244 v245 v246 v247 v248 v249 v250 v251 v252 v253 v254 v255 v256 v257 v258 v259 v260 v261 v262 v263 v264 v265 v266 v267 v268 v269 v270 v271 v272 v273 v274 v275 v276 v277 v278 v279 v280 v281 v282 v283 v284 v285 v286 v287 v288 v289 v290 v291 v292 v293 v294 v295 v296 v297 v298 v299 v300 v301 v302 v303 v304 v305 v306 v307 v308 v309 v310 v311 v312 v313 v314) V (kq10r_rows A n c) := by
 refine n1 ?_ (eb 2) (fun ev w hl ec e1 d ty p af g => ?_)
 refine AllStepsN.next (fun _ _ _ h _ => h) (fun j b h => by cases h) (fun a w hl hb hd o ho => by obtain ⟨v1, e1, q1⟩ := hd 0 _ _ (by simp) rfl rfl; subst q1; exact Runs.call (yv_call (f := 15) (fun _ => by go_simp) o ho (by simp only [List.map_toArray, List.map_cons, List.map_nil, eval_const, e1])) ((HCK w hl).mono fun e w' h => ⟨_, h.1, h.2, fun _ => rfl⟩)) ?_
 refine n1 ?_ (ed 1) (fun ev w hl ec e1 d ty p af g => ?_)
 refine n1 ?_ (ed 2) (fun ev w hl ec e1 d ty p af g => ?_)
 refine n1 ?_ (eb 4) (fun ev w hl ec e1 d ty p af g => ?_)
 refine n1 ?_ (ed 4) (fun ev w hl ec e1 d ty p af g => ?_)
 refine n2 ?_ (ed 3) (ed 5) (fun ev w hl ec e1 e2 d ty p af g => ?_)
 refine n1 ?_ (ed 6) (fun ev w hl ec e1 d ty p af g => ?_)
 refine n1 ?_ (eb 6) (fun ev w hl ec e1 d ty p af g => ?_)
 refine n1 ?_ (ed 8) (fun ev w hl ec e1 d ty p af g => ?_)
 refine n2 ?_ (ed 7) (ed 9) (fun ev w hl ec e1 e2 d ty p af g => ?_)
 refine n1 ?_ (ed 10) (fun ev w hl ec e1 d ty p af g => ?_)
 refine n1 ?_ (eb 8) (fun ev w hl ec e1 d ty p af g => ?_)
 refine n1 ?_ (ed 12) (fun ev w hl ec e1 d ty p af g => ?_)
 refine n2 ?_ (ed 11) (ed 13) (fun ev w hl ec e1 e2 d ty p af g => ?_)
 refine n1 ?_ (ed 14) (fun ev w hl ec e1 d ty p af g => ?_)
 refine n1 ?_ (eb 10) (fun ev w hl ec e1 d ty p af g => ?_)
 refine n1 ?_ (ed 16) (fun ev w hl ec e1 d ty p af g => ?_)
 refine n2 ?_ (ed 15) (ed 17) (fun ev w hl ec e1 e2 d ty p af g => ?_)
 ·exact AllStepsN.none
 all_goals (unfold execOp; first | simp only [e1, e2, ec] | simp only [e1, ec] | simp only [ec])
 all_goals go_simp
noncomputable def kq14r_rows (g11 : Nat) : List SRow := [
 ⟨Op.build 37 #[(0, Operand.const (Value.int IntKind.i64 0)), (1, Operand.const (Value.int IntKind.i64 1))], some 106, none, [], fun v _ => v = .agg #[.int .i64 0, .int .i64 1]⟩,
 ⟨Op.build 37 #[(0, Operand.const (Value.int IntKind.i64 1001)), (1, Operand.const (Value.int IntKind.i64 1))], some 107, none, [], fun v _ => v = .agg #[.int .i64 1001, .int .i64 1]⟩,
 ⟨Op.build 37 #[(0, Operand.const (Value.int IntKind.i64 (-1))), (1, Operand.const (Value.int IntKind.i64 1))], some 108, none, [], fun v _ => v = .agg #[.int .i64 (-1), .int .i64 1]⟩,
 ⟨Op.build 37 #[(0, Operand.const (Value.int IntKind.i64 1)), (1, Operand.const (Value.int IntKind.i64 0))], some 109, none, [], fun v _ => v = .agg #[.int .i64 1, .int .i64 0]⟩,
 ⟨Op.build 37 #[(0, Operand.const (Value.int IntKind.i64 1)), (1, Operand.const (Value.int IntKind.i64 5))], some 110, none, [], fun v _ => v = .agg #[.int .i64 1, .int .i64 5]⟩,
 ⟨Op.build 37 #[(0, Operand.const (Value.int IntKind.i64 1)), (1, Operand.const (Value.int IntKind.i64 11))], some 111, none, [], fun v _ => v = .agg #[.int .i64 1, .int .i64 11]⟩,
 ⟨Op.buildSlice 67 6 #[(0, Operand.tmp 106), (1, Operand.tmp 107), (2, Operand.tmp 108), (3, Operand.tmp 109), (4, Operand.tmp 110), (5, Operand.tmp 111)], some 112, none, [0, 1, 2, 3, 4, 5], PairL⟩,
 ⟨Op.call { callee := Callee.builtin Builtin.len, args := #[Operand.tmp 112], argTypes := #[67] }, some 113, none, [6], fun v _ => v = .int .i64 6⟩,
 ⟨Op.move (Operand.const (Value.int IntKind.i64 0)), some 114, none, [], fun v _ => v = .int .i64 0⟩]
noncomputable def kq14r_base (g11 : Nat) : List (Nat × Value) := [(11, .slice (some ⟨g11, 0, none⟩) 1 1)]
set_option maxRecDepth 100000 in
set_option maxHeartbeats 4000000 in
theorem kq14r_steps (V : World) (g11 : Nat)  :
  AllStepsN Tryz.prog (kq14r_rows g11) (kq14r_base g11) V (kq14r_rows g11) := by
 refine n0 ?_  (fun ev w hl ec  d ty p af g => ?_)
 refine n0 ?_  (fun ev w hl ec  d ty p af g => ?_)
 refine n0 ?_  (fun ev w hl ec  d ty p af g => ?_)
 refine n0 ?_  (fun ev w hl ec  d ty p af g => ?_)
 refine n0 ?_  (fun ev w hl ec  d ty p af g => ?_)
 refine n0 ?_  (fun ev w hl ec  d ty p af g => ?_)
 refine AllStepsN.next (fun v w w' h l => h.later l) (fun j b h => by cases h) (fun a w hl hb hd o ho => by obtain ⟨v1, e1, q1⟩ := hd 0 _ _ (by simp) rfl rfl; subst q1; obtain ⟨v2, e2, q2⟩ := hd 1 _ _ (by simp) rfl rfl; subst q2; obtain ⟨v3, e3, q3⟩ := hd 2 _ _ (by simp) rfl rfl; subst q3; obtain ⟨v4, e4, q4⟩ := hd 3 _ _ (by simp) rfl rfl; subst q4; obtain ⟨v5, e5, q5⟩ := hd 4 _ _ (by simp) rfl rfl; subst q5; obtain ⟨v6, e6, q6⟩ := hd 5 _ _ (by simp) rfl rfl; subst q6; obtain ⟨d, op, ty, p, af, gg⟩ := o; simp only at ho; subst ho; have ec : ∀ v, a.eval (.const v) = v := fun _ => rfl; exact Runs.new (w' := w.alloc (.cells #[.int .i64 0, .int .i64 1, .int .i64 1001, .int .i64 1, .int .i64 (-1), .int .i64 1, .int .i64 1, .int .i64 0, .int .i64 1, .int .i64 5, .int .i64 1, .int .i64 11] 37)) (by unfold execOp; generalize a.eval = ev at e1 e2 e3 e4 e5 e6 ec ⊢; simp only [e1, e2, e3, e4, e5, e6, ec]; go_simp) ⟨Lat.alloc _ _, fun _ => ⟨_, rfl, Blk.new _ _ _⟩⟩) ?_
 refine AllStepsN.next (fun _ _ _ h _ => h) (fun j b h => by cases h) (fun a w hl hb hd o ho => by obtain ⟨v1, e1, q1⟩ := hd 6 _ _ (by simp) rfl rfl; obtain ⟨g1, rfl, _⟩ := q1; obtain ⟨d, op, ty, p, af, gg⟩ := o; simp only at ho; subst ho; have ec : ∀ v, a.eval (.const v) = v := fun _ => rfl; exact Runs.val (by unfold execOp; generalize a.eval = ev at e1 ec ⊢; simp only [e1, ec]; go_simp) ⟨Lat.refl _, fun _ => rfl⟩) ?_
 refine n0 ?_  (fun ev w hl ec  d ty p af g => ?_)
 ·exact AllStepsN.none
 all_goals (unfold execOp; first | simp only [e1, e2, ec] | simp only [e1, ec] | simp only [ec])
 all_goals go_simp
noncomputable def kq20r_rows  : List SRow := [
 ⟨Op.move (Operand.tmp 15), some 146, none, [], fun v _ => v = .int .i64 2⟩,
 ⟨Op.binOp BinOp.neq 31 (Operand.tmp 146) (Operand.const (Value.int IntKind.i64 2)) 31, some 147, none, [0], fun v _ => v = .bool false⟩,
 ⟨Op.move (Operand.tmp 147), some 148, none, [1], fun v _ => v = .bool false⟩,
 ⟨Op.move (Operand.tmp 17), some 149, some (2, false), [2], fun v _ => v = .int .i64 2⟩,
 ⟨Op.binOp BinOp.neq 31 (Operand.tmp 149) (Operand.const (Value.int IntKind.i64 2)) 31, some 150, some (2, false), [3, 2], fun v _ => v = .bool false⟩,
 ⟨Op.pick (Operand.tmp 148) (Operand.const (Value.bool true)) (Operand.tmp 150), some 151, none, [2, 4], fun v _ => v = .bool false⟩,
 ⟨Op.move (Operand.tmp 151), some 152, none, [5, 2], fun v _ => v = .bool false⟩,
 ⟨Op.move (Operand.tmp 19), some 153, some (6, false), [6], fun v _ => v = .int .i64 2⟩,
 ⟨Op.binOp BinOp.neq 31 (Operand.tmp 153) (Operand.const (Value.int IntKind.i64 2)) 31, some 154, some (6, false), [7, 6], fun v _ => v = .bool false⟩,
 ⟨Op.pick (Operand.tmp 152) (Operand.const (Value.bool true)) (Operand.tmp 154), some 155, none, [6, 8], fun v _ => v = .bool false⟩]
noncomputable def kq20r_base  (v0 v1 v2 v3 v4 v5 v6 v7 v8 v9 v10 v11 v12 v13 v14 v16 v18 v20 v21 v22 v23 v24 v25 v26 v27 v28 v29 v30 v31 v32 v33 v34 v35 v36 v37 v38 v39 v40 v41 v42 v43 v44 v45 v46 v47 v48 v49 v50 v51 v52 v53 v54 v55 v56 v57 v58 v59 v60 v61 v62 v63 v64 v65 v66 v67 v68 v69 v70 v71 v72 v73 v74 v75 v76 v77 v78 v79 v80 v81 v82 v83 v84 v85 v86 v87 v88 v89 v90 v91 v92 v93 v94 v95 v96 v97 v98 v99 v100 v101 v102 v103 v104 v105 v106 v107 v108 v109 v110 v111 v112 v113 v114 v115 v116 v117 v118 v119 v120 v121 v122 v123 v124 v125 v126 v127 v128 v129 v130 v131 v132 v133 v134 v135 v136 v137 v138 v139 v140 v141 v142 v143 v144 v145 v156 v157 v158 v159 v160 v161 v162 v163 v164 v165 v166 v167 v168 v169 v170 v171 v172 v173 v174 v175 v176 v177 v178 v179 v180 v181 v182 v183 v184 v185 v186 v187 v188 v189 v190 v191 v192 v193 v194 v195 v196 v197 v198 v199 v200 v201 v202 v203 v204 v205 v206 v207 v208 v209 v210 v211 v212 v213 v214 v215 v216 v217 v218 v219 v220 v221 v222 v223 v224 v225 v226 v227 v228 v229 v230 v231 v232 v233 v234 v235 v236 v237 v238 v239 v240 v241 v242 v243 v244 v245 v246 v247 v248 v249 v250 v251 v252 v253 v254 v255 v256 v257 v258 v259 v260 v261 v262 v263 v264 v265 v266 v267 v268 v269 v270 v271 v272 v273 v274 v275 v276 v277 v278 v279 v280 v281 v282 v283 v284 v285 v286 v287 v288 v289 v290 v291 v292 v293 v294 v295 v296 v297 v298 v299 v300 v301 v302 v303 v304 v305 v306 v307 v308 v309 v310 v311 v312 v313 v314 : Value) : List (Nat × Value) := [(15, .int .i64 2), (17, .int .i64 2), (19, .int .i64 2), (0, v0), (1, v1), (2, v2), (3, v3), (4, v4), (5, v5), (6, v6), (7, v7), (8, v8), (9, v9), (10, v10), (11, v11), (12, v12), (13, v13), (14, v14), (16, v16), (18, v18), (20, v20), (21, v21), (22, v22), (23, v23), (24, v24), (25, v25), (26, v26), (27, v27), (28, v28), (29, v29), (30, v30), (31, v31), (32, v32), (33, v33), (34, v34), (35, v35), (36, v36), (37, v37), (38, v38), (39, v39), (40, v40), (41, v41), (42, v42), (43, v43), (44, v44), (45, v45), (46, v46), (47, v47), (48, v48), (49, v49), (50, v50), (51, v51), (52, v52), (53, v53), (54, v54), (55, v55), (56, v56), (57, v57), (58, v58), (59, v59), (60, v60), (61, v61), (62, v62), (63, v63), (64, v64), (65, v65), (66, v66), (67, v67), (68, v68), (69, v69), (70, v70), (71, v71), (72, v72), (73, v73), (74, v74), (75, v75), (76, v76), (77, v77), (78, v78), (79, v79), (80, v80), (81, v81), (82, v82), (83, v83), (84, v84), (85, v85), (86, v86), (87, v87), (88, v88), (89, v89), (90, v90), (91, v91), (92, v92), (93, v93), (94, v94), (95, v95), (96, v96), (97, v97), (98, v98), (99, v99), (100, v100), (101, v101), (102, v102), (103, v103), (104, v104), (105, v105), (106, v106), (107, v107), (108, v108), (109, v109), (110, v110), (111, v111), (112, v112), (113, v113), (114, v114), (115, v115), (116, v116), (117, v117), (118, v118), (119, v119), (120, v120), (121, v121), (122, v122), (123, v123), (124, v124), (125, v125), (126, v126), (127, v127), (128, v128), (129, v129), (130, v130), (131, v131), (132, v132), (133, v133), (134, v134), (135, v135), (136, v136), (137, v137), (138, v138), (139, v139), (140, v140), (141, v141), (142, v142), (143, v143), (144, v144), (145, v145), (156, v156), (157, v157), (158, v158), (159, v159), (160, v160), (161, v161), (162, v162), (163, v163), (164, v164), (165, v165), (166, v166), (167, v167), (168, v168), (169, v169), (170, v170), (171, v171), (172, v172), (173, v173), (174, v174), (175, v175), (176, v176), (177, v177), (178, v178), (179, v179), (180, v180), (181, v181), (182, v182), (183, v183), (184, v184), (185, v185), (186, v186), (187, v187), (188, v188), (189, v189), (190, v190), (191, v191), (192, v192), (193, v193), (194, v194), (195, v195), (196, v196), (197, v197), (198, v198), (199, v199), (200, v200), (201, v201), (202, v202), (203, v203), (204, v204), (205, v205), (206, v206), (207, v207), (208, v208), (209, v209), (210, v210), (211, v211), (212, v212), (213, v213), (214, v214), (215, v215), (216, v216), (217, v217), (218, v218), (219, v219), (220, v220), (221, v221), (222, v222), (223, v223), (224, v224), (225, v225), (226, v226), (227, v227), (228, v228), (229, v229), (230, v230), (231, v231), (232, v232), (233, v233), (234, v234), (235, v235), (236, v236), (237, v237), (238, v238), (239, v239), (240, v240), (241, v241), (242, v242), (243, v243), (244, v244), (245, v245), (246, v246), (247, v247), (248, v248), (249, v249), (250, v250), (251, v251), (252, v252), (253, v253), (254, v254), (255, v255), (256, v256), (257, v257), (258, v258), (259, v259), (260, v260), (261, v261), (262, v262), (263, v263), (264, v264), (265, v265), (266, v266), (267, v267), (268, v268), (269, v269), (270, v270), (271, v271), (272, v272), (273, v273), (274, v274), (275, v275), (276, v276), (277, v277), (278, v278), (279, v279), (280, v280), (281, v281), (282, v282), (283, v283), (284, v284), (285, v285), (286, v286), (287, v287), (288, v288), (289, v289), (290, v290), (291, v291), (292, v292), (293, v293), (294, v294), (295, v295), (296, v296), (297, v297), (298, v298), (299, v299), (300, v300), (301, v301), (302, v302), (303, v303), (304, v304), (305, v305), (306, v306), (307, v307), (308, v308), (309, v309), (310, v310), (311, v311), (312, v312), (313, v313), (314, v314)]
set_option maxRecDepth 100000 in
set_option maxHeartbeats 4000000 in
theorem kq20r_steps (V : World)  (v0 v1 v2 v3 v4 v5 v6 v7 v8 v9 v10 v11 v12 v13 v14 v16 v18 v20 v21 v22 v23 v24 v25 v26 v27 v28 v29 v30 v31 v32 v33 v34 v35 v36 v37 v38 v39 v40 v41 v42 v43 v44 v45 v46 v47 v48 v49 v50 v51 v52 v53 v54 v55 v56 v57 v58 v59 v60 v61 v62 v63 v64 v65 v66 v67 v68 v69 v70 v71 v72 v73 v74 v75 v76 v77 v78 v79 v80 v81 v82 v83 v84 v85 v86 v87 v88 v89 v90 v91 v92 v93 v94 v95 v96 v97 v98 v99 v100 v101 v102 v103 v104 v105 v106 v107 v108 v109 v110 v111 v112 v113 v114 v115 v116 v117 v118 v119 v120 v121 v122 v123 v124 v125 v126 v127 v128 v129 v130 v131 v132 v133 v134 v135 v136 v137 v138 v139 v140 v141 v142 v143 v144 v145 v156 v157 v158 v159 v160 v161 v162 v163 v164 v165 v166 v167 v168 v169 v170 v171 v172 v173 v174 v175 v176 v177 v178 v179 v180 v181 v182 v183 v184 v185 v186 v187 v188 v189 v190 v191 v192 v193 v194 v195 v196 v197 v198 v199 v200 v201 v202 v203 v204 v205 v206 v207 v208 v209 v210 v211 v212 v213 v214 v215 v216 v217 v218 v219 v220 v221 v222 v223 v224 v225 v226 v227 v228 v229 v230 v231 v232 v233 v234 v235 v236 v237 v238 v239 v240 v241 v242 v243 v244 v245 v246 v247 v248 v249 v250 v251 v252 v253 v254 v255 v256 v257 v258 v259 v260 v261 v262 v263 v264 v265 v266 v267 v268 v269 v270 v271 v272 v273 v274 v275 v276 v277 v278 v279 v280 v281 v282 v283 v284 v285 v286 v287 v288 v289 v290 v291 v292 v293 v294 v295 v296 v297 v298 v299 v300 v301 v302 v303 v304 v305 v306 v307 v308 v309 v310 v311 v312 v313 v314 : Value)  :
  AllStepsN Tryz.prog (kq20r_rows ) (kq20r_base  v0 v1 v2 v3 v4 v5 v6 v7 v8 v9 v10 v11 v12 v13 v14 v16 v18 v20 v21 v22 v23 v24 v25 v26 v27 v28 v29 v30 v31 v32 v33 v34 v35 v36 v37 v38 v39 v40 v41 v42 v43 v44 v45 v46 v47 v48 v49 v50 v51 v52 v53 v54 v55 v56 v57 v58 v59 v60 v61 v62 v63 v64 v65 v66 v67 v68 v69 v70 v71 v72 v73 v74 v75 v76 v77 v78 v79 v80 v81 v82 v83 v84 v85 v86 v87 v88 v89 v90 v91 v92 v93 v94 v95 v96 v97 v98 v99 v100 v101 v102 v103 v104 v105 v106 v107 v108 v109 v110 v111 v112 v113 v114 v115 v116 v117 v118 v119 v120 v121 v122 v123 v124 v125 v126 v127 v128 v129 v130 v131 v132 v133 v134 v135 v136 v137 v138 v139 v140 v141 v142 v143 v144 v145 v156 v157 v158 v159 v160 v161 v162 v163 v164 v165 v166 v167 v168 v169 v170 v171 v172 v173 v174 v175 v176 v177 v178 v179 v180 v181 v182 v183 v184 v185 v186 v187 v188 v189 v190 v191 v192 v193 v194 v195 v196 v197 v198 v199 v200 v201 v202 v203 v204 v205 v206 v207 v208 v209 v210 v211 v212 v213 v214 v215 v216 v217 v218 v219 v220 v221 v222 v223 v224 v225 v226 v227 v228 v229 v230 v231 v232 v233 v234 v235 v236 v237 v238 v239 v240 v241 v242 v243 v244 v245 v246 v247 v248 v249 v250 v251 v252 v253 v254 v255 v256 v257 v258 v259 v260 v261 v262 v263 v264 v265 v266 v267 v268 v269 v270 v271 v272 v273 v274 v275 v276 v277 v278 v279 v280 v281 v282 v283 v284 v285 v286 v287 v288 v289 v290 v291 v292 v293 v294 v295 v296 v297 v298 v299 v300 v301 v302 v303 v304 v305 v306 v307 v308 v309 v310 v311 v312 v313 v314) V (kq20r_rows ) := by
 refine n1 ?_ (eb 15) (fun ev w hl ec e1 d ty p af g => ?_)
 refine n1 ?_ (ed 0) (fun ev w hl ec e1 d ty p af g => ?_)
 refine n1 ?_ (ed 1) (fun ev w hl ec e1 d ty p af g => ?_)
 refine n1 ?_ (eb 17) (fun ev w hl ec e1 d ty p af g => ?_)
 refine n1 ?_ (ed 3) (fun ev w hl ec e1 d ty p af g => ?_)
 refine n2 ?_ (ed 2) (ed 4) (fun ev w hl ec e1 e2 d ty p af g => ?_)
 refine n1 ?_ (ed 5) (fun ev w hl ec e1 d ty p af g => ?_)
 refine n1 ?_ (eb 19) (fun ev w hl ec e1 d ty p af g => ?_)
 refine n1 ?_ (ed 7) (fun ev w hl ec e1 d ty p af g => ?_)
 refine n2 ?_ (ed 6) (ed 8) (fun ev w hl ec e1 e2 d ty p af g => ?_)
 ·exact AllStepsN.none
 all_goals (unfold execOp; first | simp only [e1, e2, ec] | simp only [e1, ec] | simp only [ec])
 all_goals go_simp
noncomputable def kq23r_rows (g11 : Nat) : List SRow := [
 ⟨Op.buildSlice 27 2 #[(0, Operand.const (Value.int IntKind.i64 0)), (1, Operand.const (Value.int IntKind.i64 0))], some 157, none, [], fun v w => ∃ g : Nat, v = .slice (some ⟨g, 0, none⟩) 2 2 ∧ Blk w g 3 #[.int .i64 0, .int .i64 0]⟩,
 ⟨Op.buildSlice 27 1 #[(0, Operand.const (Value.int IntKind.i64 (-1)))], some 158, none, [], fun v w => ∃ g : Nat, v = .slice (some ⟨g, 0, none⟩) 1 1 ∧ Blk w g 3 #[.int .i64 (-1)]⟩,
 ⟨Op.buildSlice 27 1 #[(0, Operand.const (Value.int IntKind.i64 3))], some 159, none, [], fun v w => ∃ g : Nat, v = .slice (some ⟨g, 0, none⟩) 1 1 ∧ Blk w g 3 #[.int .i64 3]⟩,
 ⟨Op.buildSlice 27 1 #[(0, Operand.const (Value.int IntKind.i64 4611686018427387904))], some 160, none, [], fun v w => ∃ g : Nat, v = .slice (some ⟨g, 0, none⟩) 1 1 ∧ Blk w g 3 #[.int .i64 4611686018427387904]⟩,
 ⟨Op.buildSlice 66 4 #[(0, Operand.tmp 157), (1, Operand.tmp 158), (2, Operand.tmp 159), (3, Operand.tmp 160)], some 161, none, [0, 1, 2, 3], FourL⟩,
 ⟨Op.call { callee := Callee.builtin Builtin.len, args := #[Operand.tmp 161], argTypes := #[66] }, some 162, none, [4], fun v _ => v = .int .i64 4⟩,
 ⟨Op.move (Operand.const (Value.int IntKind.i64 0)), some 163, none, [], fun v _ => v = .int .i64 0⟩]
noncomputable def kq23r_base (g11 : Nat) : List (Nat × Value) := [(11, .slice (some ⟨g11, 0, none⟩) 1 1)]
set_option maxRecDepth 100000 in
set_option maxHeartbeats 4000000 in
theorem kq23r_steps (V : World) (g11 : Nat)  :
  AllStepsN Tryz.prog (kq23r_rows g11) (kq23r_base g11) V (kq23r_rows g11) := by
 refine AllStepsN.next (fun v w w' h l => by obtain ⟨g, h1, h2⟩ := h; exact ⟨g, h1, h2.later l⟩) (fun j b h => by cases h) (fun a w hl hb hd o ho => by obtain ⟨d, op, ty, p, af, gg⟩ := o; simp only at ho; subst ho; have ec : ∀ v, a.eval (.const v) = v := fun _ => rfl; exact Runs.new (w' := w.alloc (.cells #[.int .i64 0, .int .i64 0] 3)) (by unfold execOp; generalize a.eval = ev at ec ⊢; simp only [ec]; go_simp) ⟨Lat.alloc _ _, fun _ => ⟨_, rfl, Blk.new _ _ _⟩⟩) ?_
 refine AllStepsN.next (fun v w w' h l => by obtain ⟨g, h1, h2⟩ := h; exact ⟨g, h1, h2.later l⟩) (fun j b h => by cases h) (fun a w hl hb hd o ho => by obtain ⟨d, op, ty, p, af, gg⟩ := o; simp only at ho; subst ho; have ec : ∀ v, a.eval (.const v) = v := fun _ => rfl; exact Runs.new (w' := w.alloc (.cells #[.int .i64 (-1)] 3)) (by unfold execOp; generalize a.eval = ev at ec ⊢; simp only [ec]; go_simp) ⟨Lat.alloc _ _, fun _ => ⟨_, rfl, Blk.new _ _ _⟩⟩) ?_
 refine AllStepsN.next (fun v w w' h l => by obtain ⟨g, h1, h2⟩ := h; exact ⟨g, h1, h2.later l⟩) (fun j b h => by cases h) (fun a w hl hb hd o ho => by obtain ⟨d, op, ty, p, af, gg⟩ := o; simp only at ho; subst ho; have ec : ∀ v, a.eval (.const v) = v := fun _ => rfl; exact Runs.new (w' := w.alloc (.cells #[.int .i64 3] 3)) (by unfold execOp; generalize a.eval = ev at ec ⊢; simp only [ec]; go_simp) ⟨Lat.alloc _ _, fun _ => ⟨_, rfl, Blk.new _ _ _⟩⟩) ?_
 refine AllStepsN.next (fun v w w' h l => by obtain ⟨g, h1, h2⟩ := h; exact ⟨g, h1, h2.later l⟩) (fun j b h => by cases h) (fun a w hl hb hd o ho => by obtain ⟨d, op, ty, p, af, gg⟩ := o; simp only at ho; subst ho; have ec : ∀ v, a.eval (.const v) = v := fun _ => rfl; exact Runs.new (w' := w.alloc (.cells #[.int .i64 4611686018427387904] 3)) (by unfold execOp; generalize a.eval = ev at ec ⊢; simp only [ec]; go_simp) ⟨Lat.alloc _ _, fun _ => ⟨_, rfl, Blk.new _ _ _⟩⟩) ?_
 refine AllStepsN.next (fun v w w' h l => h.later l) (fun j b h => by cases h) (fun a w hl hb hd o ho => by obtain ⟨v1, e1, q1⟩ := hd 0 _ _ (by simp) rfl rfl; obtain ⟨g1, rfl, b1⟩ := q1; obtain ⟨v2, e2, q2⟩ := hd 1 _ _ (by simp) rfl rfl; obtain ⟨g2, rfl, b2⟩ := q2; obtain ⟨v3, e3, q3⟩ := hd 2 _ _ (by simp) rfl rfl; obtain ⟨g3, rfl, b3⟩ := q3; obtain ⟨v4, e4, q4⟩ := hd 3 _ _ (by simp) rfl rfl; obtain ⟨g4, rfl, b4⟩ := q4; obtain ⟨d, op, ty, p, af, gg⟩ := o; simp only at ho; subst ho; have ec : ∀ v, a.eval (.const v) = v := fun _ => rfl; exact Runs.new (w' := w.alloc (.cells #[.slice (some ⟨g1, 0, none⟩) 2 2, .slice (some ⟨g2, 0, none⟩) 1 1, .slice (some ⟨g3, 0, none⟩) 1 1, .slice (some ⟨g4, 0, none⟩) 1 1] 27)) (by unfold execOp; generalize a.eval = ev at e1 e2 e3 e4 ec ⊢; simp only [e1, e2, e3, e4, ec]; go_simp) ⟨Lat.alloc _ _, fun _ => ⟨_, _, _, _, _, rfl, Blk.new _ _ _, b1.later (Lat.alloc _ _), b2.later (Lat.alloc _ _), b3.later (Lat.alloc _ _), b4.later (Lat.alloc _ _)⟩⟩) ?_
 refine AllStepsN.next (fun _ _ _ h _ => h) (fun j b h => by cases h) (fun a w hl hb hd o ho => by obtain ⟨v1, e1, q1⟩ := hd 4 _ _ (by simp) rfl rfl; obtain ⟨g, g1, g2, g3, g4, rfl, _⟩ := q1; obtain ⟨d, op, ty, p, af, gg⟩ := o; simp only at ho; subst ho; have ec : ∀ v, a.eval (.const v) = v := fun _ => rfl; exact Runs.val (by unfold execOp; generalize a.eval = ev at e1 ec ⊢; simp only [e1, ec]; go_simp) ⟨Lat.refl _, fun _ => rfl⟩) ?_
 refine n0 ?_  (fun ev w hl ec  d ty p af g => ?_)
 ·exact AllStepsN.none
 all_goals (unfold execOp; first | simp only [e1, e2, ec] | simp only [e1, ec] | simp only [ec])
 all_goals go_simp
noncomputable def kq42r_rows (g11 g24 g42 c42 g44 c44 : Nat) : List SRow := [
 ⟨Op.move (Operand.tmp 25), some 251, none, [], fun v _ => v = .bool true⟩,
 ⟨Op.move (Operand.tmp 251), some 252, none, [0], fun v _ => v = .bool true⟩,
 ⟨Op.move (Operand.tmp 24), some 253, some (1, true), [1], fun v _ => v = .slice (some ⟨g24, 0, none⟩) 2 2⟩,
 ⟨Op.buildSlice 27 2 #[(0, Operand.const (Value.int IntKind.i64 500)), (1, Operand.const (Value.int IntKind.i64 500))], some 254, some (1, true), [1], fun v w => ∃ g : Nat, v = .slice (some ⟨g, 0, none⟩) 2 2 ∧ Blk w g 3 #[.int .i64 500, .int .i64 500]⟩,
 ⟨Op.build 54 #[(0, Operand.tmp 254)], some 255, some (1, true), [3, 1], fun v w => ∃ g : Nat, v = .agg #[.slice (some ⟨g, 0, none⟩) 2 2, .slice none 0 0, .int .i64 0] ∧ Blk w g 3 #[.int .i64 500, .int .i64 500]⟩,
 ⟨Op.call { callee := Callee.value (Operand.func 33), args := #[Operand.tmp 253, Operand.const (Value.int IntKind.i64 1000), Operand.const (Value.int IntKind.i64 1), Operand.const (Value.slice none 0 0), Operand.tmp 255], argTypes := #[27, 3, 3, 27, 54] }, some 256, some (1, true), [2, 4, 1, 1], fun v _ => v = .bool true⟩,
 ⟨Op.pick (Operand.tmp 252) (Operand.tmp 256) (Operand.const (Value.bool false)), some 257, none, [1, 5], fun v _ => v = .bool true⟩,
 ⟨Op.move (Operand.tmp 257), some 258, none, [6, 5], fun v _ => v = .bool true⟩,
 ⟨Op.move (Operand.tmp 11), some 259, some (7, true), [7], fun v _ => v = .slice (some ⟨g11, 0, none⟩) 1 1⟩,
 ⟨Op.buildSlice 27 1 #[(0, Operand.const (Value.int IntKind.i64 1000))], some 260, some (7, true), [7], fun v w => ∃ g : Nat, v = .slice (some ⟨g, 0, none⟩) 1 1 ∧ Blk w g 3 #[.int .i64 1000]⟩,
 ⟨Op.buildSlice 27 1 #[(0, Operand.const (Value.int IntKind.i64 1000))], some 261, some (7, true), [7], fun v w => ∃ g : Nat, v = .slice (some ⟨g, 0, none⟩) 1 1 ∧ Blk w g 3 #[.int .i64 1000]⟩,
 ⟨Op.build 54 #[(0, Operand.tmp 261)], some 262, some (7, true), [10, 7], fun v w => ∃ g : Nat, v = .agg #[.slice (some ⟨g, 0, none⟩) 1 1, .slice none 0 0, .int .i64 0] ∧ Blk w g 3 #[.int .i64 1000]⟩,
 ⟨Op.call { callee := Callee.value (Operand.func 33), args := #[Operand.tmp 259, Operand.const (Value.int IntKind.i64 1000), Operand.const (Value.int IntKind.i64 1), Operand.tmp 260, Operand.tmp 262], argTypes := #[27, 3, 3, 27, 54] }, some 263, some (7, true), [8, 9, 11, 7, 7], fun v _ => v = .bool true⟩,
 ⟨Op.pick (Operand.tmp 258) (Operand.tmp 263) (Operand.const (Value.bool false)), some 264, none, [7, 12], fun v _ => v = .bool true⟩,
 ⟨Op.move (Operand.tmp 264), some 265, none, [13, 12], fun v _ => v = .bool true⟩,
 ⟨Op.move (Operand.tmp 27), some 266, some (14, true), [14], fun v _ => v = .int .i64 9⟩,
 ⟨Op.binOp BinOp.eql 31 (Operand.tmp 266) (Operand.const (Value.int IntKind.i64 9)) 31, some 267, some (14, true), [15, 14], fun v _ => v = .bool true⟩,
 ⟨Op.pick (Operand.tmp 265) (Operand.tmp 267) (Operand.const (Value.bool false)), some 268, none, [14, 16], fun v _ => v = .bool true⟩,
 ⟨Op.move (Operand.tmp 268), some 269, none, [17, 14], fun v _ => v = .bool true⟩,
 ⟨Op.move (Operand.tmp 29), some 270, some (18, true), [18], fun v _ => v = .int .i64 9⟩,
 ⟨Op.binOp BinOp.eql 31 (Operand.tmp 270) (Operand.const (Value.int IntKind.i64 9)) 31, some 271, some (18, true), [19, 18], fun v _ => v = .bool true⟩,
 ⟨Op.pick (Operand.tmp 269) (Operand.tmp 271) (Operand.const (Value.bool false)), some 272, none, [18, 20], fun v _ => v = .bool true⟩,
 ⟨Op.move (Operand.tmp 272), some 273, none, [21, 18], fun v _ => v = .bool true⟩,
 ⟨Op.move (Operand.tmp 31), some 274, some (22, true), [22], fun v _ => v = .int .i64 2⟩,
 ⟨Op.binOp BinOp.eql 31 (Operand.tmp 274) (Operand.const (Value.int IntKind.i64 2)) 31, some 275, some (22, true), [23, 22], fun v _ => v = .bool true⟩,
 ⟨Op.pick (Operand.tmp 273) (Operand.tmp 275) (Operand.const (Value.bool false)), some 276, none, [22, 24], fun v _ => v = .bool true⟩,
 ⟨Op.move (Operand.tmp 276), some 277, none, [25, 22], fun v _ => v = .bool true⟩,
 ⟨Op.move (Operand.tmp 33), some 278, some (26, true), [26], fun v _ => v = .int .i64 2⟩,
 ⟨Op.binOp BinOp.eql 31 (Operand.tmp 278) (Operand.const (Value.int IntKind.i64 2)) 31, some 279, some (26, true), [27, 26], fun v _ => v = .bool true⟩,
 ⟨Op.pick (Operand.tmp 277) (Operand.tmp 279) (Operand.const (Value.bool false)), some 280, none, [26, 28], fun v _ => v = .bool true⟩,
 ⟨Op.move (Operand.tmp 280), some 281, none, [29, 26], fun v _ => v = .bool true⟩,
 ⟨Op.move (Operand.tmp 35), some 282, some (30, true), [30], fun v _ => v = .int .i64 2⟩,
 ⟨Op.binOp BinOp.eql 31 (Operand.tmp 282) (Operand.const (Value.int IntKind.i64 2)) 31, some 283, some (30, true), [31, 30], fun v _ => v = .bool true⟩,
 ⟨Op.pick (Operand.tmp 281) (Operand.tmp 283) (Operand.const (Value.bool false)), some 284, none, [30, 32], fun v _ => v = .bool true⟩,
 ⟨Op.move (Operand.tmp 284), some 285, none, [33, 30], fun v _ => v = .bool true⟩,
 ⟨Op.move (Operand.tmp 37), some 286, some (34, true), [34], fun v _ => v = .int .i64 2⟩,
 ⟨Op.binOp BinOp.eql 31 (Operand.tmp 286) (Operand.const (Value.int IntKind.i64 2)) 31, some 287, some (34, true), [35, 34], fun v _ => v = .bool true⟩,
 ⟨Op.pick (Operand.tmp 285) (Operand.tmp 287) (Operand.const (Value.bool false)), some 288, none, [34, 36], fun v _ => v = .bool true⟩,
 ⟨Op.move (Operand.tmp 288), some 289, none, [37, 34], fun v _ => v = .bool true⟩,
 ⟨Op.move (Operand.tmp 39), some 290, some (38, true), [38], fun v _ => v = .int .i64 2⟩,
 ⟨Op.binOp BinOp.eql 31 (Operand.tmp 290) (Operand.const (Value.int IntKind.i64 2)) 31, some 291, some (38, true), [39, 38], fun v _ => v = .bool true⟩,
 ⟨Op.pick (Operand.tmp 289) (Operand.tmp 291) (Operand.const (Value.bool false)), some 292, none, [38, 40], fun v _ => v = .bool true⟩,
 ⟨Op.move (Operand.tmp 292), some 293, none, [41, 38], fun v _ => v = .bool true⟩,
 ⟨Op.move (Operand.tmp 41), some 294, some (42, true), [42], fun v _ => v = .int .i64 4⟩,
 ⟨Op.binOp BinOp.eql 31 (Operand.tmp 294) (Operand.const (Value.int IntKind.i64 4)) 31, some 295, some (42, true), [43, 42], fun v _ => v = .bool true⟩,
 ⟨Op.pick (Operand.tmp 293) (Operand.tmp 295) (Operand.const (Value.bool false)), some 296, none, [42, 44], fun v _ => v = .bool true⟩,
 ⟨Op.move (Operand.tmp 296), some 297, none, [45, 42], fun v _ => v = .bool true⟩,
 ⟨Op.move (Operand.tmp 42), some 298, some (46, true), [46], fun v _ => v = .slice (some ⟨g42, 0, none⟩) 3 c42⟩,
 ⟨Op.buildSlice 27 3 #[(0, Operand.const (Value.int IntKind.i64 1)), (1, Operand.const (Value.int IntKind.i64 2)), (2, Operand.const (Value.int IntKind.i64 1))], some 299, some (46, true), [46], fun v w => ∃ g : Nat, v = .slice (some ⟨g, 0, none⟩) 3 3 ∧ Blk w g 3 #[.int .i64 1, .int .i64 2, .int .i64 1]⟩,
 ⟨Op.call { callee := Callee.value (Operand.func 31), args := #[Operand.tmp 298, Operand.tmp 299], argTypes := #[27, 27] }, some 300, some (46, true), [47, 48, 46, 46], fun v _ => v = .bool true⟩,
 ⟨Op.pick (Operand.tmp 297) (Operand.tmp 300) (Operand.const (Value.bool false)), some 301, none, [46, 49], fun v _ => v = .bool true⟩,
 ⟨Op.move (Operand.tmp 301), some 302, none, [50, 49], fun v _ => v = .bool true⟩,
 ⟨Op.move (Operand.tmp 43), some 303, some (51, true), [51], fun v _ => v = .int .i64 0⟩,
 ⟨Op.binOp BinOp.eql 31 (Operand.tmp 303) (Operand.const (Value.int IntKind.i64 0)) 31, some 304, some (51, true), [52, 51], fun v _ => v = .bool true⟩,
 ⟨Op.pick (Operand.tmp 302) (Operand.tmp 304) (Operand.const (Value.bool false)), some 305, none, [51, 53], fun v _ => v = .bool true⟩,
 ⟨Op.move (Operand.tmp 305), some 306, none, [54, 51], fun v _ => v = .bool true⟩,
 ⟨Op.move (Operand.tmp 44), some 307, some (55, true), [55], fun v _ => v = .slice (some ⟨g44, 0, none⟩) 2 c44⟩,
 ⟨Op.buildSlice 27 2 #[(0, Operand.const (Value.int IntKind.i64 1000)), (1, Operand.const (Value.int IntKind.i64 0))], some 308, some (55, true), [55], fun v w => ∃ g : Nat, v = .slice (some ⟨g, 0, none⟩) 2 2 ∧ Blk w g 3 #[.int .i64 1000, .int .i64 0]⟩,
 ⟨Op.call { callee := Callee.value (Operand.func 31), args := #[Operand.tmp 307, Operand.tmp 308], argTypes := #[27, 27] }, some 309, some (55, true), [56, 57, 55, 55], fun v _ => v = .bool true⟩,
 ⟨Op.pick (Operand.tmp 306) (Operand.tmp 309) (Operand.const (Value.bool false)), some 310, none, [55, 58], fun v _ => v = .bool true⟩,
 ⟨Op.move (Operand.tmp 310), some 311, none, [59, 58], fun v _ => v = .bool true⟩,
 ⟨Op.move (Operand.tmp 45), some 312, some (60, true), [60], fun v _ => v = .int .i64 0⟩,
 ⟨Op.binOp BinOp.eql 31 (Operand.tmp 312) (Operand.const (Value.int IntKind.i64 0)) 31, some 313, some (60, true), [61, 60], fun v _ => v = .bool true⟩,
 ⟨Op.pick (Operand.tmp 311) (Operand.tmp 313) (Operand.const (Value.bool false)), some 314, none, [60, 62], fun v _ => v = .bool true⟩,
 ⟨Op.assign (Operand.tmp 314), some 0, none, [63, 60, 0, 1, 2, 3, 4, 5, 6, 7, 8, 9, 10, 11, 12, 13, 14, 15, 16, 17, 18, 19, 20, 21, 22, 23, 24, 25, 26, 27, 28, 29, 30, 31, 32, 33, 34, 35, 36, 37, 38, 39, 40, 41, 42, 43, 44, 45, 46, 47, 48, 49, 50, 51, 52, 53, 54, 55, 56, 57, 58, 59, 60, 61, 62, 63], fun v _ => v = .bool true⟩]
noncomputable def kq42r_base (g11 g24 g42 c42 g44 c44 : Nat) : List (Nat × Value) := [(11, .slice (some ⟨g11, 0, none⟩) 1 1), (24, .slice (some ⟨g24, 0, none⟩) 2 2), (25, .bool true), (27, .int .i64 9), (29, .int .i64 9), (31, .int .i64 2), (33, .int .i64 2), (35, .int .i64 2), (37, .int .i64 2), (39, .int .i64 2), (41, .int .i64 4), (42, .slice (some ⟨g42, 0, none⟩) 3 c42), (43, .int .i64 0), (44, .slice (some ⟨g44, 0, none⟩) 2 c44), (45, .int .i64 0)]
set_option maxRecDepth 100000 in
set_option maxHeartbeats 4000000 in
theorem kq42r_steps (V : World) (g11 g24 g42 c42 g44 c44 : Nat) (HG1 : ∀ w, Lat V w → ∀ (ga : Nat) (ba : Blk w ga 3 #[.int .i64 500, .int .i64 500]), Calls Tryz.prog 33 #[.slice (some ⟨g24, 0, none⟩) 2 2, .int .i64 1000, .int .i64 1, .slice none 0 0, .agg #[.slice (some ⟨ga, 0, none⟩) 2 2, .slice none 0 0, .int .i64 0]] w (fun e w' => e = .returned (.bool true) ∧ Lat w w')) (HG2 : ∀ w, Lat V w → ∀ (gp : Nat) (bp : Blk w gp 3 #[.int .i64 1000]) (ga : Nat) (ba : Blk w ga 3 #[.int .i64 1000]), Calls Tryz.prog 33 #[.slice (some ⟨g11, 0, none⟩) 1 1, .int .i64 1000, .int .i64 1, .slice (some ⟨gp, 0, none⟩) 1 1, .agg #[.slice (some ⟨ga, 0, none⟩) 1 1, .slice none 0 0, .int .i64 0]] w (fun e w' => e = .returned (.bool true) ∧ Lat w w')) (HE1 : ∀ w, Lat V w → ∀ (g2 : Nat) (b2 : Blk w g2 3 #[.int .i64 1, .int .i64 2, .int .i64 1]), Calls Tryz.prog 31 #[.slice (some ⟨g42, 0, none⟩) 3 c42, .slice (some ⟨g2, 0, none⟩) 3 3] w (fun e w' => e = .returned (.bool true) ∧ Lat w w')) (HE2 : ∀ w, Lat V w → ∀ (g2 : Nat) (b2 : Blk w g2 3 #[.int .i64 1000, .int .i64 0]), Calls Tryz.prog 31 #[.slice (some ⟨g44, 0, none⟩) 2 c44, .slice (some ⟨g2, 0, none⟩) 2 2] w (fun e w' => e = .returned (.bool true) ∧ Lat w w')) :
  AllStepsN Tryz.prog (kq42r_rows g11 g24 g42 c42 g44 c44) (kq42r_base g11 g24 g42 c42 g44 c44) V (kq42r_rows g11 g24 g42 c42 g44 c44) := by
 refine n1 ?_ (eb 25) (fun ev w hl ec e1 d ty p af g => ?_)
 refine n1 ?_ (ed 0) (fun ev w hl ec e1 d ty p af g => ?_)
 refine n1 ?_ (eb 24) (fun ev w hl ec e1 d ty p af g => ?_)
 refine AllStepsN.next (fun v w w' h l => by obtain ⟨g, h1, h2⟩ := h; exact ⟨g, h1, h2.later l⟩) (fun j b h => by cases h; exact ⟨_, rfl, ⟨_, rfl⟩, by simp, fun _ _ h => h⟩) (fun a w hl hb hd o ho => by obtain ⟨d, op, ty, p, af, gg⟩ := o; simp only at ho; subst ho; have ec : ∀ v, a.eval (.const v) = v := fun _ => rfl; exact Runs.new (w' := w.alloc (.cells #[.int .i64 500, .int .i64 500] 3)) (by unfold execOp; generalize a.eval = ev at ec ⊢; simp only [ec]; go_simp) ⟨Lat.alloc _ _, fun _ => ⟨_, rfl, Blk.new _ _ _⟩⟩) ?_
 refine AllStepsN.next (fun v w w' h l => by obtain ⟨g, h1, h2⟩ := h; exact ⟨g, h1, h2.later l⟩) (fun j b h => by cases h; exact ⟨_, rfl, ⟨_, rfl⟩, by simp, fun _ _ h => h⟩) (fun a w hl hb hd o ho => by obtain ⟨v1, e1, q1⟩ := hd 3 _ _ (by simp) rfl rfl; obtain ⟨g, rfl, b1⟩ := q1; obtain ⟨d, op, ty, p, af, gg⟩ := o; simp only at ho; subst ho; have ec : ∀ v, a.eval (.const v) = v := fun _ => rfl; exact Runs.val (by unfold execOp; generalize a.eval = ev at e1 ec ⊢; simp only [e1, ec]; go_simp) ⟨Lat.refl _, fun _ => ⟨_, rfl, b1⟩⟩) ?_
 refine AllStepsN.next (fun _ _ _ h _ => h) (fun j b h => by cases h; exact ⟨_, rfl, ⟨_, rfl⟩, by simp, fun _ _ h => h⟩) (fun a w hl hb hd o ho => by obtain ⟨v1, e1, q1⟩ := hd 2 _ _ (by simp) rfl rfl; subst q1; obtain ⟨v2, e2, q2⟩ := hd 4 _ _ (by simp) rfl rfl; obtain ⟨x2, rfl, y2⟩ := q2; exact Runs.call (yv_call (f := 33) (fun _ => by go_simp) o ho (by simp only [List.map_toArray, List.map_cons, List.map_nil, eval_const, e1, e2])) ((HG1 w hl x2 y2).mono fun e w' h => ⟨_, h.1, h.2, fun _ => rfl⟩)) ?_
 refine n2 ?_ (ed 1) (ed 5) (fun ev w hl ec e1 e2 d ty p af g => ?_)
 refine n1 ?_ (ed 6) (fun ev w hl ec e1 d ty p af g => ?_)
 refine n1 ?_ (eb 11) (fun ev w hl ec e1 d ty p af g => ?_)
 refine AllStepsN.next (fun v w w' h l => by obtain ⟨g, h1, h2⟩ := h; exact ⟨g, h1, h2.later l⟩) (fun j b h => by cases h; exact ⟨_, rfl, ⟨_, rfl⟩, by simp, fun _ _ h => h⟩) (fun a w hl hb hd o ho => by obtain ⟨d, op, ty, p, af, gg⟩ := o; simp only at ho; subst ho; have ec : ∀ v, a.eval (.const v) = v := fun _ => rfl; exact Runs.new (w' := w.alloc (.cells #[.int .i64 1000] 3)) (by unfold execOp; generalize a.eval = ev at ec ⊢; simp only [ec]; go_simp) ⟨Lat.alloc _ _, fun _ => ⟨_, rfl, Blk.new _ _ _⟩⟩) ?_
 refine AllStepsN.next (fun v w w' h l => by obtain ⟨g, h1, h2⟩ := h; exact ⟨g, h1, h2.later l⟩) (fun j b h => by cases h; exact ⟨_, rfl, ⟨_, rfl⟩, by simp, fun _ _ h => h⟩) (fun a w hl hb hd o ho => by obtain ⟨d, op, ty, p, af, gg⟩ := o; simp only at ho; subst ho; have ec : ∀ v, a.eval (.const v) = v := fun _ => rfl; exact Runs.new (w' := w.alloc (.cells #[.int .i64 1000] 3)) (by unfold execOp; generalize a.eval = ev at ec ⊢; simp only [ec]; go_simp) ⟨Lat.alloc _ _, fun _ => ⟨_, rfl, Blk.new _ _ _⟩⟩) ?_
 refine AllStepsN.next (fun v w w' h l => by obtain ⟨g, h1, h2⟩ := h; exact ⟨g, h1, h2.later l⟩) (fun j b h => by cases h; exact ⟨_, rfl, ⟨_, rfl⟩, by simp, fun _ _ h => h⟩) (fun a w hl hb hd o ho => by obtain ⟨v1, e1, q1⟩ := hd 10 _ _ (by simp) rfl rfl; obtain ⟨g, rfl, b1⟩ := q1; obtain ⟨d, op, ty, p, af, gg⟩ := o; simp only at ho; subst ho; have ec : ∀ v, a.eval (.const v) = v := fun _ => rfl; exact Runs.val (by unfold execOp; generalize a.eval = ev at e1 ec ⊢; simp only [e1, ec]; go_simp) ⟨Lat.refl _, fun _ => ⟨_, rfl, b1⟩⟩) ?_
 refine AllStepsN.next (fun _ _ _ h _ => h) (fun j b h => by cases h; exact ⟨_, rfl, ⟨_, rfl⟩, by simp, fun _ _ h => h⟩) (fun a w hl hb hd o ho => by obtain ⟨v1, e1, q1⟩ := hd 8 _ _ (by simp) rfl rfl; subst q1; obtain ⟨v2, e2, q2⟩ := hd 9 _ _ (by simp) rfl rfl; obtain ⟨x2, rfl, y2⟩ := q2; obtain ⟨v3, e3, q3⟩ := hd 11 _ _ (by simp) rfl rfl; obtain ⟨x3, rfl, y3⟩ := q3; exact Runs.call (yv_call (f := 33) (fun _ => by go_simp) o ho (by simp only [List.map_toArray, List.map_cons, List.map_nil, eval_const, e1, e2, e3])) ((HG2 w hl x2 y2 x3 y3).mono fun e w' h => ⟨_, h.1, h.2, fun _ => rfl⟩)) ?_
 refine n2 ?_ (ed 7) (ed 12) (fun ev w hl ec e1 e2 d ty p af g => ?_)
 refine n1 ?_ (ed 13) (fun ev w hl ec e1 d ty p af g => ?_)
 refine n1 ?_ (eb 27) (fun ev w hl ec e1 d ty p af g => ?_)
 refine n1 ?_ (ed 15) (fun ev w hl ec e1 d ty p af g => ?_)
 refine n2 ?_ (ed 14) (ed 16) (fun ev w hl ec e1 e2 d ty p af g => ?_)
 refine n1 ?_ (ed 17) (fun ev w hl ec e1 d ty p af g => ?_)
 refine n1 ?_ (eb 29) (fun ev w hl ec e1 d ty p af g => ?_)
 refine n1 ?_ (ed 19) (fun ev w hl ec e1 d ty p af g => ?_)
 refine n2 ?_ (ed 18) (ed 20) (fun ev w hl ec e1 e2 d ty p af g => ?_)
 refine n1 ?_ (ed 21) (fun ev w hl ec e1 d ty p af g => ?_)
 refine n1 ?_ (eb 31) (fun ev w hl ec e1 d ty p af g => ?_)
 refine n1 ?_ (ed 23) (fun ev w hl ec e1 d ty p af g => ?_)
 refine n2 ?_ (ed 22) (ed 24) (fun ev w hl ec e1 e2 d ty p af g => ?_)
 refine n1 ?_ (ed 25) (fun ev w hl ec e1 d ty p af g => ?_)
 refine n1 ?_ (eb 33) (fun ev w hl ec e1 d ty p af g => ?_)
 refine n1 ?_ (ed 27) (fun ev w hl ec e1 d ty p af g => ?_)
 refine n2 ?_ (ed 26) (ed 28) (fun ev w hl ec e1 e2 d ty p af g => ?_)
 refine n1 ?_ (ed 29) (fun ev w hl ec e1 d ty p af g => ?_)
 refine n1 ?_ (eb 35) (fun ev w hl ec e1 d ty p af g => ?_)
 refine n1 ?_ (ed 31) (fun ev w hl ec e1 d ty p af g => ?_)
 refine n2 ?_ (ed 30) (ed 32) (fun ev w hl ec e1 e2 d ty p af g => ?_)
 refine n1 ?_ (ed 33) (fun ev w hl ec e1 d ty p af g => ?_)
 refine n1 ?_ (eb 37) (fun ev w hl ec e1 d ty p af g => ?_)
 refine n1 ?_ (ed 35) (fun ev w hl ec e1 d ty p af g => ?_)
 refine n2 ?_ (ed 34) (ed 36) (fun ev w hl ec e1 e2 d ty p af g => ?_)
 refine n1 ?_ (ed 37) (fun ev w hl ec e1 d ty p af g => ?_)
 refine n1 ?_ (eb 39) (fun ev w hl ec e1 d ty p af g => ?_)
 refine n1 ?_ (ed 39) (fun ev w hl ec e1 d ty p af g => ?_)
 refine n2 ?_ (ed 38) (ed 40) (fun ev w hl ec e1 e2 d ty p af g => ?_)
 refine n1 ?_ (ed 41) (fun ev w hl ec e1 d ty p af g => ?_)
 refine n1 ?_ (eb 41) (fun ev w hl ec e1 d ty p af g => ?_)
 refine n1 ?_ (ed 43) (fun ev w hl ec e1 d ty p af g => ?_)
 refine n2 ?_ (ed 42) (ed 44) (fun ev w hl ec e1 e2 d ty p af g => ?_)
 refine n1 ?_ (ed 45) (fun ev w hl ec e1 d ty p af g => ?_)
 refine n1 ?_ (eb 42) (fun ev w hl ec e1 d ty p af g => ?_)
 refine AllStepsN.next (fun v w w' h l => by obtain ⟨g, h1, h2⟩ := h; exact ⟨g, h1, h2.later l⟩) (fun j b h => by cases h; exact ⟨_, rfl, ⟨_, rfl⟩, by simp, fun _ _ h => h⟩) (fun a w hl hb hd o ho => by obtain ⟨d, op, ty, p, af, gg⟩ := o; simp only at ho; subst ho; have ec : ∀ v, a.eval (.const v) = v := fun _ => rfl; exact Runs.new (w' := w.alloc (.cells #[.int .i64 1, .int .i64 2, .int .i64 1] 3)) (by unfold execOp; generalize a.eval = ev at ec ⊢; simp only [ec]; go_simp) ⟨Lat.alloc _ _, fun _ => ⟨_, rfl, Blk.new _ _ _⟩⟩) ?_
 refine AllStepsN.next (fun _ _ _ h _ => h) (fun j b h => by cases h; exact ⟨_, rfl, ⟨_, rfl⟩, by simp, fun _ _ h => h⟩) (fun a w hl hb hd o ho => by obtain ⟨v1, e1, q1⟩ := hd 47 _ _ (by simp) rfl rfl; subst q1; obtain ⟨v2, e2, q2⟩ := hd 48 _ _ (by simp) rfl rfl; obtain ⟨x2, rfl, y2⟩ := q2; exact Runs.call (yv_call (f := 31) (fun _ => by go_simp) o ho (by simp only [List.map_toArray, List.map_cons, List.map_nil, eval_const, e1, e2])) ((HE1 w hl x2 y2).mono fun e w' h => ⟨_, h.1, h.2, fun _ => rfl⟩)) ?_
 refine n2 ?_ (ed 46) (ed 49) (fun ev w hl ec e1 e2 d ty p af g => ?_)
 refine n1 ?_ (ed 50) (fun ev w hl ec e1 d ty p af g => ?_)
 refine n1 ?_ (eb 43) (fun ev w hl ec e1 d ty p af g => ?_)
 refine n1 ?_ (ed 52) (fun ev w hl ec e1 d ty p af g => ?_)
 refine n2 ?_ (ed 51) (ed 53) (fun ev w hl ec e1 e2 d ty p af g => ?_)
 refine n1 ?_ (ed 54) (fun ev w hl ec e1 d ty p af g => ?_)
 refine n1 ?_ (eb 44) (fun ev w hl ec e1 d ty p af g => ?_)
 refine AllStepsN.next (fun v w w' h l => by obtain ⟨g, h1, h2⟩ := h; exact ⟨g, h1, h2.later l⟩) (fun j b h => by cases h; exact ⟨_, rfl, ⟨_, rfl⟩, by simp, fun _ _ h => h⟩) (fun a w hl hb hd o ho => by obtain ⟨d, op, ty, p, af, gg⟩ := o; simp only at ho; subst ho; have ec : ∀ v, a.eval (.const v) = v := fun _ => rfl; exact Runs.new (w' := w.alloc (.cells #[.int .i64 1000, .int .i64 0] 3)) (by unfold execOp; generalize a.eval = ev at ec ⊢; simp only [ec]; go_simp) ⟨Lat.alloc _ _, fun _ => ⟨_, rfl, Blk.new _ _ _⟩⟩) ?_
 refine AllStepsN.next (fun _ _ _ h _ => h) (fun j b h => by cases h; exact ⟨_, rfl, ⟨_, rfl⟩, by simp, fun _ _ h => h⟩) (fun a w hl hb hd o ho => by obtain ⟨v1, e1, q1⟩ := hd 56 _ _ (by simp) rfl rfl; subst q1; obtain ⟨v2, e2, q2⟩ := hd 57 _ _ (by simp) rfl rfl; obtain ⟨x2, rfl, y2⟩ := q2; exact Runs.call (yv_call (f := 31) (fun _ => by go_simp) o ho (by simp only [List.map_toArray, List.map_cons, List.map_nil, eval_const, e1, e2])) ((HE2 w hl x2 y2).mono fun e w' h => ⟨_, h.1, h.2, fun _ => rfl⟩)) ?_
 refine n2 ?_ (ed 55) (ed 58) (fun ev w hl ec e1 e2 d ty p af g => ?_)
 refine n1 ?_ (ed 59) (fun ev w hl ec e1 d ty p af g => ?_)
 refine n1 ?_ (eb 45) (fun ev w hl ec e1 d ty p af g => ?_)
 refine n1 ?_ (ed 61) (fun ev w hl ec e1 d ty p af g => ?_)
 refine n2 ?_ (ed 60) (ed 62) (fun ev w hl ec e1 e2 d ty p af g => ?_)
 refine n1 ?_ (ed 63) (fun ev w hl ec e1 d ty p af g => ?_)
 ·exact AllStepsN.none
 all_goals (unfold execOp; first | simp only [e1, e2, ec] | simp only [e1, ec] | simp only [ec])
 all_goals go_simp
end Go.Proofs.YtbgngmamnonlbaaGreat
