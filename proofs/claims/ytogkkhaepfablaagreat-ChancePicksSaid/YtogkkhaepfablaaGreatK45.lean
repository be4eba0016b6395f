/- Several texts in one: PkD, PkE. -/
import Derived.Test.YtogkkhaepfablaaGreatK42
import Derived.Test.YtogkkhaepfablaaGreatK29
import Derived.Test.YtogkkhaepfablaaGreatK01
import Derived.Test.YtogkkhaepfablaaGreatK35
import Derived.Test.YtogkkhaepfablaaGreatCwD
namespace Go.Proofs.YtogkkhaepfablaaGreat
open Go.RowKit Go.Shelf
set_option linter.unusedSimpArgs false
set_option linter.unusedVariables false
theorem spell145 (T : Array Value) (h : T.size = 145) : ∃ f : Nat → Value, (∀ k, f k = T.getD k undef) ∧ T = #[f 0, f 1, f 2, f 3, f 4, f 5, f 6, f 7, f 8, f 9, f 10, f 11, f 12, f 13, f 14, f 15, f 16, f 17, f 18, f 19, f 20, f 21, f 22, f 23, f 24, f 25, f 26, f 27, f 28, f 29, f 30, f 31, f 32, f 33, f 34, f 35, f 36, f 37, f 38, f 39, f 40, f 41, f 42, f 43, f 44, f 45, f 46, f 47, f 48, f 49, f 50, f 51, f 52, f 53, f 54, f 55, f 56, f 57, f 58, f 59, f 60, f 61, f 62, f 63, f 64, f 65, f 66, f 67, f 68, f 69, f 70, f 71, f 72, f 73, f 74, f 75, f 76, f 77, f 78, f 79, f 80, f 81, f 82, f 83, f 84, f 85, f 86, f 87, f 88, f 89, f 90, f 91, f 92, f 93, f 94, f 95, f 96, f 97, f 98, f 99, f 100, f 101, f 102, f 103, f 104, f 105, f 106, f 107, f 108, f 109, f 110, f 111, f 112, f 113, f 114, f 115, f 116, f 117, f 118, f 119, f 120, f 121, f 122, f 123, f 124, f 125, f 126, f 127, f 128, f 129, f 130, f 131, f 132, f 133, f 134, f 135, f 136, f 137, f 138, f 139, f 140, f 141, f 142, f 143, f 144] := ⟨fun k => T.getD k undef, fun _ => rfl, (spell 145 T h).trans (by kernel_rfl)⟩
noncomputable def pk21_rows (b1 b2 : Bool) (A1 A2 : Option Addr) (n1 c1 n2 c2 : Nat) (l1 l2 : Int) (pa pb pc pd pe pf : W8) (g6 g9 g10 : Nat) : List SRow := [
 ⟨Op.load 53 (Operand.tmp 9), some 108, none, [], fun v _ => v = .agg #[.int .u64 pa.a0, .int .u64 pa.a1, .int .u64 pa.a2, .int .u64 pa.a3, .int .u64 pa.a4, .int .u64 pa.a5, .int .u64 pa.a6, .int .u64 pa.a7, .int .u64 pb.a0, .int .u64 pb.a1, .int .u64 pb.a2, .int .u64 pb.a3, .int .u64 pb.a4, .int .u64 pb.a5, .int .u64 pb.a6, .int .u64 pb.a7]⟩,
 ⟨Op.load 44 (Operand.tmp 10), some 109, none, [], fun v _ => v = .agg #[.bool b1, .slice A1 n1 c1, .int .u32 l1, .bool b2, .slice A2 n2 c2, .int .u32 l2]⟩,
 ⟨Op.call { callee := Callee.value (Operand.func 19), args := #[Operand.tmp 109], argTypes := #[44] }, some 110, none, [1], fun v _ => v = .agg #[.int .u64 pc.a0, .int .u64 pc.a1, .int .u64 pc.a2, .int .u64 pc.a3, .int .u64 pc.a4, .int .u64 pc.a5, .int .u64 pc.a6, .int .u64 pc.a7, .int .u64 pd.a0, .int .u64 pd.a1, .int .u64 pd.a2, .int .u64 pd.a3, .int .u64 pd.a4, .int .u64 pd.a5, .int .u64 pd.a6, .int .u64 pd.a7]⟩,
 ⟨Op.load 44 (Operand.tmp 10), some 111, none, [], fun v _ => v = .agg #[.bool b1, .slice A1 n1 c1, .int .u32 l1, .bool b2, .slice A2 n2 c2, .int .u32 l2]⟩,
 ⟨Op.call { callee := Callee.value (Operand.func 28), args := #[Operand.tmp 111], argTypes := #[44] }, some 112, none, [3, 2], fun v _ => v = .agg #[.int .u64 pe.a0, .int .u64 pe.a1, .int .u64 pe.a2, .int .u64 pe.a3, .int .u64 pe.a4, .int .u64 pe.a5, .int .u64 pe.a6, .int .u64 pe.a7, .int .u64 pf.a0, .int .u64 pf.a1, .int .u64 pf.a2, .int .u64 pf.a3, .int .u64 pf.a4, .int .u64 pf.a5, .int .u64 pf.a6, .int .u64 pf.a7]⟩,
 ⟨Op.build 67 #[(0, Operand.tmp 108), (1, Operand.tmp 110), (2, Operand.tmp 112)], some 113, none, [0, 2, 4], fun v _ => v = .agg #[.int .u64 pa.a0, .int .u64 pa.a1, .int .u64 pa.a2, .int .u64 pa.a3, .int .u64 pa.a4, .int .u64 pa.a5, .int .u64 pa.a6, .int .u64 pa.a7, .int .u64 pb.a0, .int .u64 pb.a1, .int .u64 pb.a2, .int .u64 pb.a3, .int .u64 pb.a4, .int .u64 pb.a5, .int .u64 pb.a6, .int .u64 pb.a7, .int .u64 pc.a0, .int .u64 pc.a1, .int .u64 pc.a2, .int .u64 pc.a3, .int .u64 pc.a4, .int .u64 pc.a5, .int .u64 pc.a6, .int .u64 pc.a7, .int .u64 pd.a0, .int .u64 pd.a1, .int .u64 pd.a2, .int .u64 pd.a3, .int .u64 pd.a4, .int .u64 pd.a5, .int .u64 pd.a6, .int .u64 pd.a7, .int .u64 pe.a0, .int .u64 pe.a1, .int .u64 pe.a2, .int .u64 pe.a3, .int .u64 pe.a4, .int .u64 pe.a5, .int .u64 pe.a6, .int .u64 pe.a7, .int .u64 pf.a0, .int .u64 pf.a1, .int .u64 pf.a2, .int .u64 pf.a3, .int .u64 pf.a4, .int .u64 pf.a5, .int .u64 pf.a6, .int .u64 pf.a7]⟩,
 ⟨Op.move (Operand.const (Value.int IntKind.i64 0)), some 114, none, [], fun v _ => v = .int .i64 0⟩]
noncomputable def pk21_base (b1 b2 : Bool) (A1 A2 : Option Addr) (n1 c1 n2 c2 : Nat) (l1 l2 : Int) (pa pb pc pd pe pf : W8) (g6 g9 g10 : Nat) (v0 v1 v2 v3 v4 v5 v7 v8 v11 v12 v13 v14 v15 v16 v17 v18 v19 v20 v21 v22 v23 v24 v25 v26 v27 v28 v29 v30 v31 v32 v33 v34 v35 v36 v37 v38 v39 v40 v41 v42 v43 v44 v45 v46 v47 v48 v49 v50 v51 v52 v53 v54 v55 v56 v57 v58 v59 v60 v61 v62 v63 v64 v65 v66 v67 v68 v69 v70 v71 v72 v73 v74 v75 v76 v77 v78 v79 v80 v81 v82 v83 v84 v85 v86 v87 v88 v89 v90 v91 v92 v93 v94 v95 v96 v97 v98 v99 v100 v101 v102 v103 v104 v105 v106 v107 v115 v116 v117 v118 v119 v120 v121 v122 v123 v124 v125 v126 v127 v128 v129 v130 v131 v132 v133 v134 v135 v136 v137 v138 v139 v140 v141 v142 v143 v144 : Value) : List (Nat × Value) := [(6, .pointer (some ⟨g6, 0, none⟩)), (9, .pointer (some ⟨g9, 0, none⟩)), (10, .pointer (some ⟨g10, 0, none⟩)), (0, v0), (1, v1), (2, v2), (3, v3), (4, v4), (5, v5), (7, v7), (8, v8), (11, v11), (12, v12), (13, v13), (14, v14), (15, v15), (16, v16), (17, v17), (18, v18), (19, v19), (20, v20), (21, v21), (22, v22), (23, v23), (24, v24), (25, v25), (26, v26), (27, v27), (28, v28), (29, v29), (30, v30), (31, v31), (32, v32), (33, v33), (34, v34), (35, v35), (36, v36), (37, v37), (38, v38), (39, v39), (40, v40), (41, v41), (42, v42), (43, v43), (44, v44), (45, v45), (46, v46), (47, v47), (48, v48), (49, v49), (50, v50), (51, v51), (52, v52), (53, v53), (54, v54), (55, v55), (56, v56), (57, v57), (58, v58), (59, v59), (60, v60), (61, v61), (62, v62), (63, v63), (64, v64), (65, v65), (66, v66), (67, v67), (68, v68), (69, v69), (70, v70), (71, v71), (72, v72), (73, v73), (74, v74), (75, v75), (76, v76), (77, v77), (78, v78), (79, v79), (80, v80), (81, v81), (82, v82), (83, v83), (84, v84), (85, v85), (86, v86), (87, v87), (88, v88), (89, v89), (90, v90), (91, v91), (92, v92), (93, v93), (94, v94), (95, v95), (96, v96), (97, v97), (98, v98), (99, v99), (100, v100), (101, v101), (102, v102), (103, v103), (104, v104), (105, v105), (106, v106), (107, v107), (115, v115), (116, v116), (117, v117), (118, v118), (119, v119), (120, v120), (121, v121), (122, v122), (123, v123), (124, v124), (125, v125), (126, v126), (127, v127), (128, v128), (129, v129), (130, v130), (131, v131), (132, v132), (133, v133), (134, v134), (135, v135), (136, v136), (137, v137), (138, v138), (139, v139), (140, v140), (141, v141), (142, v142), (143, v143), (144, v144)]
set_option maxRecDepth 100000 in
set_option maxHeartbeats 4000000 in
theorem pk21_steps (V : World) (b1 b2 : Bool) (A1 A2 : Option Addr) (n1 c1 n2 c2 : Nat) (l1 l2 : Int) (pa pb pc pd pe pf : W8) (g6 g9 g10 : Nat) (v0 v1 v2 v3 v4 v5 v7 v8 v11 v12 v13 v14 v15 v16 v17 v18 v19 v20 v21 v22 v23 v24 v25 v26 v27 v28 v29 v30 v31 v32 v33 v34 v35 v36 v37 v38 v39 v40 v41 v42 v43 v44 v45 v46 v47 v48 v49 v50 v51 v52 v53 v54 v55 v56 v57 v58 v59 v60 v61 v62 v63 v64 v65 v66 v67 v68 v69 v70 v71 v72 v73 v74 v75 v76 v77 v78 v79 v80 v81 v82 v83 v84 v85 v86 v87 v88 v89 v90 v91 v92 v93 v94 v95 v96 v97 v98 v99 v100 v101 v102 v103 v104 v105 v106 v107 v115 v116 v117 v118 v119 v120 v121 v122 v123 v124 v125 v126 v127 v128 v129 v130 v131 v132 v133 v134 v135 v136 v137 v138 v139 v140 v141 v142 v143 v144 : Value) (R9 : ∀ w', Lat V w' → w'.rangeAt g9 0 [.int .u64 pa.a0, .int .u64 pa.a1, .int .u64 pa.a2, .int .u64 pa.a3, .int .u64 pa.a4, .int .u64 pa.a5, .int .u64 pa.a6, .int .u64 pa.a7, .int .u64 pb.a0, .int .u64 pb.a1, .int .u64 pb.a2, .int .u64 pb.a3, .int .u64 pb.a4, .int .u64 pb.a5, .int .u64 pb.a6, .int .u64 pb.a7]) (R10 : ∀ w', Lat V w' → w'.rangeAt g10 0 [.bool b1, .slice A1 n1 c1, .int .u32 l1, .bool b2, .slice A2 n2 c2, .int .u32 l2]) (J16 : (Tryz.prog.info? 53).map (·.size) = some 16) (J6 : (Tryz.prog.info? 44).map (·.size) = some 6)
  (HU1 : ∀ w, Calls Tryz.prog 19 #[.agg #[.bool b1, .slice A1 n1 c1, .int .u32 l1, .bool b2, .slice A2 n2 c2, .int .u32 l2]] w (fun e w' => e = .returned (.agg #[.int .u64 pc.a0, .int .u64 pc.a1, .int .u64 pc.a2, .int .u64 pc.a3, .int .u64 pc.a4, .int .u64 pc.a5, .int .u64 pc.a6, .int .u64 pc.a7, .int .u64 pd.a0, .int .u64 pd.a1, .int .u64 pd.a2, .int .u64 pd.a3, .int .u64 pd.a4, .int .u64 pd.a5, .int .u64 pd.a6, .int .u64 pd.a7]) ∧ Lat w w'))
  (HU2 : ∀ w, Calls Tryz.prog 28 #[.agg #[.bool b1, .slice A1 n1 c1, .int .u32 l1, .bool b2, .slice A2 n2 c2, .int .u32 l2]] w (fun e w' => e = .returned (.agg #[.int .u64 pe.a0, .int .u64 pe.a1, .int .u64 pe.a2, .int .u64 pe.a3, .int .u64 pe.a4, .int .u64 pe.a5, .int .u64 pe.a6, .int .u64 pe.a7, .int .u64 pf.a0, .int .u64 pf.a1, .int .u64 pf.a2, .int .u64 pf.a3, .int .u64 pf.a4, .int .u64 pf.a5, .int .u64 pf.a6, .int .u64 pf.a7]) ∧ Lat w w')) :
  AllSteps Tryz.prog (pk21_rows b1 b2 A1 A2 n1 c1 n2 c2 l1 l2 pa pb pc pd pe pf g6 g9 g10) (pk21_base b1 b2 A1 A2 n1 c1 n2 c2 l1 l2 pa pb pc pd pe pf g6 g9 g10 v0 v1 v2 v3 v4 v5 v7 v8 v11 v12 v13 v14 v15 v16 v17 v18 v19 v20 v21 v22 v23 v24 v25 v26 v27 v28 v29 v30 v31 v32 v33 v34 v35 v36 v37 v38 v39 v40 v41 v42 v43 v44 v45 v46 v47 v48 v49 v50 v51 v52 v53 v54 v55 v56 v57 v58 v59 v60 v61 v62 v63 v64 v65 v66 v67 v68 v69 v70 v71 v72 v73 v74 v75 v76 v77 v78 v79 v80 v81 v82 v83 v84 v85 v86 v87 v88 v89 v90 v91 v92 v93 v94 v95 v96 v97 v98 v99 v100 v101 v102 v103 v104 v105 v106 v107 v115 v116 v117 v118 v119 v120 v121 v122 v123 v124 v125 v126 v127 v128 v129 v130 v131 v132 v133 v134 v135 v136 v137 v138 v139 v140 v141 v142 v143 v144) V (pk21_rows b1 b2 A1 A2 n1 c1 n2 c2 l1 l2 pa pb pc pd pe pf g6 g9 g10) := by
 refine AllSteps.next (fun _ _ _ h _ => h) (fun j b h => by cases h) (fun a w hl hb hd o ho => by have e1 := hb 9 _ rfl; exact Runs.val (yv_load (S := Lat V) e1 R9 Tryz.underlying53 rfl J16 o w ho hl) ⟨Lat.refl _, fun _ => rfl⟩) ?_
 refine AllSteps.next (fun _ _ _ h _ => h) (fun j b h => by cases h) (fun a w hl hb hd o ho => by have e1 := hb 10 _ rfl; exact Runs.val (yv_load (S := Lat V) e1 R10 Tryz.underlying44 rfl J6 o w ho hl) ⟨Lat.refl _, fun _ => rfl⟩) ?_
 refine AllSteps.next (fun _ _ _ h _ => h) (fun j b h => by cases h) (fun a w hl hb hd o ho => by obtain ⟨v1, e1, q1⟩ := hd 1 _ _ (by simp) rfl rfl; subst q1; exact Runs.call (yv_call (f := 19) (fun _ => by go_simp) o ho (by simp only [List.map_toArray, List.map_cons, List.map_nil, eval_const, e1])) ((HU1 w).mono fun e w' h => ⟨_, h.1, h.2, fun _ => rfl⟩)) ?_
 refine AllSteps.next (fun _ _ _ h _ => h) (fun j b h => by cases h) (fun a w hl hb hd o ho => by have e1 := hb 10 _ rfl; exact Runs.val (yv_load (S := Lat V) e1 R10 Tryz.underlying44 rfl J6 o w ho hl) ⟨Lat.refl _, fun _ => rfl⟩) ?_
 refine AllSteps.next (fun _ _ _ h _ => h) (fun j b h => by cases h) (fun a w hl hb hd o ho => by obtain ⟨v1, e1, q1⟩ := hd 3 _ _ (by simp) rfl rfl; subst q1; exact Runs.call (yv_call (f := 28) (fun _ => by go_simp) o ho (by simp only [List.map_toArray, List.map_cons, List.map_nil, eval_const, e1])) ((HU2 w).mono fun e w' h => ⟨_, h.1, h.2, fun _ => rfl⟩)) ?_
 refine AllSteps.next (fun _ _ _ h _ => h) (fun j b h => by cases h) (fun a w hl hb hd o ho => by obtain ⟨v1, e1, q1⟩ := hd 0 _ _ (by simp) rfl rfl; subst q1; obtain ⟨v2, e2, q2⟩ := hd 2 _ _ (by simp) rfl rfl; subst q2; obtain ⟨v3, e3, q3⟩ := hd 4 _ _ (by simp) rfl rfl; subst q3; obtain ⟨d, op, ty, p, af, g⟩ := o; simp only at ho; subst ho; exact Runs.val (v := .agg #[.int .u64 pa.a0, .int .u64 pa.a1, .int .u64 pa.a2, .int .u64 pa.a3, .int .u64 pa.a4, .int .u64 pa.a5, .int .u64 pa.a6, .int .u64 pa.a7, .int .u64 pb.a0, .int .u64 pb.a1, .int .u64 pb.a2, .int .u64 pb.a3, .int .u64 pb.a4, .int .u64 pb.a5, .int .u64 pb.a6, .int .u64 pb.a7, .int .u64 pc.a0, .int .u64 pc.a1, .int .u64 pc.a2, .int .u64 pc.a3, .int .u64 pc.a4, .int .u64 pc.a5, .int .u64 pc.a6, .int .u64 pc.a7, .int .u64 pd.a0, .int .u64 pd.a1, .int .u64 pd.a2, .int .u64 pd.a3, .int .u64 pd.a4, .int .u64 pd.a5, .int .u64 pd.a6, .int .u64 pd.a7, .int .u64 pe.a0, .int .u64 pe.a1, .int .u64 pe.a2, .int .u64 pe.a3, .int .u64 pe.a4, .int .u64 pe.a5, .int .u64 pe.a6, .int .u64 pe.a7, .int .u64 pf.a0, .int .u64 pf.a1, .int .u64 pf.a2, .int .u64 pf.a3, .int .u64 pf.a4, .int .u64 pf.a5, .int .u64 pf.a6, .int .u64 pf.a7]) (by unfold execOp; generalize a.eval = ev at e1 e2 e3 ⊢; simp only [e1, e2, e3, List.map_toArray, List.map_cons, List.map_nil]; go_simp) ⟨Lat.refl _, fun _ => rfl⟩) ?_
 refine AllSteps.next (fun _ _ _ h _ => h) (fun j b h => by cases h) (fun a w hl hb hd o ho => by obtain ⟨d, op, ty, p, af, g⟩ := o; simp only at ho; subst ho; exact Runs.val (v := .int .i64 0) (by unfold execOp; go_simp) ⟨Lat.refl _, fun _ => rfl⟩) ?_
 exact AllSteps.none
def lenV : Value → Nat
 | .slice _ n _ => n
 | _ => 0
theorem w_take (ws : List W8) (m : Nat) : (wRows ws).take m = wRows (ws.take m) := by simp [wRows, List.map_take]
theorem w_len (ws : List W8) : (wRows ws).length = ws.length := by simp [wRows]
theorem w_app (xs ys : List W8) : wRows xs ++ wRows ys = wRows (xs ++ ys) := by simp [wRows]
theorem w_one (ws : List W8) : ∀ l ∈ wRows ws, ∀ u ∈ l, u.oneCell' = true := by
 intro l hl u hu
 obtain ⟨x, _, rfl⟩ := List.mem_map.1 hl
 simp [wRow] at hu
 rcases hu with rfl | rfl | rfl | rfl | rfl | rfl | rfl | rfl <;> rfl
structure PkL (s : Nat) (V : World) (A : Option Addr) (n c : Nat) (k : Int) (t : Nat) (en : Int) : Prop where
 p : ∀ w, Lat V w → Calls Tryz.prog 16 #[.agg #[.int .u64 s], .slice A n c] w (PickEnd w k t en)
 r : ∀ w, Lat V w → Calls Tryz.prog 27 #[.agg #[.int .u64 s], .slice A n c] w (PickEnd w k t en)
 q : ∀ w, (Op.equalIn 10000 24 (.agg #[.int .u64 (t : Nat)]) (.agg #[.int .u64 (t : Nat)])).run Tryz.prog w = .ok true w
theorem PkT.list {s : Nat} {l : List W8} {k : Int} {t : Nat} {en : Int} (h : PkT s l k t en) {V : World} {A : Option Addr} {n c : Nat} (hr : RowM V A 8 n (wRows l)) : PkL s V A n c k t en := by
 have hn : l.length = n := by have := hr.1; rw [w_len] at this; exact this
 subst hn
 exact ⟨fun w hl => h.p A c w (hr.later hl), fun w hl => h.r A c w (hr.later hl), h.q⟩
set_option maxRecDepth 100000 in
theorem pk_ix3 (A0 A1 A2 : Option Addr) (n0 c0 n1 c1 n2 c2 : Nat) (w : World) : ∀ j : Nat, j < 3 → ∃ A n c, ((A = A0 ∧ n = n0 ∧ c = c0) ∨ (A = A1 ∧ n = n1 ∧ c = c1) ∨ (A = A2 ∧ n = n2 ∧ c = c2)) ∧ (Instr.index 66 (.agg #[.slice A0 n0 c0, .slice A1 n1 c1, .slice A2 n2 c2]) (.int .i64 (j : Nat))).run Tryz.prog w = .ok (.slice A n c) w
 | 0, _ => ⟨_, _, _, .inl ⟨rfl, rfl, rfl⟩, by kernel_rfl⟩
 | 1, _ => ⟨_, _, _, .inr (.inl ⟨rfl, rfl, rfl⟩), by kernel_rfl⟩
 | 2, _ => ⟨_, _, _, .inr (.inr ⟨rfl, rfl, rfl⟩), by kernel_rfl⟩
set_option maxRecDepth 100000 in
theorem co_ix3 (pa pb pc pd pe pf : W8) (w : World) : ∀ j : Nat, j < 3 → ∃ x y, ((x = pa ∧ y = pb) ∨ (x = pc ∧ y = pd) ∨ (x = pe ∧ y = pf)) ∧ (Instr.index 67 (.agg #[.int .u64 pa.a0, .int .u64 pa.a1, .int .u64 pa.a2, .int .u64 pa.a3, .int .u64 pa.a4, .int .u64 pa.a5, .int .u64 pa.a6, .int .u64 pa.a7, .int .u64 pb.a0, .int .u64 pb.a1, .int .u64 pb.a2, .int .u64 pb.a3, .int .u64 pb.a4, .int .u64 pb.a5, .int .u64 pb.a6, .int .u64 pb.a7, .int .u64 pc.a0, .int .u64 pc.a1, .int .u64 pc.a2, .int .u64 pc.a3, .int .u64 pc.a4, .int .u64 pc.a5, .int .u64 pc.a6, .int .u64 pc.a7, .int .u64 pd.a0, .int .u64 pd.a1, .int .u64 pd.a2, .int .u64 pd.a3, .int .u64 pd.a4, .int .u64 pd.a5, .int .u64 pd.a6, .int .u64 pd.a7, .int .u64 pe.a0, .int .u64 pe.a1, .int .u64 pe.a2, .int .u64 pe.a3, .int .u64 pe.a4, .int .u64 pe.a5, .int .u64 pe.a6, .int .u64 pe.a7, .int .u64 pf.a0, .int .u64 pf.a1, .int .u64 pf.a2, .int .u64 pf.a3, .int .u64 pf.a4, .int .u64 pf.a5, .int .u64 pf.a6, .int .u64 pf.a7]) (.int .i64 (j : Nat))).run Tryz.prog w = .ok (.agg #[.int .u64 x.a0, .int .u64 x.a1, .int .u64 x.a2, .int .u64 x.a3, .int .u64 x.a4, .int .u64 x.a5, .int .u64 x.a6, .int .u64 x.a7, .int .u64 y.a0, .int .u64 y.a1, .int .u64 y.a2, .int .u64 y.a3, .int .u64 y.a4, .int .u64 y.a5, .int .u64 y.a6, .int .u64 y.a7]) w
 | 0, _ => ⟨_, _, .inl ⟨rfl, rfl⟩, by kernel_rfl⟩
 | 1, _ => ⟨_, _, .inr (.inl ⟨rfl, rfl⟩), by kernel_rfl⟩
 | 2, _ => ⟨_, _, .inr (.inr ⟨rfl, rfl⟩), by kernel_rfl⟩
theorem b_ne (b : Bool) : (b != b) = false := by cases b <;> rfl
set_option maxRecDepth 100000 in
set_option maxHeartbeats 8000000 in
theorem cPicks_t (HWK : ∀ w, Calls Tryz.prog 7 #[] w (fun e w' => e = .returned (.bool true) ∧ Lat w w')) (s : Nat) (Ar : Option Addr) (nr cr mr : Nat) (ws : List W8) (A0 : Option Addr) (n0 c0 m : Nat) (xs : List Int)
  (pa pb : W8) (b1 b2 : Bool) (A1 A2 : Option Addr) (n1 c1 n2 c2 : Nat) (l1 l2 : Int) (w : World) (hwr : RowM w Ar 8 nr (wRows ws)) (hok : ∀ x ∈ ws, x.ok) (hrc : nr ≤ cr) (hmr : mr ≤ nr) (hmr6 : mr ≤ 6) (hmin6 : min ((nr : Nat) : Int) 6 = (mr : Int))
  (h0 : Sl w .u16 A0 n0 xs) (hx : ∀ x ∈ xs, 0 ≤ x ∧ x ≤ 65535) (hc : n0 ≤ c0) (hm : m ≤ n0) (hm12 : m ≤ 12) (hmin : min ((n0 : Nat) : Int) 12 = (m : Int)) (huv : pa.ok ∧ pb.ok)
  (HOF : ∀ z : Int, 0 ≤ z → z ≤ 65535 → ∀ w, Calls Tryz.prog 12 #[.int .i64 z] w (fun e w' => e = .returned (.agg #[.int .u64 (W8.of z).a0, .int .u64 (W8.of z).a1, .int .u64 (W8.of z).a2, .int .u64 (W8.of z).a3, .int .u64 (W8.of z).a4, .int .u64 (W8.of z).a5, .int .u64 (W8.of z).a6, .int .u64 (W8.of z).a7]) ∧ Lat w w'))
  (HPK : ∀ l : List W8, (∀ x ∈ l, x.ok) → ∃ k t en, PkT s l k t en) (HCO : ∀ u v : W8, u.ok → v.ok → ∃ b t en, CoT s u v b t en)
  (pc pd pe pf : W8) (hu1 : pc.ok ∧ pd.ok) (hu2 : pe.ok ∧ pf.ok) (HU10 : ∀ w, Calls Tryz.prog 19 #[.agg #[.bool b1, .slice A1 n1 c1, .int .u32 l1, .bool b2, .slice A2 n2 c2, .int .u32 l2]] w (fun e w' => e = .returned (.agg #[.int .u64 pc.a0, .int .u64 pc.a1, .int .u64 pc.a2, .int .u64 pc.a3, .int .u64 pc.a4, .int .u64 pc.a5, .int .u64 pc.a6, .int .u64 pc.a7, .int .u64 pd.a0, .int .u64 pd.a1, .int .u64 pd.a2, .int .u64 pd.a3, .int .u64 pd.a4, .int .u64 pd.a5, .int .u64 pd.a6, .int .u64 pd.a7]) ∧ Lat w w'))
  (HU20 : ∀ w, Calls Tryz.prog 28 #[.agg #[.bool b1, .slice A1 n1 c1, .int .u32 l1, .bool b2, .slice A2 n2 c2, .int .u32 l2]] w (fun e w' => e = .returned (.agg #[.int .u64 pe.a0, .int .u64 pe.a1, .int .u64 pe.a2, .int .u64 pe.a3, .int .u64 pe.a4, .int .u64 pe.a5, .int .u64 pe.a6, .int .u64 pe.a7, .int .u64 pf.a0, .int .u64 pf.a1, .int .u64 pf.a2, .int .u64 pf.a3, .int .u64 pf.a4, .int .u64 pf.a5, .int .u64 pf.a6, .int .u64 pf.a7]) ∧ Lat w w')) :
  Calls Tryz.prog 6 #[.agg #[.int .u64 (s : Nat)], .slice Ar nr cr, .slice A0 n0 c0, .agg #[.int .u64 pa.a0, .int .u64 pa.a1, .int .u64 pa.a2, .int .u64 pa.a3, .int .u64 pa.a4, .int .u64 pa.a5, .int .u64 pa.a6, .int .u64 pa.a7, .int .u64 pb.a0, .int .u64 pb.a1, .int .u64 pb.a2, .int .u64 pb.a3, .int .u64 pb.a4, .int .u64 pb.a5, .int .u64 pb.a6, .int .u64 pb.a7], .agg #[.bool b1, .slice A1 n1 c1, .int .u32 l1, .bool b2, .slice A2 n2 c2, .int .u32 l2], .bool true] w (fun e w' => e = .returned (.bool true) ∧ Lat w w') := by
 have HX := Lib.hid hx
 have HOFH := Lib.hid HOF
 have HPKH := Lib.hid HPK
 have HCOH := Lib.hid HCO
 have HUV := Lib.hid (And.intro huv (And.intro hu1 hu2))
 have HUU := Lib.hid (And.intro HU10 HU20)
 have HWR := Lib.hid (show RowM w Ar 8 mr (wRows (ws.take mr)) by rw [← w_take]; exact hwr.take hmr)
 have HOK := Lib.hid (show ∀ x ∈ ws.take mr, x.ok from fun x h => hok x (List.mem_of_mem_take h))
 have HRL := Lib.hid (show (ws.take mr).length ≤ 6 by rw [List.length_take]; omega)
 have HT0 := Lib.hid (h0.take hm)
 have HXT := Lib.hid (show ∀ x ∈ xs.take m, 0 ≤ x ∧ x ≤ 65535 from fun x h => hx x (List.mem_of_mem_take h))
 generalize ws.take mr = rs at HWR HOK HRL
 generalize xs.take m = ns at HT0 HXT
 clear hx HOF HPK HCO huv hu1 hu2 HU10 HU20 hwr hok h0 HX
 go_enter Tryz.func6, Tryz.ntmps6
 go_upto_region 1 with (fail)
 refine name3 (Q := fun W => Code.wp _ _ _ _ W) ?_
 intro W l0 hsz k6 k9 k10
 obtain ⟨g10, hg10⟩ : ∃ z, w.heap.size + 1 + 1 = z := ⟨_, rfl⟩
 obtain ⟨g9, hg9⟩ : ∃ z, w.heap.size + 1 = z := ⟨_, rfl⟩
 obtain ⟨g6, hg6⟩ : ∃ z, w.heap.size = z := ⟨_, rfl⟩
 rw [hg10] at k10
 rw [hg9] at k9
 rw [hg6] at k6
 rw [hg10, hg9, hg6]
 clear hg10 hg9 hg6 hsz
 go_wp2_with fail
 refine (HWK W).mono ?_
 rintro e V0 ⟨rfl, la⟩
 replace k6 := k6.later la
 replace k9 := k9.later la
 replace k10 := k10.later la
 replace l0 := l0.trans la
 clear la HWK
 have hmz : (0 : Int) ≤ (mr : Int) := by omega
 have hmc : (mr : Int) ≤ (cr : Int) := by omega
 go_upto_region 5 with (fail)
 have hmz0 : (0 : Int) ≤ (m : Int) := by omega
 have hmc0 : (m : Int) ≤ (c0 : Int) := by omega
 clear hmz hmc
 go_upto_region 6 with (fail)
 clear hmz0 hmc0 hmin hmin6 hc hrc hmr hm
 go_loopw [13, 15, 46] (fun lv _ i wr => ∃ j : Nat, j ≤ m ∧ i = .int .i64 j ∧ OwnM wr V0.heap.size 26 8 lv (wRows ((ns.take j).map W8.of)) ∧ Lat V0 wr) (fun _ _ i _ => m - (intOf i).toNat)
 case atStart => exact ⟨0, by omega, rfl, OwnM.nil _ _ _ _, Lat.refl _⟩
 case round =>
  obtain ⟨j, hj, rfl, O, hlr⟩ := hrel
  by_cases hlt : j < m
  ·obtain ⟨a, x, rfl, hbl, hx, hcell⟩ := (HT0.out.later (l0.trans hlr)).at hlt
   have hxi := HXT.out x (List.mem_of_getElem? hx)
   have hwx : wrap64 x = x := IntWalk.wrap64_in _ (by omega)
   have HO1 := HOFH.out x hxi.1 hxi.2
   have hltI : (j : Int) < (m : Int) := by omega
   have b0 : (0 : Int) ≤ (j : Int) := by omega
   have hnl := HT0.out.1
   have hlen2 : (wRows ((ns.take j).map W8.of)).length ≤ 100000000 := by rw [w_len, List.length_map, List.length_take]; omega
   have hst : wRows ((ns.take (j + 1)).map W8.of) = wRows ((ns.take j).map W8.of) ++ [wRow (W8.of x)] := wr_succ hx
   go_wp2_with fail
   refine (HO1 _).mono ?_
   rintro e V2 ⟨rfl, l2⟩
   have L2 := hlr.trans l2
   have O2 := O.later l2
   clear hlr O HO1 hcell hbl hxi hx
   have la := Lat.alloc V2 (.cells #[.int .u64 (W8.of x).a0, .int .u64 (W8.of x).a1, .int .u64 (W8.of x).a2, .int .u64 (W8.of x).a3, .int .u64 (W8.of x).a4, .int .u64 (W8.of x).a5, .int .u64 (W8.of x).a6, .int .u64 (W8.of x).a7] 26)
   go_wp2_with (at_builtin; refine wpList_pushM rfl _ _ 45 (by rfl) V0.heap.size 26 26 (.agg #[.int .u64 0, .int .u64 0, .int .u64 0, .int .u64 0, .int .u64 0, .int .u64 0, .int .u64 0, .int .u64 0]) 8 64 Tryz.underlying45 wideInfoA rfl (by decide) (by decide) _ _ [.int .u64 (W8.of x).a0, .int .u64 (W8.of x).a1, .int .u64 (W8.of x).a2, .int .u64 (W8.of x).a3, .int .u64 (W8.of x).a4, .int .u64 (W8.of x).a5, .int .u64 (W8.of x).a6, .int .u64 (W8.of x).a7] (by simp [Value.oneCell']) _ V2.heap.size (by rfl) (O2.later la) (Blk.new _ _ _) rfl 1 (by rfl) hlen2 (Nat.le_trans L2.size la.size) ?_; intro v' w' h1 h2 h3)
   have L4 := h3 _ (L2.trans la) (Nat.le_refl _)
   go_roundw
   case rel => exact ⟨j + 1, by omega, by go_num, by rw [hst]; exact h1, L4⟩
   case measure => simp [intOf]; omega
  ·obtain rfl : j = m := by omega
   obtain ⟨A9, c9, rfl, R9, _, _, _⟩ := O.form
   have hnl : (ns.take j).length = j := by rw [List.length_take]; have := HT0.out.1; omega
   have hok9 : ∀ x ∈ (ns.take j).map W8.of, x.ok := fun x hx => by
    obtain ⟨z, _, rfl⟩ := List.mem_map.1 hx
    exact W8.of_ok z
   have hl9 : ((ns.take j).map W8.of).length = j := by rw [List.length_map]; exact hnl
   generalize (ns.take j).map W8.of = fs at R9 hok9 hl9 O
   rw [w_len, hl9] at R9 ⊢
   clear O hnl
   replace k6 := k6.later hlr
   replace k9 := k9.later hlr
   replace k10 := k10.later hlr
   replace l0 := l0.trans hlr
   have HR0 := Lib.hid (HWR.out.later l0)
   have HR9 := Lib.hid R9
   have HF := Lib.hid (And.intro hok9 hl9)
   have hj12 : j ≤ 12 := hm12
   obtain ⟨V, rfl⟩ : ∃ V, V = wr := ⟨_, rfl⟩
   clear hlr R9 hok9 hl9 HT0 HXT hlt hj HWR
   go_wp2_with fail
   refine name1 (Q := fun W => Calls _ _ _ W _) ?_
   intro V1 la hs kb
   have HCC := concat_two Ar A9 mr cr j c9 2 V.heap.size (wRows rs) (wRows fs) (w_one rs) (w_one fs) (by omega) (by omega) V1 kb (HR0.out.later la) (HR9.out.later la)
   refine HCC.mono ?_
   rintro e V2 ⟨mv, rfl, O, lb⟩
   have LV2 := la.trans lb
   rw [w_app] at O
   have O0 := O.low la.size
   have hokm : ∀ x ∈ rs ++ fs, x.ok := fun x hx => by
    rcases List.mem_append.1 hx with hx | hx
    ·exact HOK.out x hx
    ·exact HF.out.1 x hx
   have hlm : (rs ++ fs).length ≤ 401 := by rw [List.length_append, HF.out.2]; have := HRL.out; omega
   generalize rs ++ fs = ms at O0 hokm hlm
   clear O HCC kb hs la lb
   go_upto_region 11 with (fail)
   go_loopw [16] (fun mv wr => ∃ l : List W8, (∀ x ∈ l, x.ok) ∧ l.length ≤ 401 ∧ OwnM wr V.heap.size 26 8 mv (wRows l) ∧ Lat V wr) (fun mv _ => 401 - lenV mv)
   case atStart => exact ⟨ms, hokm, hlm, O0, LV2⟩
   case round =>
    clear O0 LV2 hokm hlm
    obtain ⟨l, hokl, hll, O, hlr⟩ := hrel
    obtain ⟨A8, c8, rfl, R8, hc8, _, _⟩ := O.form
    rw [w_len] at R8 hc8 ⊢
    by_cases hll4 : l.length < 401
    ·have hI : ((l.length : Nat) : Int) < 401 := by omega
     have HO1 := HOFH.out (l.length : Nat) (by omega) (by omega)
     have hlen2 : (wRows l).length ≤ 100000000 := by rw [w_len]; omega
     have hnew : ∀ x ∈ l ++ [W8.of (l.length : Nat)], x.ok := fun x hx => by
      rcases List.mem_append.1 hx with hx | hx
      ·exact hokl x hx
      ·rw [List.mem_singleton] at hx; rw [hx]; exact W8.of_ok _
     have hst : wRows l ++ [wRow (W8.of (l.length : Nat))] = wRows (l ++ [W8.of (l.length : Nat)]) := by simp [wRows]
     go_wp2_with fail
     refine (HO1 _).mono ?_
     rintro e V3 ⟨rfl, l2⟩
     have L2 := hlr.trans l2
     have O2 := O.later l2
     clear hlr O HO1 R8
     have la := Lat.alloc V3 (.cells #[.int .u64 (W8.of (l.length : Nat)).a0, .int .u64 (W8.of (l.length : Nat)).a1, .int .u64 (W8.of (l.length : Nat)).a2, .int .u64 (W8.of (l.length : Nat)).a3, .int .u64 (W8.of (l.length : Nat)).a4, .int .u64 (W8.of (l.length : Nat)).a5, .int .u64 (W8.of (l.length : Nat)).a6, .int .u64 (W8.of (l.length : Nat)).a7] 26)
     rw [w_len] at O2
     go_wp2_with (at_builtin; refine wpList_pushM rfl _ _ 45 (by rfl) V.heap.size 26 26 (.agg #[.int .u64 0, .int .u64 0, .int .u64 0, .int .u64 0, .int .u64 0, .int .u64 0, .int .u64 0, .int .u64 0]) 8 64 Tryz.underlying45 wideInfoA rfl (by decide) (by decide) _ _ [.int .u64 (W8.of (l.length : Nat)).a0, .int .u64 (W8.of (l.length : Nat)).a1, .int .u64 (W8.of (l.length : Nat)).a2, .int .u64 (W8.of (l.length : Nat)).a3, .int .u64 (W8.of (l.length : Nat)).a4, .int .u64 (W8.of (l.length : Nat)).a5, .int .u64 (W8.of (l.length : Nat)).a6, .int .u64 (W8.of (l.length : Nat)).a7] (by simp [Value.oneCell']) _ V3.heap.size (by rfl) (O2.later la) (Blk.new _ _ _) rfl 1 (by rfl) hlen2 (Nat.le_trans L2.size la.size) ?_; intro v' w' h1 h2 h3)
     have L4 := h3 _ (L2.trans la) (Nat.le_refl _)
     have O4 : OwnM w' V.heap.size 26 8 v' (wRows (l ++ [W8.of (l.length : Nat)])) := by rw [← hst]; exact h1
     obtain ⟨A7, c7, rfl, _⟩ := O4.form
     have hl7 : (l ++ [W8.of (l.length : Nat)]).length = l.length + 1 := by simp
     go_roundw
     case rel => exact ⟨_, hnew, by rw [hl7]; omega, O4, L4⟩
     case measure => show 401 - (wRows (l ++ [W8.of (l.length : Nat)])).length < 401 - l.length; rw [w_len, hl7]; omega
    ·have hex : ¬ ((l.length : Nat) : Int) < 401 := by omega
     clear O hll4 hc8
     replace k6 := k6.later hlr
     replace k9 := k9.later hlr
     replace k10 := k10.later hlr
     replace l0 := l0.trans hlr
     have HR0 := Lib.hid (HR0.out.later hlr)
     have HR9 := Lib.hid (HR9.out.later hlr)
     obtain ⟨X, rfl⟩ : ∃ X, X = wr := ⟨_, rfl⟩
     obtain ⟨ka0, ta0, ea0, HB0⟩ := HPKH.out rs HOK.out
     obtain ⟨ka1, ta1, ea1, HB1⟩ := HPKH.out fs HF.out.1
     obtain ⟨ka2, ta2, ea2, HB2⟩ := HPKH.out l hokl
     have HL : Hid (∀ A n c, ((A = Ar ∧ n = mr ∧ c = cr) ∨ (A = A9 ∧ n = j ∧ c = c9) ∨ (A = A8 ∧ n = l.length ∧ c = c8)) → ∃ k t en, PkL s X A n c k t en) := fun A n c h => by
      rcases h with ⟨rfl, rfl, rfl⟩ | ⟨rfl, rfl, rfl⟩ | ⟨rfl, rfl, rfl⟩
      ·exact ⟨_, _, _, HB0.list HR0.out⟩
      ·exact ⟨_, _, _, HB1.list HR9.out⟩
      ·exact ⟨_, _, _, HB2.list R8⟩
     generalize l.length = ml at *
     clear hlr HB0 HB1 HB2 HR0 HR9 R8 hokl hll HPKH HOK HF HRL hj12 hm12 hmr6
     go_upto_region 14 with (fail)
     go_loopw [77] (fun i wr => ∃ q : Nat, q ≤ 3 ∧ i = .int .i64 q ∧ Blk wr g6 24 #[.int .u64 (s : Nat)] ∧ Blk wr g9 53 #[.int .u64 pa.a0, .int .u64 pa.a1, .int .u64 pa.a2, .int .u64 pa.a3, .int .u64 pa.a4, .int .u64 pa.a5, .int .u64 pa.a6, .int .u64 pa.a7, .int .u64 pb.a0, .int .u64 pb.a1, .int .u64 pb.a2, .int .u64 pb.a3, .int .u64 pb.a4, .int .u64 pb.a5, .int .u64 pb.a6, .int .u64 pb.a7] ∧ Blk wr g10 44 #[.bool b1, .slice A1 n1 c1, .int .u32 l1, .bool b2, .slice A2 n2 c2, .int .u32 l2] ∧ Lat w wr ∧ Lat X wr) (fun i _ => 3 - (intOf i).toNat)
     case atStart => exact ⟨0, by omega, rfl, k6, k9, k10, l0, Lat.refl _⟩
     case round =>
      clear k6 k9 k10 l0
      obtain ⟨q, hq3, rfl, k6, k9, k10, l0, lx⟩ := hrel
      by_cases hq4 : q < 3
      ·have hqI : (q : Int) < 3 := by omega
       obtain ⟨A, n, c, hw, hix⟩ := pk_ix3 Ar A9 A8 mr cr j c9 ml c8 wr q hq4
       obtain ⟨k, t, en, HB⟩ := HL.out A n c hw
       clear hw
       have c6 := k6.cell 0
       go_wp2_with fail
       refine (HB.p wr lx).mono ?_
       rintro e Y1 ⟨rfl, la⟩
       clear c6 hix
       replace k6 := k6.later la
       replace k9 := k9.later la
       replace k10 := k10.later la
       replace l0 := l0.trans la
       replace lx := lx.trans la
       clear la
       go_upto_region 17 with (fail)
       refine name1 (Q := fun W => Code.wp _ _ _ _ W) ?_
       intro Y2 la hs ka
       obtain ⟨ga, hga⟩ : ∃ z, Y1.heap.size = z := ⟨_, rfl⟩
       rw [hga] at ka ⊢
       replace k6 := k6.later la
       replace k9 := k9.later la
       replace k10 := k10.later la
       replace l0 := l0.trans la
       replace lx := lx.trans la
       clear la hs hga
       have c6 := k6.cell 0
       go_wp2_with fail
       refine (HB.r Y2 lx).mono ?_
       rintro e Y3 ⟨rfl, la⟩
       clear c6
       replace k6 := k6.later la
       replace k9 := k9.later la
       replace k10 := k10.later la
       replace ka := ka.later la
       replace l0 := l0.trans la
       replace lx := lx.trans la
       clear la
       go_upto_region 18 with (fail)
       refine name1 (Q := fun W => Code.wp _ _ _ _ W) ?_
       intro Y4 la hs kb
       obtain ⟨gb, hgb⟩ : ∃ z, Y3.heap.size = z := ⟨_, rfl⟩
       rw [hgb] at kb ⊢
       replace k6 := k6.later la
       replace k9 := k9.later la
       replace k10 := k10.later la
       replace ka := ka.later la
       replace l0 := l0.trans la
       replace lx := lx.trans la
       clear la hs hgb
       have ca := ka.cell 0
       have cb := kb.cell 0
       have hq := HB.q
       have hnek : (k != k) = false := by simp
       have hnen : (en != en) = false := by simp
       clear HB HL
       go_wp2
       go_roundw
       case rel => exact ⟨q + 1, by omega, by go_num, k6, k9, k10, l0, lx⟩
       case measure => simp [intOf]; omega
      ·obtain rfl : q = 3 := by omega
       have R9 : ∀ w', Lat wr w' → w'.rangeAt g9 0 [.int .u64 pa.a0, .int .u64 pa.a1, .int .u64 pa.a2, .int .u64 pa.a3, .int .u64 pa.a4, .int .u64 pa.a5, .int .u64 pa.a6, .int .u64 pa.a7, .int .u64 pb.a0, .int .u64 pb.a1, .int .u64 pb.a2, .int .u64 pb.a3, .int .u64 pb.a4, .int .u64 pb.a5, .int .u64 pb.a6, .int .u64 pb.a7] := fun w' hl => (k9.later hl).rangeAll
       have R10 : ∀ w', Lat wr w' → w'.rangeAt g10 0 [.bool b1, .slice A1 n1 c1, .int .u32 l1, .bool b2, .slice A2 n2 c2, .int .u32 l2] := fun w' hl => (k10.later hl).rangeAll
       have J16 : (Tryz.prog.info? 53).map (·.size) = some 16 := by kernel_rfl
       have J6 : (Tryz.prog.info? 44).map (·.size) = some 6 := by kernel_rfl
       obtain ⟨HU1, HU2⟩ := HUU.out
       obtain ⟨X0, rfl⟩ : ∃ X0, X0 = wr := ⟨_, rfl⟩
       clear hq3 hq4 HL lx k9 k10
       go_upto_region 21 with (fail)
       rename_i KN hKN
       refine wp_region_slots (pk21_rows b1 b2 A1 A2 n1 c1 n2 c2 l1 l2 pa pb pc pd pe pf g6 g9 g10) (pk21_base b1 b2 A1 A2 n1 c1 n2 c2 l1 l2 pa pb pc pd pe pf g6 g9 g10 _ _ _ _ _ _ _ _ _ _ _ _ _ _ _ _ _ _ _ _ _ _ _ _ _ _ _ _ _ _ _ _ _ _ _ _ _ _ _ _ _ _ _ _ _ _ _ _ _ _ _ _ _ _ _ _ _ _ _ _ _ _ _ _ _ _ _ _ _ _ _ _ _ _ _ _ _ _ _ _ _ _ _ _ _ _ _ _ _ _ _ _ _ _ _ _ _ _ _ _ _ _ _ _ _ _ _ _ _ _ _ _ _ _ _ _ _ _ _ _ _ _ _ _ _ _ _ _ _ _ _ _ _ _ _) 145 7 [[], [], [1], [], [3, 2], [0, 2, 4], []] (by kernel_rfl) (by kernel_rfl) (by kernel_rfl) (by kernel_rfl) (by kernel_rfl) (by kernel_rfl) (by rfl) rfl (base_of (base_cons rfl (base_cons rfl (base_cons rfl (base_cons rfl (base_cons rfl (base_cons rfl (base_cons rfl (base_cons rfl (base_cons rfl (base_cons rfl (base_cons rfl (base_cons rfl (base_cons rfl (base_cons rfl (base_cons rfl (base_cons rfl (base_cons rfl (base_cons rfl (base_cons rfl (base_cons rfl (base_cons rfl (base_cons rfl (base_cons rfl (base_cons rfl (base_cons rfl (base_cons rfl (base_cons rfl (base_cons rfl (base_cons rfl (base_cons rfl (base_cons rfl (base_cons rfl (base_cons rfl (base_cons rfl (base_cons rfl (base_cons rfl (base_cons rfl (base_cons rfl (base_cons rfl (base_cons rfl (base_cons rfl (base_cons rfl (base_cons rfl (base_cons rfl (base_cons rfl (base_cons rfl (base_cons rfl (base_cons rfl (base_cons rfl (base_cons rfl (base_cons rfl (base_cons rfl (base_cons rfl (base_cons rfl (base_cons rfl (base_cons rfl (base_cons rfl (base_cons rfl (base_cons rfl (base_cons rfl (base_cons rfl (base_cons rfl (base_cons rfl (base_cons rfl (base_cons rfl (base_cons rfl (base_cons rfl (base_cons rfl (base_cons rfl (base_cons rfl (base_cons rfl (base_cons rfl (base_cons rfl (base_cons rfl (base_cons rfl (base_cons rfl (base_cons rfl (base_cons rfl (base_cons rfl (base_cons rfl (base_cons rfl (base_cons rfl (base_cons rfl (base_cons rfl (base_cons rfl (base_cons rfl (base_cons rfl (base_cons rfl (base_cons rfl (base_cons rfl (base_cons rfl (base_cons rfl (base_cons rfl (base_cons rfl (base_cons rfl (base_cons rfl (base_cons rfl (base_cons rfl (base_cons rfl (base_cons rfl (base_cons rfl (base_cons rfl (base_cons rfl (base_cons rfl (base_cons rfl (base_cons rfl (base_cons rfl (base_cons rfl (base_cons rfl (base_cons rfl (base_cons rfl (base_cons rfl (base_cons rfl (base_cons rfl (base_cons rfl (base_cons rfl (base_cons rfl (base_cons rfl (base_cons rfl (base_cons rfl (base_cons rfl (base_cons rfl (base_cons rfl (base_cons rfl (base_cons rfl (base_cons rfl (base_cons rfl (base_cons rfl (base_cons rfl (base_cons rfl (base_cons rfl (base_cons rfl (base_cons rfl (base_cons rfl (base_cons rfl (base_cons rfl (base_cons rfl (base_cons rfl (base_nil _)))))))))))))))))))))))))))))))))))))))))))))))))))))))))))))))))))))))))))))))))))))))))))))))))))))))))))))))))))))))))))))))))))))))))))) (pk21_steps X0 b1 b2 A1 A2 n1 c1 n2 c2 l1 l2 pa pb pc pd pe pf g6 g9 g10 _ _ _ _ _ _ _ _ _ _ _ _ _ _ _ _ _ _ _ _ _ _ _ _ _ _ _ _ _ _ _ _ _ _ _ _ _ _ _ _ _ _ _ _ _ _ _ _ _ _ _ _ _ _ _ _ _ _ _ _ _ _ _ _ _ _ _ _ _ _ _ _ _ _ _ _ _ _ _ _ _ _ _ _ _ _ _ _ _ _ _ _ _ _ _ _ _ _ _ _ _ _ _ _ _ _ _ _ _ _ _ _ _ _ _ _ _ _ _ _ _ _ _ _ _ _ _ _ _ _ _ _ _ _ _ R9 R10 J16 J6 HU1 HU2) ?_
       ·intro a9 W9 hsz9 hdf9 hL9 hbs hsl
        obtain ⟨v9, h9, q9⟩ := hsl 5 _ _ rfl rfl
        obtain rfl : v9 = .agg #[.int .u64 pa.a0, .int .u64 pa.a1, .int .u64 pa.a2, .int .u64 pa.a3, .int .u64 pa.a4, .int .u64 pa.a5, .int .u64 pa.a6, .int .u64 pa.a7, .int .u64 pb.a0, .int .u64 pb.a1, .int .u64 pb.a2, .int .u64 pb.a3, .int .u64 pb.a4, .int .u64 pb.a5, .int .u64 pb.a6, .int .u64 pb.a7, .int .u64 pc.a0, .int .u64 pc.a1, .int .u64 pc.a2, .int .u64 pc.a3, .int .u64 pc.a4, .int .u64 pc.a5, .int .u64 pc.a6, .int .u64 pc.a7, .int .u64 pd.a0, .int .u64 pd.a1, .int .u64 pd.a2, .int .u64 pd.a3, .int .u64 pd.a4, .int .u64 pd.a5, .int .u64 pd.a6, .int .u64 pd.a7, .int .u64 pe.a0, .int .u64 pe.a1, .int .u64 pe.a2, .int .u64 pe.a3, .int .u64 pe.a4, .int .u64 pe.a5, .int .u64 pe.a6, .int .u64 pe.a7, .int .u64 pf.a0, .int .u64 pf.a1, .int .u64 pf.a2, .int .u64 pf.a3, .int .u64 pf.a4, .int .u64 pf.a5, .int .u64 pf.a6, .int .u64 pf.a7] := q9
        have w113 := slot_getD h9
        clear h9
        obtain ⟨v9, h9, q9⟩ := hsl 6 _ _ rfl rfl
        obtain rfl : v9 = .int .i64 0 := q9
        have w114 := slot_getD h9
        clear h9
        refine hKN _ _ ?_
        obtain ⟨T9, df9⟩ := a9
        obtain rfl : df9 = [] := hdf9
        obtain ⟨f, hf, rfl⟩ := spell145 T9 hsz9
        have X9 := fun k v h => (hf k).trans (slot_getD (hbs k v h))
        have x113 := (hf 113).trans w113
        have x114 := (hf 114).trans w114
        clear hbs hsl hf hsz9 hKN w113 w114
        simp only [X9 6 _ rfl, X9 9 _ rfl, X9 10 _ rfl, X9 0 _ rfl, X9 1 _ rfl, X9 2 _ rfl, X9 3 _ rfl, X9 4 _ rfl, X9 5 _ rfl, X9 7 _ rfl, X9 8 _ rfl, X9 11 _ rfl, X9 12 _ rfl, X9 13 _ rfl, X9 14 _ rfl, X9 15 _ rfl, X9 16 _ rfl, X9 17 _ rfl, X9 18 _ rfl, X9 19 _ rfl, X9 20 _ rfl, X9 21 _ rfl, X9 22 _ rfl, X9 23 _ rfl, X9 24 _ rfl, X9 25 _ rfl, X9 26 _ rfl, X9 27 _ rfl, X9 28 _ rfl, X9 29 _ rfl, X9 30 _ rfl, X9 31 _ rfl, X9 32 _ rfl, X9 33 _ rfl, X9 34 _ rfl, X9 35 _ rfl, X9 36 _ rfl, X9 37 _ rfl, X9 38 _ rfl, X9 39 _ rfl, X9 40 _ rfl, X9 41 _ rfl, X9 42 _ rfl, X9 43 _ rfl, X9 44 _ rfl, X9 45 _ rfl, X9 46 _ rfl, X9 47 _ rfl, X9 48 _ rfl, X9 49 _ rfl, X9 50 _ rfl, X9 51 _ rfl, X9 52 _ rfl, X9 53 _ rfl, X9 54 _ rfl, X9 55 _ rfl, X9 56 _ rfl, X9 57 _ rfl, X9 58 _ rfl, X9 59 _ rfl, X9 60 _ rfl, X9 61 _ rfl, X9 62 _ rfl, X9 63 _ rfl, X9 64 _ rfl, X9 65 _ rfl, X9 66 _ rfl, X9 67 _ rfl, X9 68 _ rfl, X9 69 _ rfl, X9 70 _ rfl, X9 71 _ rfl, X9 72 _ rfl, X9 73 _ rfl, X9 74 _ rfl, X9 75 _ rfl, X9 76 _ rfl, X9 77 _ rfl, X9 78 _ rfl, X9 79 _ rfl, X9 80 _ rfl, X9 81 _ rfl, X9 82 _ rfl, X9 83 _ rfl, X9 84 _ rfl, X9 85 _ rfl, X9 86 _ rfl, X9 87 _ rfl, X9 88 _ rfl, X9 89 _ rfl, X9 90 _ rfl, X9 91 _ rfl, X9 92 _ rfl, X9 93 _ rfl, X9 94 _ rfl, X9 95 _ rfl, X9 96 _ rfl, X9 97 _ rfl, X9 98 _ rfl, X9 99 _ rfl, X9 100 _ rfl, X9 101 _ rfl, X9 102 _ rfl, X9 103 _ rfl, X9 104 _ rfl, X9 105 _ rfl, X9 106 _ rfl, X9 107 _ rfl, X9 115 _ rfl, X9 116 _ rfl, X9 117 _ rfl, X9 118 _ rfl, X9 119 _ rfl, X9 120 _ rfl, X9 121 _ rfl, X9 122 _ rfl, X9 123 _ rfl, X9 124 _ rfl, X9 125 _ rfl, X9 126 _ rfl, X9 127 _ rfl, X9 128 _ rfl, X9 129 _ rfl, X9 130 _ rfl, X9 131 _ rfl, X9 132 _ rfl, X9 133 _ rfl, X9 134 _ rfl, X9 135 _ rfl, X9 136 _ rfl, X9 137 _ rfl, X9 138 _ rfl, X9 139 _ rfl, X9 140 _ rfl, X9 141 _ rfl, X9 142 _ rfl, X9 143 _ rfl, X9 144 _ rfl, x113, x114]
        clear x113 x114 X9
        replace k6 := k6.later hL9
        replace l0 := l0.trans hL9
        obtain ⟨X1, rfl⟩ : ∃ z, z = W9 := ⟨_, rfl⟩
        clear hL9 R9 R10 J16 J6 HU1 HU2 HUU
        have HCX : Hid (∀ x y, ((x = pa ∧ y = pb) ∨ (x = pc ∧ y = pd) ∨ (x = pe ∧ y = pf)) → ∃ b t en, CoT s x y b t en) := fun x y h => by
         rcases h with ⟨rfl, rfl⟩ | ⟨rfl, rfl⟩ | ⟨rfl, rfl⟩
         ·exact HCOH.out _ _ HUV.out.1.1 HUV.out.1.2
         ·exact HCOH.out _ _ HUV.out.2.1.1 HUV.out.2.1.2
         ·exact HCOH.out _ _ HUV.out.2.2.1 HUV.out.2.2.2
        clear HCOH HUV
        go_upto_region 22 with (fail)
        go_loopw [114] (fun i wr => ∃ q : Nat, q ≤ 3 ∧ i = .int .i64 q ∧ Blk wr g6 24 #[.int .u64 (s : Nat)] ∧ Lat w wr) (fun i _ => 3 - (intOf i).toNat)
        case atStart => exact ⟨0, by omega, rfl, k6, l0⟩
        case round =>
         clear k6 l0
         obtain ⟨q, hq3, rfl, k6, l0⟩ := hrel
         by_cases hq4 : q < 3
         ·have hqI : (q : Int) < 3 := by omega
          obtain ⟨x, y, hw, hix⟩ := co_ix3 pa pb pc pd pe pf wr q hq4
          obtain ⟨b, t, en, HB⟩ := HCX.out x y hw
          clear hw
          go_upto_region 24 with (fail)
          refine name1 (Q := fun W => Code.wp _ _ _ _ W) ?_
          intro Y0 la hs k26
          obtain ⟨g26, hg26⟩ : ∃ z, wr.heap.size = z := ⟨_, rfl⟩
          rw [hg26] at k26 ⊢
          replace k6 := k6.later la
          replace l0 := l0.trans la
          clear la hs hg26 hix
          have c6 := k6.cell 0
          have d0 := k26.cell 0
          have d1 := k26.cell 1
          have d2 := k26.cell 2
          have d3 := k26.cell 3
          have d4 := k26.cell 4
          have d5 := k26.cell 5
          have d6 := k26.cell 6
          have d7 := k26.cell 7
          have d8 := k26.cell 8
          have d9 := k26.cell 9
          have d10 := k26.cell 10
          have d11 := k26.cell 11
          have d12 := k26.cell 12
          have d13 := k26.cell 13
          have d14 := k26.cell 14
          have d15 := k26.cell 15
          go_wp2_with fail
          refine (HB.p Y0).mono ?_
          rintro e Y1 ⟨rfl, la⟩
          clear d0 d1 d2 d3 d4 d5 d6 d7 d8 d9 d10 d11 d12 d13 d14 d15
          clear c6
          replace k6 := k6.later la
          replace k26 := k26.later la
          replace l0 := l0.trans la
          clear la
          go_upto_region 25 with (fail)
          refine name1 (Q := fun W => Code.wp _ _ _ _ W) ?_
          intro Y2 la hs ka
          obtain ⟨ga, hga⟩ : ∃ z, Y1.heap.size = z := ⟨_, rfl⟩
          rw [hga] at ka ⊢
          replace k6 := k6.later la
          replace k26 := k26.later la
          replace l0 := l0.trans la
          clear la hs hga
          have c6 := k6.cell 0
          have d0 := k26.cell 0
          have d1 := k26.cell 1
          have d2 := k26.cell 2
          have d3 := k26.cell 3
          have d4 := k26.cell 4
          have d5 := k26.cell 5
          have d6 := k26.cell 6
          have d7 := k26.cell 7
          have d8 := k26.cell 8
          have d9 := k26.cell 9
          have d10 := k26.cell 10
          have d11 := k26.cell 11
          have d12 := k26.cell 12
          have d13 := k26.cell 13
          have d14 := k26.cell 14
          have d15 := k26.cell 15
          go_wp2_with fail
          refine (HB.r Y2).mono ?_
          rintro e Y3 ⟨rfl, la⟩
          clear d0 d1 d2 d3 d4 d5 d6 d7 d8 d9 d10 d11 d12 d13 d14 d15
          clear c6
          replace k6 := k6.later la
          replace k26 := k26.later la
          replace ka := ka.later la
          replace l0 := l0.trans la
          clear la
          go_upto_region 26 with (fail)
          refine name1 (Q := fun W => Code.wp _ _ _ _ W) ?_
          intro Y4 la hs kb
          obtain ⟨gb, hgb⟩ : ∃ z, Y3.heap.size = z := ⟨_, rfl⟩
          rw [hgb] at kb ⊢
          replace k6 := k6.later la
          replace k26 := k26.later la
          replace ka := ka.later la
          replace l0 := l0.trans la
          clear la hs hgb
          have ca := ka.cell 0
          have cb := kb.cell 0
          have hq := HB.q
          have hneb := b_ne b
          have hnen : (en != en) = false := by simp
          clear HB HCX k26
          go_wp2
          go_roundw
          case rel => exact ⟨_, _, _, _, _, _, _, _, _, _, _, _, _, _, _, _, _, _, _, _, _, _, _, _, _, _, _, _, _, _, _, _, _, _, _, _, _, _, _, ⟨q + 1, by omega, by go_num, k6, l0⟩, rfl⟩
          case measure => simp [intOf]; omega
         ·obtain rfl : q = 3 := by omega
          go_wp2
          go_ret
          exact ⟨rfl, l0⟩
set_option maxRecDepth 100000 in
set_option maxHeartbeats 8000000 in
theorem cPicks_f (HWK : ∀ w, Calls Tryz.prog 7 #[] w (fun e w' => e = .returned (.bool true) ∧ Lat w w')) (s : Nat) (Ar : Option Addr) (nr cr mr : Nat) (ws : List W8) (A0 : Option Addr) (n0 c0 m : Nat) (xs : List Int)
  (pa pb : W8) (b1 b2 : Bool) (A1 A2 : Option Addr) (n1 c1 n2 c2 : Nat) (l1 l2 : Int) (w : World) (hwr : RowM w Ar 8 nr (wRows ws)) (hok : ∀ x ∈ ws, x.ok) (hrc : nr ≤ cr) (hmr : mr ≤ nr) (hmr6 : mr ≤ 6) (hmin6 : min ((nr : Nat) : Int) 6 = (mr : Int))
  (h0 : Sl w .u16 A0 n0 xs) (hx : ∀ x ∈ xs, 0 ≤ x ∧ x ≤ 65535) (hc : n0 ≤ c0) (hm : m ≤ n0) (hm12 : m ≤ 12) (hmin : min ((n0 : Nat) : Int) 12 = (m : Int)) (huv : pa.ok ∧ pb.ok)
  (HOF : ∀ z : Int, 0 ≤ z → z ≤ 65535 → ∀ w, Calls Tryz.prog 12 #[.int .i64 z] w (fun e w' => e = .returned (.agg #[.int .u64 (W8.of z).a0, .int .u64 (W8.of z).a1, .int .u64 (W8.of z).a2, .int .u64 (W8.of z).a3, .int .u64 (W8.of z).a4, .int .u64 (W8.of z).a5, .int .u64 (W8.of z).a6, .int .u64 (W8.of z).a7]) ∧ Lat w w'))
  (HPK : ∀ l : List W8, (∀ x ∈ l, x.ok) → ∃ k t en, PkT s l k t en) (HCO : ∀ u v : W8, u.ok → v.ok → ∃ b t en, CoT s u v b t en)
  (pc pd pe pf : W8) (hu1 : pc.ok ∧ pd.ok) (hu2 : pe.ok ∧ pf.ok) (HU10 : ∀ w, Calls Tryz.prog 19 #[.agg #[.bool b1, .slice A1 n1 c1, .int .u32 l1, .bool b2, .slice A2 n2 c2, .int .u32 l2]] w (fun e w' => e = .returned (.agg #[.int .u64 pc.a0, .int .u64 pc.a1, .int .u64 pc.a2, .int .u64 pc.a3, .int .u64 pc.a4, .int .u64 pc.a5, .int .u64 pc.a6, .int .u64 pc.a7, .int .u64 pd.a0, .int .u64 pd.a1, .int .u64 pd.a2, .int .u64 pd.a3, .int .u64 pd.a4, .int .u64 pd.a5, .int .u64 pd.a6, .int .u64 pd.a7]) ∧ Lat w w'))
  (HU20 : ∀ w, Calls Tryz.prog 28 #[.agg #[.bool b1, .slice A1 n1 c1, .int .u32 l1, .bool b2, .slice A2 n2 c2, .int .u32 l2]] w (fun e w' => e = .returned (.agg #[.int .u64 pe.a0, .int .u64 pe.a1, .int .u64 pe.a2, .int .u64 pe.a3, .int .u64 pe.a4, .int .u64 pe.a5, .int .u64 pe.a6, .int .u64 pe.a7, .int .u64 pf.a0, .int .u64 pf.a1, .int .u64 pf.a2, .int .u64 pf.a3, .int .u64 pf.a4, .int .u64 pf.a5, .int .u64 pf.a6, .int .u64 pf.a7]) ∧ Lat w w')) :
  Calls Tryz.prog 6 #[.agg #[.int .u64 (s : Nat)], .slice Ar nr cr, .slice A0 n0 c0, .agg #[.int .u64 pa.a0, .int .u64 pa.a1, .int .u64 pa.a2, .int .u64 pa.a3, .int .u64 pa.a4, .int .u64 pa.a5, .int .u64 pa.a6, .int .u64 pa.a7, .int .u64 pb.a0, .int .u64 pb.a1, .int .u64 pb.a2, .int .u64 pb.a3, .int .u64 pb.a4, .int .u64 pb.a5, .int .u64 pb.a6, .int .u64 pb.a7], .agg #[.bool b1, .slice A1 n1 c1, .int .u32 l1, .bool b2, .slice A2 n2 c2, .int .u32 l2], .bool false] w (fun e w' => e = .returned (.bool true) ∧ Lat w w') := by
 have HX := Lib.hid hx
 have HOFH := Lib.hid HOF
 have HPKH := Lib.hid HPK
 have HCOH := Lib.hid HCO
 have HUV := Lib.hid (And.intro huv (And.intro hu1 hu2))
 have HUU := Lib.hid (And.intro HU10 HU20)
 have HWR := Lib.hid (show RowM w Ar 8 mr (wRows (ws.take mr)) by rw [← w_take]; exact hwr.take hmr)
 have HOK := Lib.hid (show ∀ x ∈ ws.take mr, x.ok from fun x h => hok x (List.mem_of_mem_take h))
 have HRL := Lib.hid (show (ws.take mr).length ≤ 6 by rw [List.length_take]; omega)
 have HT0 := Lib.hid (h0.take hm)
 have HXT := Lib.hid (show ∀ x ∈ xs.take m, 0 ≤ x ∧ x ≤ 65535 from fun x h => hx x (List.mem_of_mem_take h))
 generalize ws.take mr = rs at HWR HOK HRL
 generalize xs.take m = ns at HT0 HXT
 clear hx HOF HPK HCO huv hu1 hu2 HU10 HU20 hwr hok h0 HX
 go_enter Tryz.func6, Tryz.ntmps6
 go_upto_region 1 with (fail)
 refine name3 (Q := fun W => Code.wp _ _ _ _ W) ?_
 intro W l0 hsz k6 k9 k10
 obtain ⟨g10, hg10⟩ : ∃ z, w.heap.size + 1 + 1 = z := ⟨_, rfl⟩
 obtain ⟨g9, hg9⟩ : ∃ z, w.heap.size + 1 = z := ⟨_, rfl⟩
 obtain ⟨g6, hg6⟩ : ∃ z, w.heap.size = z := ⟨_, rfl⟩
 rw [hg10] at k10
 rw [hg9] at k9
 rw [hg6] at k6
 rw [hg10, hg9, hg6]
 clear hg10 hg9 hg6 hsz
 go_wp2_with fail
 refine (HWK W).mono ?_
 rintro e V0 ⟨rfl, la⟩
 replace k6 := k6.later la
 replace k9 := k9.later la
 replace k10 := k10.later la
 replace l0 := l0.trans la
 clear la HWK
 have hmz : (0 : Int) ≤ (mr : Int) := by omega
 have hmc : (mr : Int) ≤ (cr : Int) := by omega
 go_upto_region 5 with (fail)
 have hmz0 : (0 : Int) ≤ (m : Int) := by omega
 have hmc0 : (m : Int) ≤ (c0 : Int) := by omega
 clear hmz hmc
 go_upto_region 6 with (fail)
 clear hmz0 hmc0 hmin hmin6 hc hrc hmr hm
 go_loopw [13, 15, 46] (fun lv _ i wr => ∃ j : Nat, j ≤ m ∧ i = .int .i64 j ∧ OwnM wr V0.heap.size 26 8 lv (wRows ((ns.take j).map W8.of)) ∧ Lat V0 wr) (fun _ _ i _ => m - (intOf i).toNat)
 case atStart => exact ⟨0, by omega, rfl, OwnM.nil _ _ _ _, Lat.refl _⟩
 case round =>
  obtain ⟨j, hj, rfl, O, hlr⟩ := hrel
  by_cases hlt : j < m
  ·obtain ⟨a, x, rfl, hbl, hx, hcell⟩ := (HT0.out.later (l0.trans hlr)).at hlt
   have hxi := HXT.out x (List.mem_of_getElem? hx)
   have hwx : wrap64 x = x := IntWalk.wrap64_in _ (by omega)
   have HO1 := HOFH.out x hxi.1 hxi.2
   have hltI : (j : Int) < (m : Int) := by omega
   have b0 : (0 : Int) ≤ (j : Int) := by omega
   have hnl := HT0.out.1
   have hlen2 : (wRows ((ns.take j).map W8.of)).length ≤ 100000000 := by rw [w_len, List.length_map, List.length_take]; omega
   have hst : wRows ((ns.take (j + 1)).map W8.of) = wRows ((ns.take j).map W8.of) ++ [wRow (W8.of x)] := wr_succ hx
   go_wp2_with fail
   refine (HO1 _).mono ?_
   rintro e V2 ⟨rfl, l2⟩
   have L2 := hlr.trans l2
   have O2 := O.later l2
   clear hlr O HO1 hcell hbl hxi hx
   have la := Lat.alloc V2 (.cells #[.int .u64 (W8.of x).a0, .int .u64 (W8.of x).a1, .int .u64 (W8.of x).a2, .int .u64 (W8.of x).a3, .int .u64 (W8.of x).a4, .int .u64 (W8.of x).a5, .int .u64 (W8.of x).a6, .int .u64 (W8.of x).a7] 26)
   go_wp2_with (at_builtin; refine wpList_pushM rfl _ _ 45 (by rfl) V0.heap.size 26 26 (.agg #[.int .u64 0, .int .u64 0, .int .u64 0, .int .u64 0, .int .u64 0, .int .u64 0, .int .u64 0, .int .u64 0]) 8 64 Tryz.underlying45 wideInfoA rfl (by decide) (by decide) _ _ [.int .u64 (W8.of x).a0, .int .u64 (W8.of x).a1, .int .u64 (W8.of x).a2, .int .u64 (W8.of x).a3, .int .u64 (W8.of x).a4, .int .u64 (W8.of x).a5, .int .u64 (W8.of x).a6, .int .u64 (W8.of x).a7] (by simp [Value.oneCell']) _ V2.heap.size (by rfl) (O2.later la) (Blk.new _ _ _) rfl 1 (by rfl) hlen2 (Nat.le_trans L2.size la.size) ?_; intro v' w' h1 h2 h3)
   have L4 := h3 _ (L2.trans la) (Nat.le_refl _)
   go_roundw
   case rel => exact ⟨j + 1, by omega, by go_num, by rw [hst]; exact h1, L4⟩
   case measure => simp [intOf]; omega
  ·obtain rfl : j = m := by omega
   obtain ⟨A9, c9, rfl, R9, _, _, _⟩ := O.form
   have hnl : (ns.take j).length = j := by rw [List.length_take]; have := HT0.out.1; omega
   have hok9 : ∀ x ∈ (ns.take j).map W8.of, x.ok := fun x hx => by
    obtain ⟨z, _, rfl⟩ := List.mem_map.1 hx
    exact W8.of_ok z
   have hl9 : ((ns.take j).map W8.of).length = j := by rw [List.length_map]; exact hnl
   generalize (ns.take j).map W8.of = fs at R9 hok9 hl9 O
   rw [w_len, hl9] at R9 ⊢
   clear O hnl
   replace k6 := k6.later hlr
   replace k9 := k9.later hlr
   replace k10 := k10.later hlr
   replace l0 := l0.trans hlr
   have HR0 := Lib.hid (HWR.out.later l0)
   have HR9 := Lib.hid R9
   have HF := Lib.hid (And.intro hok9 hl9)
   have hj12 : j ≤ 12 := hm12
   obtain ⟨V, rfl⟩ : ∃ V, V = wr := ⟨_, rfl⟩
   clear hlr R9 hok9 hl9 HT0 HXT hlt hj HWR
   go_wp2_with fail
   refine name1 (Q := fun W => Calls _ _ _ W _) ?_
   intro V1 la hs kb
   have HCC := concat_two Ar A9 mr cr j c9 2 V.heap.size (wRows rs) (wRows fs) (w_one rs) (w_one fs) (by omega) (by omega) V1 kb (HR0.out.later la) (HR9.out.later la)
   refine HCC.mono ?_
   rintro e V2 ⟨mv, rfl, O, lb⟩
   have LV2 := la.trans lb
   rw [w_app] at O
   have O0 := O.low la.size
   have hokm : ∀ x ∈ rs ++ fs, x.ok := fun x hx => by
    rcases List.mem_append.1 hx with hx | hx
    ·exact HOK.out x hx
    ·exact HF.out.1 x hx
   have hlm : (rs ++ fs).length ≤ 401 := by rw [List.length_append, HF.out.2]; have := HRL.out; omega
   generalize rs ++ fs = ms at O0 hokm hlm
   clear O HCC kb hs la lb
   go_upto_region 11 with (fail)
   go_loopw [16] (fun mv wr => ∃ l : List W8, (∀ x ∈ l, x.ok) ∧ l.length ≤ 401 ∧ OwnM wr V.heap.size 26 8 mv (wRows l) ∧ Lat V wr) (fun mv _ => 401 - lenV mv)
   case atStart => exact ⟨ms, hokm, hlm, O0, LV2⟩
   case round =>
    clear O0 LV2 hokm hlm
    obtain ⟨l, hokl, hll, O, hlr⟩ := hrel
    obtain ⟨A8, c8, rfl, R8, hc8, _, _⟩ := O.form
    rw [w_len] at R8 hc8 ⊢
    clear O hc8
    replace k6 := k6.later hlr
    replace k9 := k9.later hlr
    replace k10 := k10.later hlr
    replace l0 := l0.trans hlr
    have HR0 := Lib.hid (HR0.out.later hlr)
    have HR9 := Lib.hid (HR9.out.later hlr)
    obtain ⟨X, rfl⟩ : ∃ X, X = wr := ⟨_, rfl⟩
    obtain ⟨ka0, ta0, ea0, HB0⟩ := HPKH.out rs HOK.out
    obtain ⟨ka1, ta1, ea1, HB1⟩ := HPKH.out fs HF.out.1
    obtain ⟨ka2, ta2, ea2, HB2⟩ := HPKH.out l hokl
    have HL : Hid (∀ A n c, ((A = Ar ∧ n = mr ∧ c = cr) ∨ (A = A9 ∧ n = j ∧ c = c9) ∨ (A = A8 ∧ n = l.length ∧ c = c8)) → ∃ k t en, PkL s X A n c k t en) := fun A n c h => by
     rcases h with ⟨rfl, rfl, rfl⟩ | ⟨rfl, rfl, rfl⟩ | ⟨rfl, rfl, rfl⟩
     ·exact ⟨_, _, _, HB0.list HR0.out⟩
     ·exact ⟨_, _, _, HB1.list HR9.out⟩
     ·exact ⟨_, _, _, HB2.list R8⟩
    generalize l.length = ml at *
    clear hlr HB0 HB1 HB2 HR0 HR9 R8 hokl hll HPKH HOK HF HRL hj12 hm12 hmr6
    go_upto_region 14 with (fail)
    go_loopw [77] (fun i wr => ∃ q : Nat, q ≤ 3 ∧ i = .int .i64 q ∧ Blk wr g6 24 #[.int .u64 (s : Nat)] ∧ Blk wr g9 53 #[.int .u64 pa.a0, .int .u64 pa.a1, .int .u64 pa.a2, .int .u64 pa.a3, .int .u64 pa.a4, .int .u64 pa.a5, .int .u64 pa.a6, .int .u64 pa.a7, .int .u64 pb.a0, .int .u64 pb.a1, .int .u64 pb.a2, .int .u64 pb.a3, .int .u64 pb.a4, .int .u64 pb.a5, .int .u64 pb.a6, .int .u64 pb.a7] ∧ Blk wr g10 44 #[.bool b1, .slice A1 n1 c1, .int .u32 l1, .bool b2, .slice A2 n2 c2, .int .u32 l2] ∧ Lat w wr ∧ Lat X wr) (fun i _ => 3 - (intOf i).toNat)
    case atStart => exact ⟨0, by omega, rfl, k6, k9, k10, l0, Lat.refl _⟩
    case round =>
     clear k6 k9 k10 l0
     obtain ⟨q, hq3, rfl, k6, k9, k10, l0, lx⟩ := hrel
     by_cases hq4 : q < 3
     ·have hqI : (q : Int) < 3 := by omega
      obtain ⟨A, n, c, hw, hix⟩ := pk_ix3 Ar A9 A8 mr cr j c9 ml c8 wr q hq4
      obtain ⟨k, t, en, HB⟩ := HL.out A n c hw
      clear hw
      have c6 := k6.cell 0
      go_wp2_with fail
      refine (HB.p wr lx).mono ?_
      rintro e Y1 ⟨rfl, la⟩
      clear c6 hix
      replace k6 := k6.later la
      replace k9 := k9.later la
      replace k10 := k10.later la
      replace l0 := l0.trans la
      replace lx := lx.trans la
      clear la
      go_upto_region 17 with (fail)
      refine name1 (Q := fun W => Code.wp _ _ _ _ W) ?_
      intro Y2 la hs ka
      obtain ⟨ga, hga⟩ : ∃ z, Y1.heap.size = z := ⟨_, rfl⟩
      rw [hga] at ka ⊢
      replace k6 := k6.later la
      replace k9 := k9.later la
      replace k10 := k10.later la
      replace l0 := l0.trans la
      replace lx := lx.trans la
      clear la hs hga
      have c6 := k6.cell 0
      go_wp2_with fail
      refine (HB.r Y2 lx).mono ?_
      rintro e Y3 ⟨rfl, la⟩
      clear c6
      replace k6 := k6.later la
      replace k9 := k9.later la
      replace k10 := k10.later la
      replace ka := ka.later la
      replace l0 := l0.trans la
      replace lx := lx.trans la
      clear la
      go_upto_region 18 with (fail)
      refine name1 (Q := fun W => Code.wp _ _ _ _ W) ?_
      intro Y4 la hs kb
      obtain ⟨gb, hgb⟩ : ∃ z, Y3.heap.size = z := ⟨_, rfl⟩
      rw [hgb] at kb ⊢
      replace k6 := k6.later la
      replace k9 := k9.later la
      replace k10 := k10.later la
      replace ka := ka.later la
      replace l0 := l0.trans la
      replace lx := lx.trans la
      clear la hs hgb
      have ca := ka.cell 0
      have cb := kb.cell 0
      have hq := HB.q
      have hnek : (k != k) = false := by simp
      have hnen : (en != en) = false := by simp
      clear HB HL
      go_wp2
      go_roundw
      case rel => exact ⟨q + 1, by omega, by go_num, k6, k9, k10, l0, lx⟩
      case measure => simp [intOf]; omega
     ·obtain rfl : q = 3 := by omega
      have R9 : ∀ w', Lat wr w' → w'.rangeAt g9 0 [.int .u64 pa.a0, .int .u64 pa.a1, .int .u64 pa.a2, .int .u64 pa.a3, .int .u64 pa.a4, .int .u64 pa.a5, .int .u64 pa.a6, .int .u64 pa.a7, .int .u64 pb.a0, .int .u64 pb.a1, .int .u64 pb.a2, .int .u64 pb.a3, .int .u64 pb.a4, .int .u64 pb.a5, .int .u64 pb.a6, .int .u64 pb.a7] := fun w' hl => (k9.later hl).rangeAll
      have R10 : ∀ w', Lat wr w' → w'.rangeAt g10 0 [.bool b1, .slice A1 n1 c1, .int .u32 l1, .bool b2, .slice A2 n2 c2, .int .u32 l2] := fun w' hl => (k10.later hl).rangeAll
      have J16 : (Tryz.prog.info? 53).map (·.size) = some 16 := by kernel_rfl
      have J6 : (Tryz.prog.info? 44).map (·.size) = some 6 := by kernel_rfl
      obtain ⟨HU1, HU2⟩ := HUU.out
      obtain ⟨X0, rfl⟩ : ∃ X0, X0 = wr := ⟨_, rfl⟩
      clear hq3 hq4 HL lx k9 k10
      go_upto_region 21 with (fail)
      rename_i KN hKN
      refine wp_region_slots (pk21_rows b1 b2 A1 A2 n1 c1 n2 c2 l1 l2 pa pb pc pd pe pf g6 g9 g10) (pk21_base b1 b2 A1 A2 n1 c1 n2 c2 l1 l2 pa pb pc pd pe pf g6 g9 g10 _ _ _ _ _ _ _ _ _ _ _ _ _ _ _ _ _ _ _ _ _ _ _ _ _ _ _ _ _ _ _ _ _ _ _ _ _ _ _ _ _ _ _ _ _ _ _ _ _ _ _ _ _ _ _ _ _ _ _ _ _ _ _ _ _ _ _ _ _ _ _ _ _ _ _ _ _ _ _ _ _ _ _ _ _ _ _ _ _ _ _ _ _ _ _ _ _ _ _ _ _ _ _ _ _ _ _ _ _ _ _ _ _ _ _ _ _ _ _ _ _ _ _ _ _ _ _ _ _ _ _ _ _ _ _) 145 7 [[], [], [1], [], [3, 2], [0, 2, 4], []] (by kernel_rfl) (by kernel_rfl) (by kernel_rfl) (by kernel_rfl) (by kernel_rfl) (by kernel_rfl) (by rfl) rfl (base_of (base_cons rfl (base_cons rfl (base_cons rfl (base_cons rfl (base_cons rfl (base_cons rfl (base_cons rfl (base_cons rfl (base_cons rfl (base_cons rfl (base_cons rfl (base_cons rfl (base_cons rfl (base_cons rfl (base_cons rfl (base_cons rfl (base_cons rfl (base_cons rfl (base_cons rfl (base_cons rfl (base_cons rfl (base_cons rfl (base_cons rfl (base_cons rfl (base_cons rfl (base_cons rfl (base_cons rfl (base_cons rfl (base_cons rfl (base_cons rfl (base_cons rfl (base_cons rfl (base_cons rfl (base_cons rfl (base_cons rfl (base_cons rfl (base_cons rfl (base_cons rfl (base_cons rfl (base_cons rfl (base_cons rfl (base_cons rfl (base_cons rfl (base_cons rfl (base_cons rfl (base_cons rfl (base_cons rfl (base_cons rfl (base_cons rfl (base_cons rfl (base_cons rfl (base_cons rfl (base_cons rfl (base_cons rfl (base_cons rfl (base_cons rfl (base_cons rfl (base_cons rfl (base_cons rfl (base_cons rfl (base_cons rfl (base_cons rfl (base_cons rfl (base_cons rfl (base_cons rfl (base_cons rfl (base_cons rfl (base_cons rfl (base_cons rfl (base_cons rfl (base_cons rfl (base_cons rfl (base_cons rfl (base_cons rfl (base_cons rfl (base_cons rfl (base_cons rfl (base_cons rfl (base_cons rfl (base_cons rfl (base_cons rfl (base_cons rfl (base_cons rfl (base_cons rfl (base_cons rfl (base_cons rfl (base_cons rfl (base_cons rfl (base_cons rfl (base_cons rfl (base_cons rfl (base_cons rfl (base_cons rfl (base_cons rfl (base_cons rfl (base_cons rfl (base_cons rfl (base_cons rfl (base_cons rfl (base_cons rfl (base_cons rfl (base_cons rfl (base_cons rfl (base_cons rfl (base_cons rfl (base_cons rfl (base_cons rfl (base_cons rfl (base_cons rfl (base_cons rfl (base_cons rfl (base_cons rfl (base_cons rfl (base_cons rfl (base_cons rfl (base_cons rfl (base_cons rfl (base_cons rfl (base_cons rfl (base_cons rfl (base_cons rfl (base_cons rfl (base_cons rfl (base_cons rfl (base_cons rfl (base_cons rfl (base_cons rfl (base_cons rfl (base_cons rfl (base_cons rfl (base_cons rfl (base_cons rfl (base_cons rfl (base_cons rfl (base_cons rfl (base_cons rfl (base_cons rfl (base_cons rfl (base_nil _)))))))))))))))))))))))))))))))))))))))))))))))))))))))))))))))))))))))))))))))))))))))))))))))))))))))))))))))))))))))))))))))))))))))))))) (pk21_steps X0 b1 b2 A1 A2 n1 c1 n2 c2 l1 l2 pa pb pc pd pe pf g6 g9 g10 _ _ _ _ _ _ _ _ _ _ _ _ _ _ _ _ _ _ _ _ _ _ _ _ _ _ _ _ _ _ _ _ _ _ _ _ _ _ _ _ _ _ _ _ _ _ _ _ _ _ _ _ _ _ _ _ _ _ _ _ _ _ _ _ _ _ _ _ _ _ _ _ _ _ _ _ _ _ _ _ _ _ _ _ _ _ _ _ _ _ _ _ _ _ _ _ _ _ _ _ _ _ _ _ _ _ _ _ _ _ _ _ _ _ _ _ _ _ _ _ _ _ _ _ _ _ _ _ _ _ _ _ _ _ _ R9 R10 J16 J6 HU1 HU2) ?_
      ·intro a9 W9 hsz9 hdf9 hL9 hbs hsl
       obtain ⟨v9, h9, q9⟩ := hsl 5 _ _ rfl rfl
       obtain rfl : v9 = .agg #[.int .u64 pa.a0, .int .u64 pa.a1, .int .u64 pa.a2, .int .u64 pa.a3, .int .u64 pa.a4, .int .u64 pa.a5, .int .u64 pa.a6, .int .u64 pa.a7, .int .u64 pb.a0, .int .u64 pb.a1, .int .u64 pb.a2, .int .u64 pb.a3, .int .u64 pb.a4, .int .u64 pb.a5, .int .u64 pb.a6, .int .u64 pb.a7, .int .u64 pc.a0, .int .u64 pc.a1, .int .u64 pc.a2, .int .u64 pc.a3, .int .u64 pc.a4, .int .u64 pc.a5, .int .u64 pc.a6, .int .u64 pc.a7, .int .u64 pd.a0, .int .u64 pd.a1, .int .u64 pd.a2, .int .u64 pd.a3, .int .u64 pd.a4, .int .u64 pd.a5, .int .u64 pd.a6, .int .u64 pd.a7, .int .u64 pe.a0, .int .u64 pe.a1, .int .u64 pe.a2, .int .u64 pe.a3, .int .u64 pe.a4, .int .u64 pe.a5, .int .u64 pe.a6, .int .u64 pe.a7, .int .u64 pf.a0, .int .u64 pf.a1, .int .u64 pf.a2, .int .u64 pf.a3, .int .u64 pf.a4, .int .u64 pf.a5, .int .u64 pf.a6, .int .u64 pf.a7] := q9
       have w113 := slot_getD h9
       clear h9
       obtain ⟨v9, h9, q9⟩ := hsl 6 _ _ rfl rfl
       obtain rfl : v9 = .int .i64 0 := q9
       have w114 := slot_getD h9
       clear h9
       refine hKN _ _ ?_
       obtain ⟨T9, df9⟩ := a9
       obtain rfl : df9 = [] := hdf9
       obtain ⟨f, hf, rfl⟩ := spell145 T9 hsz9
       have X9 := fun k v h => (hf k).trans (slot_getD (hbs k v h))
       have x113 := (hf 113).trans w113
       have x114 := (hf 114).trans w114
       clear hbs hsl hf hsz9 hKN w113 w114
       simp only [X9 6 _ rfl, X9 9 _ rfl, X9 10 _ rfl, X9 0 _ rfl, X9 1 _ rfl, X9 2 _ rfl, X9 3 _ rfl, X9 4 _ rfl, X9 5 _ rfl, X9 7 _ rfl, X9 8 _ rfl, X9 11 _ rfl, X9 12 _ rfl, X9 13 _ rfl, X9 14 _ rfl, X9 15 _ rfl, X9 16 _ rfl, X9 17 _ rfl, X9 18 _ rfl, X9 19 _ rfl, X9 20 _ rfl, X9 21 _ rfl, X9 22 _ rfl, X9 23 _ rfl, X9 24 _ rfl, X9 25 _ rfl, X9 26 _ rfl, X9 27 _ rfl, X9 28 _ rfl, X9 29 _ rfl, X9 30 _ rfl, X9 31 _ rfl, X9 32 _ rfl, X9 33 _ rfl, X9 34 _ rfl, X9 35 _ rfl, X9 36 _ rfl, X9 37 _ rfl, X9 38 _ rfl, X9 39 _ rfl, X9 40 _ rfl, X9 41 _ rfl, X9 42 _ rfl, X9 43 _ rfl, X9 44 _ rfl, X9 45 _ rfl, X9 46 _ rfl, X9 47 _ rfl, X9 48 _ rfl, X9 49 _ rfl, X9 50 _ rfl, X9 51 _ rfl, X9 52 _ rfl, X9 53 _ rfl, X9 54 _ rfl, X9 55 _ rfl, X9 56 _ rfl, X9 57 _ rfl, X9 58 _ rfl, X9 59 _ rfl, X9 60 _ rfl, X9 61 _ rfl, X9 62 _ rfl, X9 63 _ rfl, X9 64 _ rfl, X9 65 _ rfl, X9 66 _ rfl, X9 67 _ rfl, X9 68 _ rfl, X9 69 _ rfl, X9 70 _ rfl, X9 71 _ rfl, X9 72 _ rfl, X9 73 _ rfl, X9 74 _ rfl, X9 75 _ rfl, X9 76 _ rfl, X9 77 _ rfl, X9 78 _ rfl, X9 79 _ rfl, X9 80 _ rfl, X9 81 _ rfl, X9 82 _ rfl, X9 83 _ rfl, X9 84 _ rfl, X9 85 _ rfl, X9 86 _ rfl, X9 87 _ rfl, X9 88 _ rfl, X9 89 _ rfl, X9 90 _ rfl, X9 91 _ rfl, X9 92 _ rfl, X9 93 _ rfl, X9 94 _ rfl, X9 95 _ rfl, X9 96 _ rfl, X9 97 _ rfl, X9 98 _ rfl, X9 99 _ rfl, X9 100 _ rfl, X9 101 _ rfl, X9 102 _ rfl, X9 103 _ rfl, X9 104 _ rfl, X9 105 _ rfl, X9 106 _ rfl, X9 107 _ rfl, X9 115 _ rfl, X9 116 _ rfl, X9 117 _ rfl, X9 118 _ rfl, X9 119 _ rfl, X9 120 _ rfl, X9 121 _ rfl, X9 122 _ rfl, X9 123 _ rfl, X9 124 _ rfl, X9 125 _ rfl, X9 126 _ rfl, X9 127 _ rfl, X9 128 _ rfl, X9 129 _ rfl, X9 130 _ rfl, X9 131 _ rfl, X9 132 _ rfl, X9 133 _ rfl, X9 134 _ rfl, X9 135 _ rfl, X9 136 _ rfl, X9 137 _ rfl, X9 138 _ rfl, X9 139 _ rfl, X9 140 _ rfl, X9 141 _ rfl, X9 142 _ rfl, X9 143 _ rfl, X9 144 _ rfl, x113, x114]
       clear x113 x114 X9
       replace k6 := k6.later hL9
       replace l0 := l0.trans hL9
       obtain ⟨X1, rfl⟩ : ∃ z, z = W9 := ⟨_, rfl⟩
       clear hL9 R9 R10 J16 J6 HU1 HU2 HUU
       have HCX : Hid (∀ x y, ((x = pa ∧ y = pb) ∨ (x = pc ∧ y = pd) ∨ (x = pe ∧ y = pf)) → ∃ b t en, CoT s x y b t en) := fun x y h => by
        rcases h with ⟨rfl, rfl⟩ | ⟨rfl, rfl⟩ | ⟨rfl, rfl⟩
        ·exact HCOH.out _ _ HUV.out.1.1 HUV.out.1.2
        ·exact HCOH.out _ _ HUV.out.2.1.1 HUV.out.2.1.2
        ·exact HCOH.out _ _ HUV.out.2.2.1 HUV.out.2.2.2
       clear HCOH HUV
       go_upto_region 22 with (fail)
       go_loopw [114] (fun i wr => ∃ q : Nat, q ≤ 3 ∧ i = .int .i64 q ∧ Blk wr g6 24 #[.int .u64 (s : Nat)] ∧ Lat w wr) (fun i _ => 3 - (intOf i).toNat)
       case atStart => exact ⟨0, by omega, rfl, k6, l0⟩
       case round =>
        clear k6 l0
        obtain ⟨q, hq3, rfl, k6, l0⟩ := hrel
        by_cases hq4 : q < 3
        ·have hqI : (q : Int) < 3 := by omega
         obtain ⟨x, y, hw, hix⟩ := co_ix3 pa pb pc pd pe pf wr q hq4
         obtain ⟨b, t, en, HB⟩ := HCX.out x y hw
         clear hw
         go_upto_region 24 with (fail)
         refine name1 (Q := fun W => Code.wp _ _ _ _ W) ?_
         intro Y0 la hs k26
         obtain ⟨g26, hg26⟩ : ∃ z, wr.heap.size = z := ⟨_, rfl⟩
         rw [hg26] at k26 ⊢
         replace k6 := k6.later la
         replace l0 := l0.trans la
         clear la hs hg26 hix
         have c6 := k6.cell 0
         have d0 := k26.cell 0
         have d1 := k26.cell 1
         have d2 := k26.cell 2
         have d3 := k26.cell 3
         have d4 := k26.cell 4
         have d5 := k26.cell 5
         have d6 := k26.cell 6
         have d7 := k26.cell 7
         have d8 := k26.cell 8
         have d9 := k26.cell 9
         have d10 := k26.cell 10
         have d11 := k26.cell 11
         have d12 := k26.cell 12
         have d13 := k26.cell 13
         have d14 := k26.cell 14
         have d15 := k26.cell 15
         go_wp2_with fail
         refine (HB.p Y0).mono ?_
         rintro e Y1 ⟨rfl, la⟩
         clear d0 d1 d2 d3 d4 d5 d6 d7 d8 d9 d10 d11 d12 d13 d14 d15
         clear c6
         replace k6 := k6.later la
         replace k26 := k26.later la
         replace l0 := l0.trans la
         clear la
         go_upto_region 25 with (fail)
         refine name1 (Q := fun W => Code.wp _ _ _ _ W) ?_
         intro Y2 la hs ka
         obtain ⟨ga, hga⟩ : ∃ z, Y1.heap.size = z := ⟨_, rfl⟩
         rw [hga] at ka ⊢
         replace k6 := k6.later la
         replace k26 := k26.later la
         replace l0 := l0.trans la
         clear la hs hga
         have c6 := k6.cell 0
         have d0 := k26.cell 0
         have d1 := k26.cell 1
         have d2 := k26.cell 2
         have d3 := k26.cell 3
         have d4 := k26.cell 4
         have d5 := k26.cell 5
         have d6 := k26.cell 6
         have d7 := k26.cell 7
         have d8 := k26.cell 8
         have d9 := k26.cell 9
         have d10 := k26.cell 10
         have d11 := k26.cell 11
         have d12 := k26.cell 12
         have d13 := k26.cell 13
         have d14 := k26.cell 14
         have d15 := k26.cell 15
         go_wp2_with fail
         refine (HB.r Y2).mono ?_
         rintro e Y3 ⟨rfl, la⟩
         clear d0 d1 d2 d3 d4 d5 d6 d7 d8 d9 d10 d11 d12 d13 d14 d15
         clear c6
         replace k6 := k6.later la
         replace k26 := k26.later la
         replace ka := ka.later la
         replace l0 := l0.trans la
         clear la
         go_upto_region 26 with (fail)
         refine name1 (Q := fun W => Code.wp _ _ _ _ W) ?_
         intro Y4 la hs kb
         obtain ⟨gb, hgb⟩ : ∃ z, Y3.heap.size = z := ⟨_, rfl⟩
         rw [hgb] at kb ⊢
         replace k6 := k6.later la
         replace k26 := k26.later la
         replace ka := ka.later la
         replace l0 := l0.trans la
         clear la hs hgb
         have ca := ka.cell 0
         have cb := kb.cell 0
         have hq := HB.q
         have hneb := b_ne b
         have hnen : (en != en) = false := by simp
         clear HB HCX k26
         go_wp2
         go_roundw
         case rel => exact ⟨_, _, _, _, _, _, _, _, _, _, _, _, _, _, _, _, _, _, _, _, _, _, _, _, _, _, _, _, _, _, _, _, _, _, _, _, _, _, _, ⟨q + 1, by omega, by go_num, k6, l0⟩, rfl⟩
         case measure => simp [intOf]; omega
        ·obtain rfl : q = 3 := by omega
         go_wp2
         go_ret
         exact ⟨rfl, l0⟩
theorem cPicks_from (HWK : ∀ w, Calls Tryz.prog 7 #[] w (fun e w' => e = .returned (.bool true) ∧ Lat w w')) (s : Nat) (Ar : Option Addr) (nr cr mr : Nat) (ws : List W8) (A0 : Option Addr) (n0 c0 m : Nat) (xs : List Int)
  (pa pb : W8) (b1 b2 : Bool) (A1 A2 : Option Addr) (n1 c1 n2 c2 : Nat) (l1 l2 : Int) (lg : Bool) (w : World) (hwr : RowM w Ar 8 nr (wRows ws)) (hok : ∀ x ∈ ws, x.ok) (hrc : nr ≤ cr) (hmr : mr ≤ nr) (hmr6 : mr ≤ 6) (hmin6 : min ((nr : Nat) : Int) 6 = (mr : Int))
  (h0 : Sl w .u16 A0 n0 xs) (hx : ∀ x ∈ xs, 0 ≤ x ∧ x ≤ 65535) (hc : n0 ≤ c0) (hm : m ≤ n0) (hm12 : m ≤ 12) (hmin : min ((n0 : Nat) : Int) 12 = (m : Int)) (huv : pa.ok ∧ pb.ok)
  (HOF : ∀ z : Int, 0 ≤ z → z ≤ 65535 → ∀ w, Calls Tryz.prog 12 #[.int .i64 z] w (fun e w' => e = .returned (.agg #[.int .u64 (W8.of z).a0, .int .u64 (W8.of z).a1, .int .u64 (W8.of z).a2, .int .u64 (W8.of z).a3, .int .u64 (W8.of z).a4, .int .u64 (W8.of z).a5, .int .u64 (W8.of z).a6, .int .u64 (W8.of z).a7]) ∧ Lat w w'))
  (HPK : ∀ l : List W8, (∀ x ∈ l, x.ok) → ∃ k t en, PkT s l k t en) (HCO : ∀ u v : W8, u.ok → v.ok → ∃ b t en, CoT s u v b t en)
  (pc pd pe pf : W8) (hu1 : pc.ok ∧ pd.ok) (hu2 : pe.ok ∧ pf.ok) (HU10 : ∀ w, Calls Tryz.prog 19 #[.agg #[.bool b1, .slice A1 n1 c1, .int .u32 l1, .bool b2, .slice A2 n2 c2, .int .u32 l2]] w (fun e w' => e = .returned (.agg #[.int .u64 pc.a0, .int .u64 pc.a1, .int .u64 pc.a2, .int .u64 pc.a3, .int .u64 pc.a4, .int .u64 pc.a5, .int .u64 pc.a6, .int .u64 pc.a7, .int .u64 pd.a0, .int .u64 pd.a1, .int .u64 pd.a2, .int .u64 pd.a3, .int .u64 pd.a4, .int .u64 pd.a5, .int .u64 pd.a6, .int .u64 pd.a7]) ∧ Lat w w'))
  (HU20 : ∀ w, Calls Tryz.prog 28 #[.agg #[.bool b1, .slice A1 n1 c1, .int .u32 l1, .bool b2, .slice A2 n2 c2, .int .u32 l2]] w (fun e w' => e = .returned (.agg #[.int .u64 pe.a0, .int .u64 pe.a1, .int .u64 pe.a2, .int .u64 pe.a3, .int .u64 pe.a4, .int .u64 pe.a5, .int .u64 pe.a6, .int .u64 pe.a7, .int .u64 pf.a0, .int .u64 pf.a1, .int .u64 pf.a2, .int .u64 pf.a3, .int .u64 pf.a4, .int .u64 pf.a5, .int .u64 pf.a6, .int .u64 pf.a7]) ∧ Lat w w')) :
  Calls Tryz.prog 6 #[.agg #[.int .u64 (s : Nat)], .slice Ar nr cr, .slice A0 n0 c0, .agg #[.int .u64 pa.a0, .int .u64 pa.a1, .int .u64 pa.a2, .int .u64 pa.a3, .int .u64 pa.a4, .int .u64 pa.a5, .int .u64 pa.a6, .int .u64 pa.a7, .int .u64 pb.a0, .int .u64 pb.a1, .int .u64 pb.a2, .int .u64 pb.a3, .int .u64 pb.a4, .int .u64 pb.a5, .int .u64 pb.a6, .int .u64 pb.a7], .agg #[.bool b1, .slice A1 n1 c1, .int .u32 l1, .bool b2, .slice A2 n2 c2, .int .u32 l2], .bool lg] w (fun e w' => e = .returned (.bool true) ∧ Lat w w') := by
 cases lg with
 | true => exact cPicks_t HWK s Ar nr cr mr ws A0 n0 c0 m xs pa pb b1 b2 A1 A2 n1 c1 n2 c2 l1 l2 w hwr hok hrc hmr hmr6 hmin6 h0 hx hc hm hm12 hmin huv HOF HPK HCO pc pd pe pf hu1 hu2 HU10 HU20
 | false => exact cPicks_f HWK s Ar nr cr mr ws A0 n0 c0 m xs pa pb b1 b2 A1 A2 n1 c1 n2 c2 l1 l2 w hwr hok hrc hmr hmr6 hmin6 h0 hx hc hm hm12 hmin huv HOF HPK HCO pc pd pe pf hu1 hu2 HU10 HU20
end Go.Proofs.YtogkkhaepfablaaGreat
namespace Go.Proofs.YtogkkhaepfablaaGreat
open Go.ChangeShapes Go.WideShapes Go.ChangeAt Go.RowKit Go.Joins
set_option linter.unusedSimpArgs false
set_option linter.unusedVariables false
theorem rUnit_det (b1 b2 : Bool) (A1 A2 : Option Addr) (n1 c1 n2 c2 : Nat) (l1 l2 : Int) (w0 : World) (h1 : DrIn w0 A1 n1 l1) (h2 : DrIn w0 A2 n2 l2) :
  ∃ N D, ShFit N D ∧ ∀ w, Calls Tryz.prog 19 #[.agg #[.bool b1, .slice A1 n1 c1, .int .u32 l1, .bool b2, .slice A2 n2 c2, .int .u32 l2]] w (fun e w' => e = .returned (.agg #[.int .u64 (W8.of N).a0, .int .u64 (W8.of N).a1, .int .u64 (W8.of N).a2, .int .u64 (W8.of N).a3, .int .u64 (W8.of N).a4, .int .u64 (W8.of N).a5, .int .u64 (W8.of N).a6, .int .u64 (W8.of N).a7, .int .u64 (W8.of D).a0, .int .u64 (W8.of D).a1, .int .u64 (W8.of D).a2, .int .u64 (W8.of D).a3, .int .u64 (W8.of D).a4, .int .u64 (W8.of D).a5, .int .u64 (W8.of D).a6, .int .u64 (W8.of D).a7]) ∧ Lat w w') := by
 obtain ⟨a, HP, a0, a1⟩ := un_abs (smallV_in b1 (less := l1))
 obtain ⟨b, HQ, q0, q1⟩ := un_abs (smallV_in b2 (less := l2))
 obtain ⟨r, z, hF, z0, z1, d0, d1⟩ := un_num ⟨a0, a1⟩ ⟨q0, q1⟩
 obtain ⟨N, D, hfit, hN0, hND, HM⟩ := un_made z0 z1 d0 d1
 have hF4 := hF.d
 exact ⟨N, D, hfit, fun w => rUnit_from b1 b2 A1 A2 n1 c1 n2 c2 l1 l2 _ _ a b r (2 + r) z (1 + r) _ _ _ _ (fun w => rSmall_any b1 A1 n1 c1 l1 h1.l0 w) (fun w => rSmall_any b2 A2 n2 c2 l2 h2.l0 w) HP HQ hF.a hF.b hF.c hF.d hF.e hF.f hF.g
  (fun w => rWOf_any z (by omega) (by omega) w) (fun w => rWOf_any (1 + r) (by omega) (by omega) w) HM w⟩
theorem rShort_det (b1 b2 : Bool) (A1 A2 : Option Addr) (n1 c1 n2 c2 : Nat) (l1 l2 : Int) (w0 : World) (h1 : DrIn w0 A1 n1 l1) (h2 : DrIn w0 A2 n2 l2) :
  ∃ N D, ShFit N D ∧ ∀ w, Calls Tryz.prog 28 #[.agg #[.bool b1, .slice A1 n1 c1, .int .u32 l1, .bool b2, .slice A2 n2 c2, .int .u32 l2]] w (fun e w' => e = .returned (.agg #[.int .u64 (W8.of N).a0, .int .u64 (W8.of N).a1, .int .u64 (W8.of N).a2, .int .u64 (W8.of N).a3, .int .u64 (W8.of N).a4, .int .u64 (W8.of N).a5, .int .u64 (W8.of N).a6, .int .u64 (W8.of N).a7, .int .u64 (W8.of D).a0, .int .u64 (W8.of D).a1, .int .u64 (W8.of D).a2, .int .u64 (W8.of D).a3, .int .u64 (W8.of D).a4, .int .u64 (W8.of D).a5, .int .u64 (W8.of D).a6, .int .u64 (W8.of D).a7]) ∧ Lat w w') := by
 have s1 := smallV_in b1 (less := l1)
 have s2 := smallV_in b2 (less := l2)
 generalize hp : smallV b1 l1 = p at s1
 generalize hq : smallV b2 l2 = q at s2
 have z0 : -1000 < p.tmod 1000 ∧ p.tmod 1000 < 1000 := by
  rcases Int.lt_or_le p 0 with h | h
  ·have e : p.tmod 1000 = -((-p).tmod 1000) := by rw [Int.neg_tmod, Int.neg_neg]
   rw [e, Int.tmod_eq_emod_of_nonneg (by omega)]
   omega
  ·rw [Int.tmod_eq_emod_of_nonneg h]
   omega
 have HS1 : ∀ w, Calls Tryz.prog 55 #[.agg #[.bool b1, .slice A1 n1 c1, .int .u32 l1]] w (fun e w' => e = .returned (.int .i64 p) ∧ Lat w w') := fun w => by rw [← hp]; exact rSmall_any b1 A1 n1 c1 l1 h1.l0 w
 have HS2 : ∀ w, Calls Tryz.prog 55 #[.agg #[.bool b2, .slice A2 n2 c2, .int .u32 l2]] w (fun e w' => e = .returned (.int .i64 q) ∧ Lat w w') := fun w => by rw [← hq]; exact rSmall_any b2 A2 n2 c2 l2 h2.l0 w
 have key : ∀ r, 0 ≤ r → r < 24 → ∃ N D, ShFit N D ∧ ∀ w, Calls Tryz.prog 56 #[.agg #[.int .u64 (W8.of (p.tmod 1000)).a0, .int .u64 (W8.of (p.tmod 1000)).a1, .int .u64 (W8.of (p.tmod 1000)).a2, .int .u64 (W8.of (p.tmod 1000)).a3, .int .u64 (W8.of (p.tmod 1000)).a4, .int .u64 (W8.of (p.tmod 1000)).a5, .int .u64 (W8.of (p.tmod 1000)).a6, .int .u64 (W8.of (p.tmod 1000)).a7], .agg #[.int .u64 (W8.of (1 + r)).a0, .int .u64 (W8.of (1 + r)).a1, .int .u64 (W8.of (1 + r)).a2, .int .u64 (W8.of (1 + r)).a3, .int .u64 (W8.of (1 + r)).a4, .int .u64 (W8.of (1 + r)).a5, .int .u64 (W8.of (1 + r)).a6, .int .u64 (W8.of (1 + r)).a7]] w (fun e w' => e = .returned (.agg #[.int .u64 (W8.of N).a0, .int .u64 (W8.of N).a1, .int .u64 (W8.of N).a2, .int .u64 (W8.of N).a3, .int .u64 (W8.of N).a4, .int .u64 (W8.of N).a5, .int .u64 (W8.of N).a6, .int .u64 (W8.of N).a7, .int .u64 (W8.of D).a0, .int .u64 (W8.of D).a1, .int .u64 (W8.of D).a2, .int .u64 (W8.of D).a3, .int .u64 (W8.of D).a4, .int .u64 (W8.of D).a5, .int .u64 (W8.of D).a6, .int .u64 (W8.of D).a7]) ∧ Lat w w') := fun r _ _ => rMade_any _ _ (W8.of_ok _) (W8.of_ok _)
 by_cases hq0 : q < 0
 ·have r0 : 0 ≤ (-q).tmod 24 ∧ (-q).tmod 24 < 24 := by rw [Int.tmod_eq_emod_of_nonneg (by omega)]; omega
  obtain ⟨N, D, hf, HM⟩ := key _ r0.1 r0.2
  exact ⟨N, D, hf, fun w => rShort_n b1 b2 A1 A2 n1 c1 n2 c2 l1 l2 p q (-q) _ _ _ _ _ _ _ HS1 HS2 hq0 (IntWalk.wrap64_in _ (by omega)) rfl (IntWalk.wrap64_in _ (by omega)) (IntWalk.wrap64_in _ (by omega)) rfl (IntWalk.wrap64_in _ (by omega)) (fun w => rWOf_any _ (by omega) (by omega) w) (fun w => rWOf_any _ (by omega) (by omega) w) HM w⟩
 ·have r0 : 0 ≤ q.tmod 24 ∧ q.tmod 24 < 24 := by rw [Int.tmod_eq_emod_of_nonneg (by omega)]; omega
  obtain ⟨N, D, hf, HM⟩ := key _ r0.1 r0.2
  exact ⟨N, D, hf, fun w => rShort_p b1 b2 A1 A2 n1 c1 n2 c2 l1 l2 p q 0 _ _ _ _ _ _ _ HS1 HS2 hq0 rfl (IntWalk.wrap64_in _ (by omega)) (IntWalk.wrap64_in _ (by omega)) rfl (IntWalk.wrap64_in _ (by omega)) (fun w => rWOf_any _ (by omega) (by omega) w) (fun w => rWOf_any _ (by omega) (by omega) w) HM w⟩
set_option maxRecDepth 100000 in
theorem trod_w8 {H : Type} {enc : TypeId × Value → H} {w : World} {base : Nat} {spare : Nat → Bool} {held : Bool} {fuel : Nat} {cs : List Value} {x : DataW H × List MemPlace} (hl : cs.length = 8)
  (h : DataW.trod enc Tryz.prog w base spare held fuel 26 cs = some x) : ∃ u : W8, cs = wRow u ∧ u.ok := by
 obtain ⟨c0, c1, c2, c3, c4, c5, c6, c7, rfl⟩ := list_eight cs hl
 obtain ⟨m, y0, y1, y2, y3, y4, y5, y6, y7, h0, h1, h2, h3, h4, h5, h6, h7⟩ := trod_eight Tryz.underlying26 cellsU64 h
 obtain ⟨x0, e0, _, w0⟩ := DataW.trod_int Tryz.underlying22 h0
 obtain ⟨x1, e1, _, w1⟩ := DataW.trod_int Tryz.underlying22 h1
 obtain ⟨x2, e2, _, w2⟩ := DataW.trod_int Tryz.underlying22 h2
 obtain ⟨x3, e3, _, w3⟩ := DataW.trod_int Tryz.underlying22 h3
 obtain ⟨x4, e4, _, w4⟩ := DataW.trod_int Tryz.underlying22 h4
 obtain ⟨x5, e5, _, w5⟩ := DataW.trod_int Tryz.underlying22 h5
 obtain ⟨x6, e6, _, w6⟩ := DataW.trod_int Tryz.underlying22 h6
 obtain ⟨x7, e7, _, w7⟩ := DataW.trod_int Tryz.underlying22 h7
 simp at e0 e1 e2 e3 e4 e5 e6 e7
 subst e0 e1 e2 e3 e4 e5 e6 e7
 refine ⟨⟨x0, x1, x2, x3, x4, x5, x6, x7⟩, rfl, ?_⟩
 intro y hy
 simp only [W8.list, List.mem_cons, List.not_mem_nil, or_false] at hy
 rcases hy with rfl | rfl | rfl | rfl | rfl | rfl | rfl | rfl
 ·exact wf_u64d w0
 ·exact wf_u64d w1
 ·exact wf_u64d w2
 ·exact wf_u64d w3
 ·exact wf_u64d w4
 ·exact wf_u64d w5
 ·exact wf_u64d w6
 ·exact wf_u64d w7
set_option maxRecDepth 100000 in
theorem open_wides {H : Type} {enc : TypeId × Value → H} {w : World} {base : Nat} {spare : Nat → Bool} {held : Bool} {r : Reach} {b0 : Nat} {v : Value} {d : DataW H} {ps : List MemPlace}
  (hval : Value.okWide Tryz.prog w r b0 45 v) (h : DataW.Trod enc Tryz.prog w base spare held 45 v d ps) : ∃ A n c ws, v = .slice A n c ∧ RowM w A 8 n (wRows ws) ∧ (∀ x ∈ ws, x.ok) ∧ n ≤ c := by
 obtain ⟨a0, len0, cap0, rfl⟩ := okWide_slice Tryz.underlying45 hval
 obtain ⟨fuel, hf⟩ := h
 rcases DataW.trod_slice Tryz.underlying45 hf with ⟨h0, _⟩ | ⟨a, len, cap, elems, rest, n, _, hcs, _, hb, hlc, hcm, hel, hget, _⟩
 ·simp only [Value.cells, List.cons.injEq, and_true] at h0
  cases h0
  exact ⟨none, 0, 0, [], rfl, RowM.nil _ _ _, (fun x hx => by cases hx), Nat.le_refl _⟩
 ·simp only [Value.cells, List.cons.injEq, and_true] at hcs
  cases hcs
  rw [cellsW8] at hget
  have hall : ∀ i, i < len0 → ∃ u : W8, u.ok ∧ ∀ j, j < 8 → w.cell? ((a.add (i * 8)).add j) = (wRow u)[j]? := by
   intro i hi
   have he : i < elems.length := by omega
   have h1 := hget i hi
   rw [List.getElem?_eq_getElem he, Option.bind_eq_some_iff] at h1
   obtain ⟨cs, h2, h3⟩ := h1
   obtain ⟨_, h4, h5⟩ := World.cells?_some h2
   obtain ⟨u, rfl, hu⟩ := trod_w8 h4 h3
   exact ⟨u, hu, h5⟩
  rcases Nat.eq_zero_or_pos len0 with rfl | hp
  ·exact ⟨some a, 0, cap0, [], rfl, RowM.nil _ _ _, (fun x hx => by cases hx), hlc⟩
  ·obtain ⟨u0, _, hu0⟩ := hall 0 hp
   have hc0 := hu0 0 (by decide)
   obtain ⟨g, o, sp⟩ := a
   have hsp : sp = none := by
    cases sp with
    | none => rfl
    | some q =>
      exfalso
      have e0 : ((⟨g, o, some q⟩ : Addr).add (0 * 8)).add 0 = ⟨g, o, some q⟩ := rfl
      rw [e0] at hc0
      have : w.cell? ⟨g, o, some q⟩ = none := by
       unfold World.cell?
       split <;> simp
      rw [this] at hc0
      cases hc0
   subst hsp
   have hadd : ∀ i j, ((⟨g, o, none⟩ : Addr).add (i * 8)).add j = ⟨g, o + i * 8 + j, none⟩ := fun i j => by
    unfold Addr.add
    by_cases hi : i * 8 = 0 <;> by_cases hj : j = 0 <;> simp [hi, hj]
   have hlt : g < w.heap.size := by
    have := World.block_lt_of_cell? _ _ hc0
    rw [hadd] at this
    exact this
   refine ⟨some ⟨g, o, none⟩, len0, cap0, (List.range len0).map (fun i => if h : i < len0 then Classical.choose (hall i h) else W8.zero), rfl, ⟨by simp [wRows], fun x hx => ?_, fun _ => ⟨g, o, rfl, hlt, fun i x hx j v hv => ?_⟩⟩, fun x hx => ?_, hlc⟩
   ·obtain ⟨y, _, rfl⟩ := List.mem_map.1 hx
    rfl
   ·unfold wRows at hx
    rw [List.map_map, List.getElem?_map] at hx
    cases hr : (List.range len0)[i]? with
    | none => rw [hr] at hx; cases hx
    | some q =>
      obtain ⟨hi, rfl⟩ := List.getElem?_eq_some_iff.1 hr
      rw [List.length_range] at hi
      rw [hr] at hx
      simp only [Option.map_some, Option.some.injEq, Function.comp, List.getElem_range] at hx
      rw [dif_pos hi] at hx
      subst hx
      have hs := (Classical.choose_spec (hall i hi)).2 j (List.getElem?_eq_some_iff.1 hv).1
      rw [hadd, hv] at hs
      exact hs
   ·obtain ⟨i, hi, rfl⟩ := List.mem_map.1 hx
    have hi := List.mem_range.1 hi
    rw [dif_pos hi]
    exact (Classical.choose_spec (hall i hi)).1
theorem cellsSh : Tryz.prog.cellsOf 53 = 16 := by kernel_rfl
set_option maxRecDepth 100000 in
theorem open_share {H : Type} {enc : TypeId × Value → H} {w : World} {base : Nat} {spare : Nat → Bool} {held : Bool} {r : Reach} {b0 : Nat} {v : Value} {d : DataW H} {ps : List MemPlace}
  (hval : Value.okWide Tryz.prog w r b0 53 v) (h : DataW.Trod enc Tryz.prog w base spare held 53 v d ps) : ∃ x y : W8, v = .agg #[.int .u64 x.a0, .int .u64 x.a1, .int .u64 x.a2, .int .u64 x.a3, .int .u64 x.a4, .int .u64 x.a5, .int .u64 x.a6, .int .u64 x.a7, .int .u64 y.a0, .int .u64 y.a1, .int .u64 y.a2, .int .u64 y.a3, .int .u64 y.a4, .int .u64 y.a5, .int .u64 y.a6, .int .u64 y.a7] ∧ x.ok ∧ y.ok := by
 obtain ⟨cs, rfl, hsz⟩ := okWide_struct Tryz.underlying53 hval
 rw [cellsSh] at hsz
 obtain ⟨l⟩ := cs
 have hsz : l.length = 16 := hsz
 obtain ⟨fuel, hf⟩ := h
 obtain ⟨y0, y1, n, _, _, h0, h1⟩ := trod_struct2 Tryz.underlying53 hf
 simp only [cellsW8, Value.cells] at h0 h1
 obtain ⟨x, e0, hx⟩ := trod_w8 (by simp; omega) h0
 obtain ⟨y, e1, hy⟩ := trod_w8 (by simp; omega) h1
 refine ⟨x, y, ?_, hx, hy⟩
 have e : l = wRow x ++ wRow y := by
  have t1 : (l.drop 8).take 8 = l.drop 8 := List.take_of_length_le (by rw [List.length_drop]; omega)
  rw [← e0, ← e1]
  show l = (l.drop 0).take 8 ++ (l.drop 8).take 8
  rw [t1, List.drop_zero, List.take_append_drop]
 rw [e]
 rfl
theorem cPicks_any (s : Int) (Ar : Option Addr) (nr cr : Nat) (ws : List W8) (A0 : Option Addr) (n0 c0 : Nat) (xs : List Int) (pa pb : W8) (b1 b2 : Bool) (A1 A2 : Option Addr) (n1 c1 n2 c2 : Nat) (l1 l2 : Int) (lg : Bool) (w : World) (hs0 : 0 ≤ s ∧ s < 18446744073709551616)
  (hwr : RowM w Ar 8 nr (wRows ws)) (hok : ∀ x ∈ ws, x.ok) (hrc : nr ≤ cr) (h0 : Sl w .u16 A0 n0 xs) (hc : n0 ≤ c0) (hx : ∀ x ∈ xs, 0 ≤ x ∧ x ≤ 65535) (hpa : pa.ok) (hpb : pb.ok) (h1 : DrIn w A1 n1 l1) (h2 : DrIn w A2 n2 l2) :
  Calls Tryz.prog 6 #[.agg #[.int .u64 s], .slice Ar nr cr, .slice A0 n0 c0, .agg #[.int .u64 pa.a0, .int .u64 pa.a1, .int .u64 pa.a2, .int .u64 pa.a3, .int .u64 pa.a4, .int .u64 pa.a5, .int .u64 pa.a6, .int .u64 pa.a7, .int .u64 pb.a0, .int .u64 pb.a1, .int .u64 pb.a2, .int .u64 pb.a3, .int .u64 pb.a4, .int .u64 pb.a5, .int .u64 pb.a6, .int .u64 pb.a7], .agg #[.bool b1, .slice A1 n1 c1, .int .u32 l1, .bool b2, .slice A2 n2 c2, .int .u32 l2], .bool lg] w (fun e w' => e = .returned (.bool true) ∧ Lat w w') := by
 obtain ⟨s, rfl⟩ := Int.eq_ofNat_of_zero_le hs0.1
 have hs : s < 18446744073709551616 := Int.ofNat_lt.1 hs0.2
 obtain ⟨mr, hmr⟩ : ∃ m, min nr 6 = m := ⟨_, rfl⟩
 obtain ⟨m, hm⟩ : ∃ m, min n0 12 = m := ⟨_, rfl⟩
 obtain ⟨N1, D1, _, HU1⟩ := rUnit_det b1 b2 A1 A2 n1 c1 n2 c2 l1 l2 w h1 h2
 obtain ⟨N2, D2, _, HU2⟩ := rShort_det b1 b2 A1 A2 n1 c1 n2 c2 l1 l2 w h1 h2
 exact cPicks_from works_any s Ar nr cr mr ws A0 n0 c0 m xs pa pb b1 b2 A1 A2 n1 c1 n2 c2 l1 l2 lg w hwr hok hrc (by omega) (by omega) (by omega) h0 hx hc (by omega) (by omega) (by omega) ⟨hpa, hpb⟩
  (fun z z0 z1 w => rWOf_any z (by omega) (by omega) w) (picks_any s hs) (coins_any s hs) _ _ _ _ ⟨W8.of_ok _, W8.of_ok _⟩ ⟨W8.of_ok _, W8.of_ok _⟩ HU1 HU2
end Go.Proofs.YtogkkhaepfablaaGreat
