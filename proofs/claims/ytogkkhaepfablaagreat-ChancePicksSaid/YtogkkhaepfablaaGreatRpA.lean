import Derived.Test.YtogkkhaepfablaaGreatK39
import Derived.Test.YtogkkhaepfablaaGreatK37
import Derived.Test.YtogkkhaepfablaaGreatK29
namespace Go.Proofs.YtogkkhaepfablaaGreat
open Go.RowKit Go.Shelf
set_option linter.unusedSimpArgs false
set_option linter.unusedVariables false
theorem spell91 (T : Array Value) (h : T.size = 91) : ∃ f : Nat → Value, (∀ k, f k = T.getD k undef) ∧ T = #[f 0, f 1, f 2, f 3, f 4, f 5, f 6, f 7, f 8, f 9, f 10, f 11, f 12, f 13, f 14, f 15, f 16, f 17, f 18, f 19, f 20, f 21, f 22, f 23, f 24, f 25, f 26, f 27, f 28, f 29, f 30, f 31, f 32, f 33, f 34, f 35, f 36, f 37, f 38, f 39, f 40, f 41, f 42, f 43, f 44, f 45, f 46, f 47, f 48, f 49, f 50, f 51, f 52, f 53, f 54, f 55, f 56, f 57, f 58, f 59, f 60, f 61, f 62, f 63, f 64, f 65, f 66, f 67, f 68, f 69, f 70, f 71, f 72, f 73, f 74, f 75, f 76, f 77, f 78, f 79, f 80, f 81, f 82, f 83, f 84, f 85, f 86, f 87, f 88, f 89, f 90] := ⟨fun k => T.getD k undef, fun _ => rfl, (spell 91 T h).trans (by kernel_rfl)⟩
noncomputable def rp12_rows (b8 : Bool) (A8 : Option Addr) (n8 c8 : Nat) (gg oo n c jj N8 : Nat) (x : W8) (z s : Int) : List SRow := [
 ⟨Op.load 85 (Operand.tmp 8), some 40, none, [], fun v _ => v = .agg #[.bool b8, .slice A8 n8 c8]⟩,
 ⟨Op.move (Operand.tmp 1), some 41, none, [], fun v _ => v = .slice (some ⟨gg, oo, none⟩) n c⟩,
 ⟨Op.move (Operand.tmp 9), some 42, none, [], fun v _ => v = .int .i64 (jj : Nat)⟩,
 ⟨Op.indexAddr 45 (Operand.tmp 41) (Operand.tmp 42), some 43, none, [1, 2], fun v _ => v = .pointer (some ⟨gg, oo + jj * 8, none⟩)⟩,
 ⟨Op.load 26 (Operand.tmp 43), some 44, none, [3], fun v _ => v = .agg #[.int .u64 x.a0, .int .u64 x.a1, .int .u64 x.a2, .int .u64 x.a3, .int .u64 x.a4, .int .u64 x.a5, .int .u64 x.a6, .int .u64 x.a7]⟩,
 ⟨Op.call { callee := Callee.value (Operand.func 49), args := #[Operand.tmp 44], argTypes := #[26] }, some 45, none, [4], LV z 17⟩,
 ⟨Op.call { callee := Callee.value (Operand.func 43), args := #[Operand.tmp 40, Operand.tmp 45], argTypes := #[85, 85] }, some 46, none, [0, 5, 5], LV (s + z) (N8 + 18)⟩]
noncomputable def rp12_base (g8 gg oo n c jj : Nat) (v0 v2 v3 v4 v5 v6 v7 v10 v11 v12 v13 v14 v15 v16 v17 v18 v19 v20 v21 v22 v23 v24 v25 v26 v27 v28 v29 v30 v31 v32 v33 v34 v35 v36 v37 v38 v39 v47 v48 v49 v50 v51 v52 v53 v54 v55 v56 v57 v58 v59 v60 v61 v62 v63 v64 v65 v66 v67 v68 v69 v70 v71 v72 v73 v74 v75 v76 v77 v78 v79 v80 v81 v82 v83 v84 v85 v86 v87 v88 v89 v90 : Value) : List (Nat × Value) := [(8, .pointer (some ⟨g8, 0, none⟩)), (1, .slice (some ⟨gg, oo, none⟩) n c), (9, .int .i64 (jj : Nat)), (0, v0), (2, v2), (3, v3), (4, v4), (5, v5), (6, v6), (7, v7), (10, v10), (11, v11), (12, v12), (13, v13), (14, v14), (15, v15), (16, v16), (17, v17), (18, v18), (19, v19), (20, v20), (21, v21), (22, v22), (23, v23), (24, v24), (25, v25), (26, v26), (27, v27), (28, v28), (29, v29), (30, v30), (31, v31), (32, v32), (33, v33), (34, v34), (35, v35), (36, v36), (37, v37), (38, v38), (39, v39), (47, v47), (48, v48), (49, v49), (50, v50), (51, v51), (52, v52), (53, v53), (54, v54), (55, v55), (56, v56), (57, v57), (58, v58), (59, v59), (60, v60), (61, v61), (62, v62), (63, v63), (64, v64), (65, v65), (66, v66), (67, v67), (68, v68), (69, v69), (70, v70), (71, v71), (72, v72), (73, v73), (74, v74), (75, v75), (76, v76), (77, v77), (78, v78), (79, v79), (80, v80), (81, v81), (82, v82), (83, v83), (84, v84), (85, v85), (86, v86), (87, v87), (88, v88), (89, v89), (90, v90)]
set_option maxRecDepth 100000 in
set_option maxHeartbeats 4000000 in
theorem rp12_steps (V : World) (b8 : Bool) (A8 : Option Addr) (n8 c8 N8 : Nat) (x : W8) (z s : Int) (g8 gg oo n c jj : Nat) (v0 v2 v3 v4 v5 v6 v7 v10 v11 v12 v13 v14 v15 v16 v17 v18 v19 v20 v21 v22 v23 v24 v25 v26 v27 v28 v29 v30 v31 v32 v33 v34 v35 v36 v37 v38 v39 v47 v48 v49 v50 v51 v52 v53 v54 v55 v56 v57 v58 v59 v60 v61 v62 v63 v64 v65 v66 v67 v68 v69 v70 v71 v72 v73 v74 v75 v76 v77 v78 v79 v80 v81 v82 v83 v84 v85 v86 v87 v88 v89 v90 : Value) (R8 : ∀ w', Lat V w' → w'.rangeAt g8 0 [.bool b8, .slice A8 n8 c8]) (J85 : (Tryz.prog.info? 85).map (·.size) = some 2) (J26 : (Tryz.prog.info? 26).map (·.size) = some 8)
  (RX : ∀ w', Lat V w' → w'.rangeAt gg (oo + jj * 8) [.int .u64 x.a0, .int .u64 x.a1, .int .u64 x.a2, .int .u64 x.a3, .int .u64 x.a4, .int .u64 x.a5, .int .u64 x.a6, .int .u64 x.a7]) (hjn : (jj : Int) < (n : Int)) (hj0 : (0 : Int) ≤ (jj : Int))
  (HI : ∀ w, Calls Tryz.prog 49 #[.agg #[.int .u64 x.a0, .int .u64 x.a1, .int .u64 x.a2, .int .u64 x.a3, .int .u64 x.a4, .int .u64 x.a5, .int .u64 x.a6, .int .u64 x.a7]] w (RefPost w z 17))
  (HPL : ∀ b2 A2 n2 c2 w, Lat V w → Rg w b2 A2 n2 c2 z → n2 ≤ 17 → Calls Tryz.prog 43 #[.agg #[.bool b8, .slice A8 n8 c8], .agg #[.bool b2, .slice A2 n2 c2]] w (RefPost w (s + z) (N8 + 18))) :
  AllSteps Tryz.prog (rp12_rows b8 A8 n8 c8 gg oo n c jj N8 x z s) (rp12_base g8 gg oo n c jj v0 v2 v3 v4 v5 v6 v7 v10 v11 v12 v13 v14 v15 v16 v17 v18 v19 v20 v21 v22 v23 v24 v25 v26 v27 v28 v29 v30 v31 v32 v33 v34 v35 v36 v37 v38 v39 v47 v48 v49 v50 v51 v52 v53 v54 v55 v56 v57 v58 v59 v60 v61 v62 v63 v64 v65 v66 v67 v68 v69 v70 v71 v72 v73 v74 v75 v76 v77 v78 v79 v80 v81 v82 v83 v84 v85 v86 v87 v88 v89 v90) V (rp12_rows b8 A8 n8 c8 gg oo n c jj N8 x z s) := by
 refine AllSteps.next (fun _ _ _ h _ => h) (fun j b h => by cases h) (fun a w hl hb hd o ho => by have e1 := hb 8 _ rfl; exact Runs.val (yv_load (S := Lat V) e1 R8 Tryz.underlying85 rfl J85 o w ho hl) ⟨Lat.refl _, fun _ => rfl⟩) ?_
 refine AllSteps.next (fun _ _ _ h _ => h) (fun j b h => by cases h) (fun a w hl hb hd o ho => by have e1 := hb 1 _ rfl; exact Runs.val (yv_move (S := fun _ => True) e1 o w ho trivial) ⟨Lat.refl _, fun _ => rfl⟩) ?_
 refine AllSteps.next (fun _ _ _ h _ => h) (fun j b h => by cases h) (fun a w hl hb hd o ho => by have e1 := hb 9 _ rfl; exact Runs.val (yv_move (S := fun _ => True) e1 o w ho trivial) ⟨Lat.refl _, fun _ => rfl⟩) ?_
 refine AllSteps.next (fun _ _ _ h _ => h) (fun j b h => by cases h) (fun a w hl hb hd o ho => by obtain ⟨v1, e1, q1⟩ := hd 1 _ _ (by simp) rfl rfl; subst q1; obtain ⟨v2, e2, q2⟩ := hd 2 _ _ (by simp) rfl rfl; subst q2; obtain ⟨d, op, ty, p, af, g⟩ := o; simp only at ho; subst ho; have ec : ∀ v, a.eval (.const v) = v := fun _ => rfl; exact Runs.val (by unfold execOp; generalize a.eval = ev at e1 e2 ec ⊢; simp only [e1, e2, ec]; go_simp) ⟨Lat.refl _, fun _ => rfl⟩) ?_
 refine AllSteps.next (fun _ _ _ h _ => h) (fun j b h => by cases h) (fun a w hl hb hd o ho => by obtain ⟨v1, e1, q1⟩ := hd 3 _ _ (by simp) rfl rfl; subst q1; exact Runs.val (yv_loadO (S := Lat V) e1 RX Tryz.underlying26 rfl J26 o w ho hl) ⟨Lat.refl _, fun _ => rfl⟩) ?_
 refine AllSteps.next (fun _ _ _ h hl => h.mono hl) (fun j b h => by cases h) (fun a w hl hb hd o ho => by obtain ⟨v1, e1, q1⟩ := hd 4 _ _ (by simp) rfl rfl; subst q1; exact Runs.call (yv_call (f := 49) (fun _ => by go_simp) o ho (by simp only [List.map_toArray, List.map_cons, List.map_nil, eval_const, e1])) ((HI w).mono fun e w' h => h.run)) ?_
 refine AllSteps.next (fun _ _ _ h hl => h.mono hl) (fun j b h => by cases h) (fun a w hl hb hd o ho => by obtain ⟨v1, e1, q1⟩ := hd 0 _ _ (by simp) rfl rfl; subst q1; obtain ⟨v2, e2, q2⟩ := hd 5 _ _ (by simp) rfl rfl; obtain ⟨b2, A2, n2, c2, rfl, r2, m2⟩ := (show LV z 17 v2 w from q2); exact Runs.call (yv_call (f := 43) (fun _ => by go_simp) o ho (by simp only [List.map_toArray, List.map_cons, List.map_nil, eval_const, e1, e2])) ((HPL b2 A2 n2 c2 w hl r2 m2).mono fun e w' h => h.run)) ?_
 exact AllSteps.none
noncomputable def rp24_rows (b8 : Bool) (A8 : Option Addr) (n8 c8 : Nat) (gg oo n c jj N8 : Nat) (x : W8) (z s : Int) : List SRow := [
 ⟨Op.load 85 (Operand.tmp 14), some 82, none, [], fun v _ => v = .agg #[.bool b8, .slice A8 n8 c8]⟩,
 ⟨Op.move (Operand.tmp 1), some 83, none, [], fun v _ => v = .slice (some ⟨gg, oo, none⟩) n c⟩,
 ⟨Op.move (Operand.tmp 15), some 84, none, [], fun v _ => v = .int .i64 (jj : Nat)⟩,
 ⟨Op.indexAddr 45 (Operand.tmp 83) (Operand.tmp 84), some 85, none, [1, 2], fun v _ => v = .pointer (some ⟨gg, oo + jj * 8, none⟩)⟩,
 ⟨Op.load 26 (Operand.tmp 85), some 86, none, [3], fun v _ => v = .agg #[.int .u64 x.a0, .int .u64 x.a1, .int .u64 x.a2, .int .u64 x.a3, .int .u64 x.a4, .int .u64 x.a5, .int .u64 x.a6, .int .u64 x.a7]⟩,
 ⟨Op.call { callee := Callee.value (Operand.func 49), args := #[Operand.tmp 86], argTypes := #[26] }, some 87, none, [4], LV z 17⟩,
 ⟨Op.call { callee := Callee.value (Operand.func 43), args := #[Operand.tmp 82, Operand.tmp 87], argTypes := #[85, 85] }, some 88, none, [0, 5, 5], LV (s + z) (N8 + 18)⟩]
noncomputable def rp24_base (g8 gg oo n c jj : Nat) (v0 v2 v3 v4 v5 v6 v7 v8 v9 v10 v11 v12 v13 v16 v17 v18 v19 v20 v21 v22 v23 v24 v25 v26 v27 v28 v29 v30 v31 v32 v33 v34 v35 v36 v37 v38 v39 v40 v41 v42 v43 v44 v45 v46 v47 v48 v49 v50 v51 v52 v53 v54 v55 v56 v57 v58 v59 v60 v61 v62 v63 v64 v65 v66 v67 v68 v69 v70 v71 v72 v73 v74 v75 v76 v77 v78 v79 v80 v81 v89 v90 : Value) : List (Nat × Value) := [(14, .pointer (some ⟨g8, 0, none⟩)), (1, .slice (some ⟨gg, oo, none⟩) n c), (15, .int .i64 (jj : Nat)), (0, v0), (2, v2), (3, v3), (4, v4), (5, v5), (6, v6), (7, v7), (8, v8), (9, v9), (10, v10), (11, v11), (12, v12), (13, v13), (16, v16), (17, v17), (18, v18), (19, v19), (20, v20), (21, v21), (22, v22), (23, v23), (24, v24), (25, v25), (26, v26), (27, v27), (28, v28), (29, v29), (30, v30), (31, v31), (32, v32), (33, v33), (34, v34), (35, v35), (36, v36), (37, v37), (38, v38), (39, v39), (40, v40), (41, v41), (42, v42), (43, v43), (44, v44), (45, v45), (46, v46), (47, v47), (48, v48), (49, v49), (50, v50), (51, v51), (52, v52), (53, v53), (54, v54), (55, v55), (56, v56), (57, v57), (58, v58), (59, v59), (60, v60), (61, v61), (62, v62), (63, v63), (64, v64), (65, v65), (66, v66), (67, v67), (68, v68), (69, v69), (70, v70), (71, v71), (72, v72), (73, v73), (74, v74), (75, v75), (76, v76), (77, v77), (78, v78), (79, v79), (80, v80), (81, v81), (89, v89), (90, v90)]
set_option maxRecDepth 100000 in
set_option maxHeartbeats 4000000 in
theorem rp24_steps (V : World) (b8 : Bool) (A8 : Option Addr) (n8 c8 N8 : Nat) (x : W8) (z s : Int) (g8 gg oo n c jj : Nat) (v0 v2 v3 v4 v5 v6 v7 v8 v9 v10 v11 v12 v13 v16 v17 v18 v19 v20 v21 v22 v23 v24 v25 v26 v27 v28 v29 v30 v31 v32 v33 v34 v35 v36 v37 v38 v39 v40 v41 v42 v43 v44 v45 v46 v47 v48 v49 v50 v51 v52 v53 v54 v55 v56 v57 v58 v59 v60 v61 v62 v63 v64 v65 v66 v67 v68 v69 v70 v71 v72 v73 v74 v75 v76 v77 v78 v79 v80 v81 v89 v90 : Value) (R8 : ∀ w', Lat V w' → w'.rangeAt g8 0 [.bool b8, .slice A8 n8 c8]) (J85 : (Tryz.prog.info? 85).map (·.size) = some 2) (J26 : (Tryz.prog.info? 26).map (·.size) = some 8)
  (RX : ∀ w', Lat V w' → w'.rangeAt gg (oo + jj * 8) [.int .u64 x.a0, .int .u64 x.a1, .int .u64 x.a2, .int .u64 x.a3, .int .u64 x.a4, .int .u64 x.a5, .int .u64 x.a6, .int .u64 x.a7]) (hjn : (jj : Int) < (n : Int)) (hj0 : (0 : Int) ≤ (jj : Int))
  (HI : ∀ w, Calls Tryz.prog 49 #[.agg #[.int .u64 x.a0, .int .u64 x.a1, .int .u64 x.a2, .int .u64 x.a3, .int .u64 x.a4, .int .u64 x.a5, .int .u64 x.a6, .int .u64 x.a7]] w (RefPost w z 17))
  (HPL : ∀ b2 A2 n2 c2 w, Lat V w → Rg w b2 A2 n2 c2 z → n2 ≤ 17 → Calls Tryz.prog 43 #[.agg #[.bool b8, .slice A8 n8 c8], .agg #[.bool b2, .slice A2 n2 c2]] w (RefPost w (s + z) (N8 + 18))) :
  AllSteps Tryz.prog (rp24_rows b8 A8 n8 c8 gg oo n c jj N8 x z s) (rp24_base g8 gg oo n c jj v0 v2 v3 v4 v5 v6 v7 v8 v9 v10 v11 v12 v13 v16 v17 v18 v19 v20 v21 v22 v23 v24 v25 v26 v27 v28 v29 v30 v31 v32 v33 v34 v35 v36 v37 v38 v39 v40 v41 v42 v43 v44 v45 v46 v47 v48 v49 v50 v51 v52 v53 v54 v55 v56 v57 v58 v59 v60 v61 v62 v63 v64 v65 v66 v67 v68 v69 v70 v71 v72 v73 v74 v75 v76 v77 v78 v79 v80 v81 v89 v90) V (rp24_rows b8 A8 n8 c8 gg oo n c jj N8 x z s) := by
 refine AllSteps.next (fun _ _ _ h _ => h) (fun j b h => by cases h) (fun a w hl hb hd o ho => by have e1 := hb 14 _ rfl; exact Runs.val (yv_load (S := Lat V) e1 R8 Tryz.underlying85 rfl J85 o w ho hl) ⟨Lat.refl _, fun _ => rfl⟩) ?_
 refine AllSteps.next (fun _ _ _ h _ => h) (fun j b h => by cases h) (fun a w hl hb hd o ho => by have e1 := hb 1 _ rfl; exact Runs.val (yv_move (S := fun _ => True) e1 o w ho trivial) ⟨Lat.refl _, fun _ => rfl⟩) ?_
 refine AllSteps.next (fun _ _ _ h _ => h) (fun j b h => by cases h) (fun a w hl hb hd o ho => by have e1 := hb 15 _ rfl; exact Runs.val (yv_move (S := fun _ => True) e1 o w ho trivial) ⟨Lat.refl _, fun _ => rfl⟩) ?_
 refine AllSteps.next (fun _ _ _ h _ => h) (fun j b h => by cases h) (fun a w hl hb hd o ho => by obtain ⟨v1, e1, q1⟩ := hd 1 _ _ (by simp) rfl rfl; subst q1; obtain ⟨v2, e2, q2⟩ := hd 2 _ _ (by simp) rfl rfl; subst q2; obtain ⟨d, op, ty, p, af, g⟩ := o; simp only at ho; subst ho; have ec : ∀ v, a.eval (.const v) = v := fun _ => rfl; exact Runs.val (by unfold execOp; generalize a.eval = ev at e1 e2 ec ⊢; simp only [e1, e2, ec]; go_simp) ⟨Lat.refl _, fun _ => rfl⟩) ?_
 refine AllSteps.next (fun _ _ _ h _ => h) (fun j b h => by cases h) (fun a w hl hb hd o ho => by obtain ⟨v1, e1, q1⟩ := hd 3 _ _ (by simp) rfl rfl; subst q1; exact Runs.val (yv_loadO (S := Lat V) e1 RX Tryz.underlying26 rfl J26 o w ho hl) ⟨Lat.refl _, fun _ => rfl⟩) ?_
 refine AllSteps.next (fun _ _ _ h hl => h.mono hl) (fun j b h => by cases h) (fun a w hl hb hd o ho => by obtain ⟨v1, e1, q1⟩ := hd 4 _ _ (by simp) rfl rfl; subst q1; exact Runs.call (yv_call (f := 49) (fun _ => by go_simp) o ho (by simp only [List.map_toArray, List.map_cons, List.map_nil, eval_const, e1])) ((HI w).mono fun e w' h => h.run)) ?_
 refine AllSteps.next (fun _ _ _ h hl => h.mono hl) (fun j b h => by cases h) (fun a w hl hb hd o ho => by obtain ⟨v1, e1, q1⟩ := hd 0 _ _ (by simp) rfl rfl; subst q1; obtain ⟨v2, e2, q2⟩ := hd 5 _ _ (by simp) rfl rfl; obtain ⟨b2, A2, n2, c2, rfl, r2, m2⟩ := (show LV z 17 v2 w from q2); exact Runs.call (yv_call (f := 43) (fun _ => by go_simp) o ho (by simp only [List.map_toArray, List.map_cons, List.map_nil, eval_const, e1, e2])) ((HPL b2 A2 n2 c2 w hl r2 m2).mono fun e w' h => h.run)) ?_
 exact AllSteps.none
noncomputable def rp22_rows (b8 : Bool) (A8 : Option Addr) (n8 c8 g8 g12 : Nat) (x : W8) (z o : Int) (ob : Bool) : List SRow := [
 ⟨Op.load 85 (Operand.tmp 14), some 75, none, [], fun v _ => v = .agg #[.bool b8, .slice A8 n8 c8]⟩,
 ⟨Op.load 26 (Operand.tmp 12), some 76, none, [], fun v _ => v = .agg #[.int .u64 x.a0, .int .u64 x.a1, .int .u64 x.a2, .int .u64 x.a3, .int .u64 x.a4, .int .u64 x.a5, .int .u64 x.a6, .int .u64 x.a7]⟩,
 ⟨Op.call { callee := Callee.value (Operand.func 49), args := #[Operand.tmp 76], argTypes := #[26] }, some 77, none, [1], LV z 17⟩,
 ⟨Op.call { callee := Callee.value (Operand.func 41), args := #[Operand.tmp 75, Operand.tmp 77], argTypes := #[85, 85] }, some 78, none, [0, 2, 2], fun v _ => v = .int .i64 o⟩,
 ⟨Op.binOp BinOp.leq 3 (Operand.tmp 78) (Operand.const (Value.int IntKind.i64 0)) 3, some 79, none, [3], fun v _ => v = .bool ob⟩]
noncomputable def rp22_base (b8 : Bool) (A8 : Option Addr) (n8 c8 g8 g12 : Nat) (x : W8) (z o : Int) (ob : Bool) (v0 v1 v2 v3 v4 v5 v6 v7 v8 v9 v10 v11 v13 v15 v16 v17 v18 v19 v20 v21 v22 v23 v24 v25 v26 v27 v28 v29 v30 v31 v32 v33 v34 v35 v36 v37 v38 v39 v40 v41 v42 v43 v44 v45 v46 v47 v48 v49 v50 v51 v52 v53 v54 v55 v56 v57 v58 v59 v60 v61 v62 v63 v64 v65 v66 v67 v68 v69 v70 v71 v72 v73 v74 v80 v81 v82 v83 v84 v85 v86 v87 v88 v89 v90 : Value) : List (Nat × Value) := [(14, .pointer (some ⟨g8, 0, none⟩)), (12, .pointer (some ⟨g12, 0, none⟩)), (0, v0), (1, v1), (2, v2), (3, v3), (4, v4), (5, v5), (6, v6), (7, v7), (8, v8), (9, v9), (10, v10), (11, v11), (13, v13), (15, v15), (16, v16), (17, v17), (18, v18), (19, v19), (20, v20), (21, v21), (22, v22), (23, v23), (24, v24), (25, v25), (26, v26), (27, v27), (28, v28), (29, v29), (30, v30), (31, v31), (32, v32), (33, v33), (34, v34), (35, v35), (36, v36), (37, v37), (38, v38), (39, v39), (40, v40), (41, v41), (42, v42), (43, v43), (44, v44), (45, v45), (46, v46), (47, v47), (48, v48), (49, v49), (50, v50), (51, v51), (52, v52), (53, v53), (54, v54), (55, v55), (56, v56), (57, v57), (58, v58), (59, v59), (60, v60), (61, v61), (62, v62), (63, v63), (64, v64), (65, v65), (66, v66), (67, v67), (68, v68), (69, v69), (70, v70), (71, v71), (72, v72), (73, v73), (74, v74), (80, v80), (81, v81), (82, v82), (83, v83), (84, v84), (85, v85), (86, v86), (87, v87), (88, v88), (89, v89), (90, v90)]
set_option maxRecDepth 100000 in
set_option maxHeartbeats 4000000 in
theorem rp22_steps (V : World) (b8 : Bool) (A8 : Option Addr) (n8 c8 g8 g12 : Nat) (x : W8) (z o : Int) (ob : Bool) (v0 v1 v2 v3 v4 v5 v6 v7 v8 v9 v10 v11 v13 v15 v16 v17 v18 v19 v20 v21 v22 v23 v24 v25 v26 v27 v28 v29 v30 v31 v32 v33 v34 v35 v36 v37 v38 v39 v40 v41 v42 v43 v44 v45 v46 v47 v48 v49 v50 v51 v52 v53 v54 v55 v56 v57 v58 v59 v60 v61 v62 v63 v64 v65 v66 v67 v68 v69 v70 v71 v72 v73 v74 v80 v81 v82 v83 v84 v85 v86 v87 v88 v89 v90 : Value) (hob : decide (o ≤ 0) = ob) (R8 : ∀ w', Lat V w' → w'.rangeAt g8 0 [.bool b8, .slice A8 n8 c8]) (R12 : ∀ w', Lat V w' → w'.rangeAt g12 0 [.int .u64 x.a0, .int .u64 x.a1, .int .u64 x.a2, .int .u64 x.a3, .int .u64 x.a4, .int .u64 x.a5, .int .u64 x.a6, .int .u64 x.a7]) (J85 : (Tryz.prog.info? 85).map (·.size) = some 2) (J26 : (Tryz.prog.info? 26).map (·.size) = some 8)
  (HI : ∀ w, Calls Tryz.prog 49 #[.agg #[.int .u64 x.a0, .int .u64 x.a1, .int .u64 x.a2, .int .u64 x.a3, .int .u64 x.a4, .int .u64 x.a5, .int .u64 x.a6, .int .u64 x.a7]] w (RefPost w z 17))
  (HO : ∀ b2 A2 n2 c2 w, Lat V w → Rg w b2 A2 n2 c2 z → n2 ≤ 17 → Calls Tryz.prog 41 #[.agg #[.bool b8, .slice A8 n8 c8], .agg #[.bool b2, .slice A2 n2 c2]] w (fun e w' => e = .returned (.int .i64 o) ∧ Lat w w')) :
  AllSteps Tryz.prog (rp22_rows b8 A8 n8 c8 g8 g12 x z o ob) (rp22_base b8 A8 n8 c8 g8 g12 x z o ob v0 v1 v2 v3 v4 v5 v6 v7 v8 v9 v10 v11 v13 v15 v16 v17 v18 v19 v20 v21 v22 v23 v24 v25 v26 v27 v28 v29 v30 v31 v32 v33 v34 v35 v36 v37 v38 v39 v40 v41 v42 v43 v44 v45 v46 v47 v48 v49 v50 v51 v52 v53 v54 v55 v56 v57 v58 v59 v60 v61 v62 v63 v64 v65 v66 v67 v68 v69 v70 v71 v72 v73 v74 v80 v81 v82 v83 v84 v85 v86 v87 v88 v89 v90) V (rp22_rows b8 A8 n8 c8 g8 g12 x z o ob) := by
 refine AllSteps.next (fun _ _ _ h _ => h) (fun j b h => by cases h) (fun a w hl hb hd o ho => by have e1 := hb 14 _ rfl; exact Runs.val (yv_load (S := Lat V) e1 R8 Tryz.underlying85 rfl J85 o w ho hl) ⟨Lat.refl _, fun _ => rfl⟩) ?_
 refine AllSteps.next (fun _ _ _ h _ => h) (fun j b h => by cases h) (fun a w hl hb hd o ho => by have e1 := hb 12 _ rfl; exact Runs.val (yv_load (S := Lat V) e1 R12 Tryz.underlying26 rfl J26 o w ho hl) ⟨Lat.refl _, fun _ => rfl⟩) ?_
 refine AllSteps.next (fun _ _ _ h hl => h.mono hl) (fun j b h => by cases h) (fun a w hl hb hd o ho => by obtain ⟨v1, e1, q1⟩ := hd 1 _ _ (by simp) rfl rfl; subst q1; exact Runs.call (yv_call (f := 49) (fun _ => by go_simp) o ho (by simp only [List.map_toArray, List.map_cons, List.map_nil, eval_const, e1])) ((HI w).mono fun e w' h => h.run)) ?_
 refine AllSteps.next (fun _ _ _ h _ => h) (fun j b h => by cases h) (fun a w hl hb hd o ho => by obtain ⟨v1, e1, q1⟩ := hd 0 _ _ (by simp) rfl rfl; subst q1; obtain ⟨v2, e2, q2⟩ := hd 2 _ _ (by simp) rfl rfl; obtain ⟨b2, A2, n2, c2, rfl, r2, m2⟩ := (show LV z 17 v2 w from q2); exact Runs.call (yv_call (f := 41) (fun _ => by go_simp) o ho (by simp only [List.map_toArray, List.map_cons, List.map_nil, eval_const, e1, e2])) ((HO b2 A2 n2 c2 w hl r2 m2).mono fun e w' h => ⟨_, h.1, h.2, fun _ => rfl⟩)) ?_
 refine AllSteps.next (fun _ _ _ h _ => h) (fun j b h => by cases h) (fun a w hl hb hd o ho => by obtain ⟨v1, e1, q1⟩ := hd 3 _ _ (by simp) rfl rfl; subst q1; obtain ⟨d, op, ty, p, af, g⟩ := o; simp only at ho; subst ho; have ec : ∀ v, a.eval (.const v) = v := fun _ => rfl; exact Runs.val (by unfold execOp; generalize a.eval = ev at e1 ec ⊢; simp only [e1, ec]; rw [← hob]; go_simp) ⟨Lat.refl _, fun _ => rfl⟩) ?_
 exact AllSteps.none
structure RpB (w : World) (g2 g5 s : Nat) (W : World) : Prop where
 k2 : Blk W g2 24 #[.int .u64 (s : Nat)]
 k5 : Blk W g5 24 #[.int .u64 0]
 l : Lat w W
theorem RpB.later {w W W' : World} {g2 g5 s : Nat} (h : RpB w g2 g5 s W) (hl : Lat W W') : RpB w g2 g5 s W' := ⟨h.k2.later hl, h.k5.later hl, h.l.trans hl⟩
theorem RpB.keep {w W W' : World} {g2 g5 s g : Nat} (h : RpB w g2 g5 s W) (hl : LatP (· = g) W W') (h2 : g2 ≠ g) (h5 : g5 ≠ g) (hw : w.heap.size ≤ g) : RpB w g2 g5 s W' := ⟨h.k2.keepP hl h2, h.k5.keepP hl h5, hl.narrow h.l hw⟩
theorem rp_sgn {z : Int} (h : 0 ≤ z) : decide (ordR z < 0) = false := by
 refine decide_eq_false ?_
 unfold ordR
 rw [if_neg (by omega)]
 split <;> decide
theorem rp_sgnN {z : Int} (h : z < 0) : decide (ordR z < 0) = true := by
 refine decide_eq_true ?_
 unfold ordR
 rw [if_pos h]
 decide
theorem rp_plus {V : World} {b : Bool} {A : Option Addr} {n c N : Nat} {s z : Int} (h : Rg V b A n c s) (hn : n ≤ N) (hN : N ≤ 100000) : ∀ b2 A2 n2 c2 w, Lat V w → Rg w b2 A2 n2 c2 z → n2 ≤ 17 → Calls Tryz.prog 43 #[.agg #[.bool b, .slice A n c], .agg #[.bool b2, .slice A2 n2 c2]] w (RefPost w (s + z) (N + 18)) := fun b2 A2 n2 c2 w hl h2 hm =>
 (rPlus_any b A n c s b2 A2 n2 c2 z w (h.later hl) h2 (by omega) (by omega)).mono fun e w' h => h.leD (by omega)
theorem rp_order {V : World} {b : Bool} {A : Option Addr} {n c : Nat} {s z o : Int} (h : Rg V b A n c s) (hn : n ≤ 100000) (ho : ordR (s - z) = o) : ∀ b2 A2 n2 c2 w, Lat V w → Rg w b2 A2 n2 c2 z → n2 ≤ 17 → Calls Tryz.prog 41 #[.agg #[.bool b, .slice A n c], .agg #[.bool b2, .slice A2 n2 c2]] w (fun e w' => e = .returned (.int .i64 o) ∧ Lat w w') := fun b2 A2 n2 c2 w hl h2 hm => by
 have := rOrder_any b A n c s b2 A2 n2 c2 z w (h.later hl) h2 (by omega) (by omega)
 rwa [ho] at this
theorem rp_out {V : World} {b : Bool} {A : Option Addr} {n c : Nat} {z : Int} (h : Rg V b A n c z) (hn : n ≤ 100000) (h1 : -P511 ≤ z) (h2 : z < P511) : Calls Tryz.prog 46 #[.agg #[.bool b, .slice A n c]] V (fun e w' => e = .returned (.tuple #[.agg #[.int .u64 (W8.of z).a0, .int .u64 (W8.of z).a1, .int .u64 (W8.of z).a2, .int .u64 (W8.of z).a3, .int .u64 (W8.of z).a4, .int .u64 (W8.of z).a5, .int .u64 (W8.of z).a6, .int .u64 (W8.of z).a7], .int .i64 0]) ∧ Lat V w') := by
 refine (rOut_any b A n c z V h (by omega)).mono ?_
 rintro e w' ⟨u, r, rfl, ⟨_, _, rfl, rfl⟩ | ⟨hb, _⟩, hl⟩
 ·exact ⟨rfl, hl⟩
 ·omega
theorem rp_outBig {V : World} {b : Bool} {A : Option Addr} {n c : Nat} {z : Int} (h : Rg V b A n c z) (hn : n ≤ 100000) (h1 : P511 ≤ z) : Calls Tryz.prog 46 #[.agg #[.bool b, .slice A n c]] V (fun e w' => e = .returned (.tuple #[.agg #[.int .u64 W8.zero.a0, .int .u64 W8.zero.a1, .int .u64 W8.zero.a2, .int .u64 W8.zero.a3, .int .u64 W8.zero.a4, .int .u64 W8.zero.a5, .int .u64 W8.zero.a6, .int .u64 W8.zero.a7], .int .i64 6]) ∧ Lat V w') := by
 refine (rOut_any b A n c z V h (by omega)).mono ?_
 rintro e w' ⟨u, r, rfl, ⟨_, hb, _⟩ | ⟨_, rfl, rfl⟩, hl⟩
 ·omega
 ·exact ⟨rfl, hl⟩
theorem rp_up {jj K q : Nat} (h : jj < K) (hK : K < q) : jj + 1 < q := by omega
theorem rp_m {n j : Nat} (h : n ≤ 18 * j + 18) : n ≤ 18 * (j + 1) := by omega
theorem rp_nums {jj K q j2 : Nat} (h : jj < K) (hK : K < q) (e : jj + 1 = j2) (hq : q ≤ 400) : (j2 : Int) < (q : Int) ∧ (0 : Int) ≤ (j2 : Int) ∧ (jj : Int) + 1 = (j2 : Int) ∧ 18 * j2 ≤ 100000 ∧ j2 ≤ K ∧ K - (intOf (.int .i64 (j2 : Int))).toNat < K - (intOf (.int .i64 (jj : Int))).toNat := by
 refine ⟨by omega, by omega, by omega, by omega, by omega, ?_⟩
 show K - ((j2 : Int)).toNat < K - ((jj : Int)).toNat
 omega
theorem rp_le {z v o : Int} (h : z ≤ v) (ho : ordR (z - v) = o) : decide (o ≤ 0) = true := by
 refine decide_eq_true ?_
 unfold ordR at ho
 split at ho
 ·omega
 ·split at ho <;> omega
theorem rp_gt {z v o : Int} (h : v < z) (ho : ordR (z - v) = o) : decide (o ≤ 0) = false := by
 refine decide_eq_false ?_
 unfold ordR at ho
 split at ho
 ·omega
 ·split at ho <;> omega
set_option maxRecDepth 100000 in
set_option maxHeartbeats 8000000 in
theorem rpick_long (A : Option Addr) (n c s : Nat) (ws : List W8) (hok : ∀ x ∈ ws, x.ok) (hn : 400 < n) (w : World) : Calls Tryz.prog 27 #[.agg #[.int .u64 s], .slice A n c] w (PickEnd w 0 0 3) := by
 have hn4 : (400 : Int) < (n : Int) := by omega
 go_enter Tryz.func27, Tryz.ntmps27
 go_upto_region 1 with (fail)
 refine name2 (Q := fun W => Code.wp _ _ _ _ W) ?_
 intro W l0 hs k2 k5
 obtain ⟨g5, hg5⟩ : ∃ z, w.heap.size + 1 = z := ⟨_, rfl⟩
 obtain ⟨g2, hg2⟩ : ∃ z, w.heap.size = z := ⟨_, rfl⟩
 have h25 : g2 < g5 := by omega
 have hb2 : w.heap.size ≤ g2 := by omega
 have hb5 : w.heap.size ≤ g5 := by omega
 rw [hg5] at k5 ⊢
 rw [hg2] at k2 ⊢
 have RB : RpB w g2 g5 s W := ⟨k2, k5, l0⟩
 clear k2 k5 l0 hs hg5 hg2
 have y5 := RB.k5.cell 0
 have f5 := RB.k5.frozen 0
 have l5 := RB.k5.lt
 go_wp2
 refine name_set (Q := fun W => bodyPost _ _ _ _ _ W) RB.k5 ?_
 intro X9 j5 _ _ lp9
 have y6 := j5.cell 0
 refine bodyPost_ret (v := .tuple #[.int .i64 0, .agg #[.int .u64 0], .int .i64 3]) (by simp [results, Tryz.results27, go_sem, y6]) rfl ?_
 exact ⟨rfl, lp9.narrow RB.l hb5⟩
set_option maxRecDepth 100000 in
set_option maxHeartbeats 8000000 in
theorem rpick_neg (A : Option Addr) (n c s : Nat) (ws : List W8) (hok : ∀ x ∈ ws, x.ok) (hn : n ≤ 400) (p : Nat) (hpn : p < n) (hs0 : ∀ (i : Nat) (x : W8), ws[i]? = some x → i < p → 0 ≤ x.toInt) (HN : ∀ (i : Nat) (x : W8), ws[i]? = some x → i = p → x.toInt < 0) (w : World) (hr : RowM w A 8 n (wRows ws)) : Calls Tryz.prog 27 #[.agg #[.int .u64 s], .slice A n c] w (PickEnd w 0 0 2) := by
 have HGH := Lib.hid (fun (i : Nat) (x : W8) (h : ws[i]? = some x) => fun w => rSign_any x (hok x (List.mem_of_getElem? h)) w)
 have HR := Lib.hid hr
 clear hr
 have HS := Lib.hid hs0
 clear hs0
 go_enter Tryz.func27, Tryz.ntmps27
 go_upto_region 1 with (fail)
 refine name2 (Q := fun W => Code.wp _ _ _ _ W) ?_
 intro W l0 hs k2 k5
 obtain ⟨g5, hg5⟩ : ∃ z, w.heap.size + 1 = z := ⟨_, rfl⟩
 obtain ⟨g2, hg2⟩ : ∃ z, w.heap.size = z := ⟨_, rfl⟩
 have h25 : g2 < g5 := by omega
 have hb2 : w.heap.size ≤ g2 := by omega
 have hb5 : w.heap.size ≤ g5 := by omega
 rw [hg5] at k5 ⊢
 rw [hg2] at k2 ⊢
 have RB : RpB w g2 g5 s W := ⟨k2, k5, l0⟩
 clear k2 k5 l0 hs hg5 hg2
 have hn4 : ¬ (400 : Int) < (n : Int) := by omega
 go_upto_region 4 with (fail)
 go_loopw [7] (fun i wr => ∃ j : Nat, j ≤ p ∧ i = .int .i64 j ∧ RpB w g2 g5 s wr) (fun i _ => n - (intOf i).toNat)
 case atStart => exact ⟨0, by omega, rfl, RB⟩
 case round =>
  clear RB
  obtain ⟨j, hj, rfl, RB⟩ := hrel
  by_cases hlt : j < n
  ·obtain ⟨g, o, x, rfl, hgl2, hx, hxl, hrg⟩ := (HR.out.later RB.l).at hlt
   obtain ⟨x, hxw, rfl⟩ := row_w hx
   have hrg : wr.rangeAt g (o + j * 8) [.int .u64 x.a0, .int .u64 x.a1, .int .u64 x.a2, .int .u64 x.a3, .int .u64 x.a4, .int .u64 x.a5, .int .u64 x.a6, .int .u64 x.a7] := hrg
   have HG1 := HGH.out j x hxw
   have hltI : (j : Int) < (n : Int) := by omega
   have b0 : (0 : Int) ≤ (j : Int) := by omega
   by_cases hp : j = p
   ·subst hp
    have hsd := rp_sgnN (HN j x hxw rfl)
    obtain ⟨xo, hxo⟩ : ∃ z, ordR x.toInt = z := ⟨_, rfl⟩
    rw [hxo] at HG1 hsd
    clear hx hxl hxw hxo
    go_wp2_with (refine wpList_load_mid (by rfl) 26 (.tmp 28) (by rfl) g (o + j * 8) (by rfl) [.int .u64 x.a0, .int .u64 x.a1, .int .u64 x.a2, .int .u64 x.a3, .int .u64 x.a4, .int .u64 x.a5, .int .u64 x.a6, .int .u64 x.a7] _ hrg Tryz.underlying26 rfl (by kernel_rfl) ?_)
    refine (HG1 wr).mono ?_
    rintro e V1 ⟨rfl, la⟩
    replace RB := RB.later la
    clear la hrg HG1 hgl2
    have y5 := RB.k5.cell 0
    have f5 := RB.k5.frozen 0
    have l5 := RB.k5.lt
    go_wp2
    refine name_set (Q := fun W => bodyPost _ _ _ _ _ W) RB.k5 ?_
    intro X9 j5 _ _ lp9
    have y6 := j5.cell 0
    refine bodyPost_ret (v := .tuple #[.int .i64 0, .agg #[.int .u64 0], .int .i64 2]) (by simp [results, Tryz.results27, go_sem, y6]) rfl ?_
    exact ⟨rfl, lp9.narrow RB.l hb5⟩
   ·have hsd := rp_sgn (HS.out j x hxw (by omega))
    obtain ⟨xo, hxo⟩ : ∃ z, ordR x.toInt = z := ⟨_, rfl⟩
    rw [hxo] at HG1 hsd
    clear hx hxl hxw hxo
    go_wp2_with (refine wpList_load_mid (by rfl) 26 (.tmp 28) (by rfl) g (o + j * 8) (by rfl) [.int .u64 x.a0, .int .u64 x.a1, .int .u64 x.a2, .int .u64 x.a3, .int .u64 x.a4, .int .u64 x.a5, .int .u64 x.a6, .int .u64 x.a7] _ hrg Tryz.underlying26 rfl (by kernel_rfl) ?_)
    refine (HG1 wr).mono ?_
    rintro e V1 ⟨rfl, la⟩
    replace RB := RB.later la
    clear la hrg HG1 hgl2
    go_wp2
    go_roundw
    case rel => exact ⟨j + 1, by omega, by go_num, RB⟩
    case measure => simp [intOf]; omega
  ·exact absurd hpn (by omega)
def RpC (s n : Nat) (zs : List Int) (k : Int) (t : Nat) (en : Int) : Prop :=
 (P511 ≤ preS zs n ∧ k = 0 ∧ t = 0 ∧ en = 6) ∨ ((0 ≤ preS zs n ∧ preS zs n < P511) ∧ preS zs n = 0 ∧ k = 0 ∧ t = 0 ∧ en = 7) ∨
 ((0 ≤ preS zs n ∧ preS zs n < P511) ∧ 0 < preS zs n ∧ ∃ (xv : W8) (tw : Nat), (∀ w, Calls Tryz.prog 14 #[.agg #[.int .u64 s], .agg #[.int .u64 (W8.of (preS zs n)).a0, .int .u64 (W8.of (preS zs n)).a1, .int .u64 (W8.of (preS zs n)).a2, .int .u64 (W8.of (preS zs n)).a3, .int .u64 (W8.of (preS zs n)).a4, .int .u64 (W8.of (preS zs n)).a5, .int .u64 (W8.of (preS zs n)).a6, .int .u64 (W8.of (preS zs n)).a7]] w (WidEnd w xv tw en)) ∧ en ≠ 0 ∧ k = 0 ∧ t = 0) ∨
 ((0 ≤ preS zs n ∧ preS zs n < P511) ∧ 0 < preS zs n ∧ en = 0 ∧ ∃ (xv : W8) (v : Int) (K : Nat), (∀ w, Calls Tryz.prog 14 #[.agg #[.int .u64 s], .agg #[.int .u64 (W8.of (preS zs n)).a0, .int .u64 (W8.of (preS zs n)).a1, .int .u64 (W8.of (preS zs n)).a2, .int .u64 (W8.of (preS zs n)).a3, .int .u64 (W8.of (preS zs n)).a4, .int .u64 (W8.of (preS zs n)).a5, .int .u64 (W8.of (preS zs n)).a6, .int .u64 (W8.of (preS zs n)).a7]] w (WidEnd w xv t 0)) ∧ (xv.ok ∧ xv.toInt = v) ∧ (K < n ∧ preS zs K ≤ v ∧ v < preS zs (K + 1)) ∧ (∀ j, j < K → preS zs (j + 1) ≤ v) ∧ k = K)
set_option maxRecDepth 100000 in
set_option maxHeartbeats 8000000 in
theorem rpick_nn (A : Option Addr) (n c s : Nat) (ws : List W8) (hok : ∀ x ∈ ws, x.ok) (hn : n ≤ 400) (hs0 : ∀ (i : Nat) (x : W8), ws[i]? = some x → 0 ≤ x.toInt) (zs : List Int) (hx0 : ∀ (i : Nat) (x : W8), ws[i]? = some x → x.ok ∧ preS zs (i + 1) = preS zs i + x.toInt) (k : Int) (t : Nat) (en : Int) (hcs : RpC s n zs k t en) (w : World) (hr : RowM w A 8 n (wRows ws)) : Calls Tryz.prog 27 #[.agg #[.int .u64 s], .slice A n c] w (PickEnd w k t en) := by
 have HGH := Lib.hid (fun (i : Nat) (x : W8) (h : ws[i]? = some x) => fun w => rSign_any x (hok x (List.mem_of_getElem? h)) w)
 have HR := Lib.hid hr
 clear hr
 have HS := Lib.hid hs0
 have HX := Lib.hid hx0
 clear hs0 hx0
 have HCS := Lib.hid hcs
 clear hcs
 go_enter Tryz.func27, Tryz.ntmps27
 go_upto_region 1 with (fail)
 refine name2 (Q := fun W => Code.wp _ _ _ _ W) ?_
 intro W l0 hs k2 k5
 obtain ⟨g5, hg5⟩ : ∃ z, w.heap.size + 1 = z := ⟨_, rfl⟩
 obtain ⟨g2, hg2⟩ : ∃ z, w.heap.size = z := ⟨_, rfl⟩
 have h25 : g2 < g5 := by omega
 have hb2 : w.heap.size ≤ g2 := by omega
 have hb5 : w.heap.size ≤ g5 := by omega
 rw [hg5] at k5 ⊢
 rw [hg2] at k2 ⊢
 have RB : RpB w g2 g5 s W := ⟨k2, k5, l0⟩
 clear k2 k5 l0 hs hg5 hg2
 have hn4 : ¬ (400 : Int) < (n : Int) := by omega
 go_upto_region 4 with (fail)
 go_loopw [7] (fun i wr => ∃ j : Nat, j ≤ n ∧ i = .int .i64 j ∧ RpB w g2 g5 s wr) (fun i _ => n - (intOf i).toNat)
 case atStart => exact ⟨0, by omega, rfl, RB⟩
 case round =>
  clear RB
  obtain ⟨j, hj, rfl, RB⟩ := hrel
  by_cases hlt : j < n
  ·obtain ⟨g, o, x, rfl, hgl2, hx, hxl, hrg⟩ := (HR.out.later RB.l).at hlt
   obtain ⟨x, hxw, rfl⟩ := row_w hx
   have hrg : wr.rangeAt g (o + j * 8) [.int .u64 x.a0, .int .u64 x.a1, .int .u64 x.a2, .int .u64 x.a3, .int .u64 x.a4, .int .u64 x.a5, .int .u64 x.a6, .int .u64 x.a7] := hrg
   have HG1 := HGH.out j x hxw
   have hltI : (j : Int) < (n : Int) := by omega
   have b0 : (0 : Int) ≤ (j : Int) := by omega
   have hsd := rp_sgn (HS.out j x hxw)
   obtain ⟨xo, hxo⟩ : ∃ z, ordR x.toInt = z := ⟨_, rfl⟩
   rw [hxo] at HG1 hsd
   clear hx hxl hxw hxo
   go_wp2_with (refine wpList_load_mid (by rfl) 26 (.tmp 28) (by rfl) g (o + j * 8) (by rfl) [.int .u64 x.a0, .int .u64 x.a1, .int .u64 x.a2, .int .u64 x.a3, .int .u64 x.a4, .int .u64 x.a5, .int .u64 x.a6, .int .u64 x.a7] _ hrg Tryz.underlying26 rfl (by kernel_rfl) ?_)
   refine (HG1 wr).mono ?_
   rintro e V1 ⟨rfl, la⟩
   replace RB := RB.later la
   clear la hrg HG1 hgl2
   go_wp2
   go_roundw
   case rel => exact ⟨j + 1, by omega, by go_num, RB⟩
   case measure => simp [intOf]; omega
  ·obtain rfl : j = n := by omega
   clear hlt hj
   have hb8 := Lib.hid (Nat.le_trans RB.l.size (Nat.le_refl _))
   go_upto_region 9 with (fail)
   refine name1 (Q := fun W => Code.wp _ _ _ _ W) ?_
   intro V0 la hs8 k8
   obtain ⟨g8, hg8⟩ : ∃ z, wr.heap.size = z := ⟨_, rfl⟩
   have h58 : g5 < g8 := by rw [← hg8]; exact RB.k5.lt
   have hb8 : w.heap.size ≤ g8 := by rw [← hg8]; exact RB.l.size
   rw [hg8] at k8 ⊢
   replace RB := RB.later la
   clear la hs8 hg8
   go_upto_region 10 with (fail)
   go_loopw [9] (fun i wr => ∃ (q : Nat) (b8 : Bool) (A8 : Option Addr) (n8 c8 : Nat), q ≤ j ∧ i = .int .i64 q ∧ Blk wr g8 85 #[.bool b8, .slice A8 n8 c8] ∧ Rg wr b8 A8 n8 c8 (preS zs q) ∧ n8 ≤ 18 * q ∧ RpB w g2 g5 s wr) (fun i _ => j - (intOf i).toNat)
   case atStart => exact ⟨0, false, none, 0, 0, by omega, rfl, k8, rg_nil _, by omega, RB⟩
   case round =>
    clear RB k8
    obtain ⟨q, b8, A8, n8, c8, hq, rfl, k8, r8, m8, RB⟩ := hrel
    by_cases hqn : q < j
    ·obtain ⟨g, o, x, rfl, hgl2, hx, hxl, hrg⟩ := (HR.out.later RB.l).at hqn
     obtain ⟨x, hxw, rfl⟩ := row_w hx
     have hrg : wr.rangeAt g (o + q * 8) [.int .u64 x.a0, .int .u64 x.a1, .int .u64 x.a2, .int .u64 x.a3, .int .u64 x.a4, .int .u64 x.a5, .int .u64 x.a6, .int .u64 x.a7] := hrg
     obtain ⟨hxo, hps⟩ := HX.out q x hxw
     have hjn : (q : Int) < (j : Int) := by omega
     have hj0 : (0 : Int) ≤ (q : Int) := by omega
     obtain ⟨z, hz⟩ : ∃ z, x.toInt = z := ⟨_, rfl⟩
     have HI : ∀ w, Calls Tryz.prog 49 #[.agg #[.int .u64 x.a0, .int .u64 x.a1, .int .u64 x.a2, .int .u64 x.a3, .int .u64 x.a4, .int .u64 x.a5, .int .u64 x.a6, .int .u64 x.a7]] w (RefPost w z 17) := fun w => by rw [← hz]; exact rIn_any x hxo w
     rw [hz] at hps
     obtain ⟨t, ht⟩ : ∃ t, preS zs q = t := ⟨_, rfl⟩
     rw [ht] at hps r8
     have HPL := rp_plus (z := z) r8 m8 (by omega)
     have R8 : ∀ w', Lat wr w' → w'.rangeAt g8 0 [.bool b8, .slice A8 n8 c8] := fun w' hl => (k8.later hl).rangeAll
     have RX : ∀ w', Lat wr w' → w'.rangeAt g (o + q * 8) [.int .u64 x.a0, .int .u64 x.a1, .int .u64 x.a2, .int .u64 x.a3, .int .u64 x.a4, .int .u64 x.a5, .int .u64 x.a6, .int .u64 x.a7] := fun w' hl => rangeAt_later hrg hgl2 hl
     have J85 : (Tryz.prog.info? 85).map (·.size) = some 2 := by kernel_rfl
     have J26 : (Tryz.prog.info? 26).map (·.size) = some 8 := by kernel_rfl
     have HPS := Lib.hid hps
     clear hx hxl hxw hz ht hrg hxo hps hgl2
     go_upto_region 12 with (fail)
     rename_i KN hKN
     refine wp_region_slotsL (rp12_rows b8 A8 n8 c8 g o j c q (18 * q) x z t) (rp12_base g8 g o j c q _ _ _ _ _ _ _ _ _ _ _ _ _ _ _ _ _ _ _ _ _ _ _ _ _ _ _ _ _ _ _ _ _ _ _ _ _ _ _ _ _ _ _ _ _ _ _ _ _ _ _ _ _ _ _ _ _ _ _ _ _ _ _ _ _ _ _ _ _ _ _ _ _ _ _ _ _ _ _ _ _) 91 7 [[], [], [], [1, 2], [3], [4], [0, 5, 5], [6, 6, 0, 1, 2, 3, 4, 5, 6]] (by kernel_rfl) _ rfl rfl (by kernel_rfl) (by kernel_rfl) (by kernel_rfl) (by kernel_rfl) (by kernel_rfl) (by kernel_rfl) (by rfl) rfl (base_of (base_cons rfl (base_cons rfl (base_cons rfl (base_cons rfl (base_cons rfl (base_cons rfl (base_cons rfl (base_cons rfl (base_cons rfl (base_cons rfl (base_cons rfl (base_cons rfl (base_cons rfl (base_cons rfl (base_cons rfl (base_cons rfl (base_cons rfl (base_cons rfl (base_cons rfl (base_cons rfl (base_cons rfl (base_cons rfl (base_cons rfl (base_cons rfl (base_cons rfl (base_cons rfl (base_cons rfl (base_cons rfl (base_cons rfl (base_cons rfl (base_cons rfl (base_cons rfl (base_cons rfl (base_cons rfl (base_cons rfl (base_cons rfl (base_cons rfl (base_cons rfl (base_cons rfl (base_cons rfl (base_cons rfl (base_cons rfl (base_cons rfl (base_cons rfl (base_cons rfl (base_cons rfl (base_cons rfl (base_cons rfl (base_cons rfl (base_cons rfl (base_cons rfl (base_cons rfl (base_cons rfl (base_cons rfl (base_cons rfl (base_cons rfl (base_cons rfl (base_cons rfl (base_cons rfl (base_cons rfl (base_cons rfl (base_cons rfl (base_cons rfl (base_cons rfl (base_cons rfl (base_cons rfl (base_cons rfl (base_cons rfl (base_cons rfl (base_cons rfl (base_cons rfl (base_cons rfl (base_cons rfl (base_cons rfl (base_cons rfl (base_cons rfl (base_cons rfl (base_cons rfl (base_cons rfl (base_cons rfl (base_cons rfl (base_cons rfl (base_cons rfl (base_cons rfl (base_nil _)))))))))))))))))))))))))))))))))))))))))))))))))))))))))))))))))))))))))))))))))))))) (rp12_steps wr b8 A8 n8 c8 (18 * q) x z t g8 g o j c q _ _ _ _ _ _ _ _ _ _ _ _ _ _ _ _ _ _ _ _ _ _ _ _ _ _ _ _ _ _ _ _ _ _ _ _ _ _ _ _ _ _ _ _ _ _ _ _ _ _ _ _ _ _ _ _ _ _ _ _ _ _ _ _ _ _ _ _ _ _ _ _ _ _ _ _ _ _ _ _ _ R8 J85 J26 RX hjn hj0 HI HPL) ?_
     ·intro a9 W9 hsz9 hdf9 hL9 hbs hsl
      obtain ⟨v9, h09, qv9⟩ := hsl 6 _ _ rfl rfl
      obtain ⟨b6, A6, n6, c6, rfl, s1, s2⟩ := (show LV (t + z) (18 * q + 18) v9 W9 from qv9)
      have K9 := k8.later hL9
      refine wp_store_mid 85 (.tmp 8) (.tmp 46) rfl g8 0 #[.bool b6, .slice A6 n6 c6] (hbs 8 _ rfl).ev h09.ev (K9.thereAll _ rfl) (by kernel_rfl) (by simp [Value.oneCell']) ?_
      refine hKN _ _ ?_
      obtain ⟨T9, df9⟩ := a9
      obtain rfl : df9 = [] := hdf9
      obtain ⟨f, hf, rfl⟩ := spell91 T9 hsz9
      have X9 := fun k v h => (hf k).trans (slot_getD (hbs k v h))
      clear hbs hsl hf hsz9 h09 qv9 hKN
      simp only [Act.put, X9 8 _ rfl, X9 1 _ rfl, X9 9 _ rfl, X9 0 _ rfl, X9 2 _ rfl, X9 3 _ rfl, X9 4 _ rfl, X9 5 _ rfl, X9 6 _ rfl, X9 7 _ rfl, X9 10 _ rfl, X9 11 _ rfl, X9 12 _ rfl, X9 13 _ rfl, X9 14 _ rfl, X9 15 _ rfl, X9 16 _ rfl, X9 17 _ rfl, X9 18 _ rfl, X9 19 _ rfl, X9 20 _ rfl, X9 21 _ rfl, X9 22 _ rfl, X9 23 _ rfl, X9 24 _ rfl, X9 25 _ rfl, X9 26 _ rfl, X9 27 _ rfl, X9 28 _ rfl, X9 29 _ rfl, X9 30 _ rfl, X9 31 _ rfl, X9 32 _ rfl, X9 33 _ rfl, X9 34 _ rfl, X9 35 _ rfl, X9 36 _ rfl, X9 37 _ rfl, X9 38 _ rfl, X9 39 _ rfl, X9 47 _ rfl, X9 48 _ rfl, X9 49 _ rfl, X9 50 _ rfl, X9 51 _ rfl, X9 52 _ rfl, X9 53 _ rfl, X9 54 _ rfl, X9 55 _ rfl, X9 56 _ rfl, X9 57 _ rfl, X9 58 _ rfl, X9 59 _ rfl, X9 60 _ rfl, X9 61 _ rfl, X9 62 _ rfl, X9 63 _ rfl, X9 64 _ rfl, X9 65 _ rfl, X9 66 _ rfl, X9 67 _ rfl, X9 68 _ rfl, X9 69 _ rfl, X9 70 _ rfl, X9 71 _ rfl, X9 72 _ rfl, X9 73 _ rfl, X9 74 _ rfl, X9 75 _ rfl, X9 76 _ rfl, X9 77 _ rfl, X9 78 _ rfl, X9 79 _ rfl, X9 80 _ rfl, X9 81 _ rfl, X9 82 _ rfl, X9 83 _ rfl, X9 84 _ rfl, X9 85 _ rfl, X9 86 _ rfl, X9 87 _ rfl, X9 88 _ rfl, X9 89 _ rfl, X9 90 _ rfl]
      clear X9
      refine name_long (Q := fun W => Code.wp _ _ _ _ W) K9 ?_
      intro V4 j8 lp hrg2
      replace RB := (RB.later hL9).keep lp (by omega) (by omega) hb8
      have q8 := hrg2 s1
      clear K9 s1 lp hrg2 hL9 R8 RX J85 J26 HI HPL k8 r8
      go_wp2
      go_roundw
      case rel => exact ⟨q + 1, b6, A6, n6, c6, by omega, by go_num, j8, by rw [HPS.out]; exact q8, by omega, RB⟩
      case measure => simp [intOf]; omega
    ·obtain rfl : q = j := by omega
     rcases HCS.out with ⟨hbig, rfl, rfl, rfl⟩ | ⟨hft, hz, rfl, rfl, rfl⟩ | ⟨hft, hz, xv, tw, HW0, hen, rfl, rfl⟩ | ⟨hft, hz, rfl, xv, v, K, HW0, hxv, hk, hk2, rfl⟩
     ·clear hq hqn
      have HBIG := rp_outBig r8 (by omega) hbig
      have y8 := k8.cell 0
      have y9 := k8.cell 1
      go_wp2_with fail
      refine HBIG.mono ?_
      rintro e V1 ⟨rfl, la⟩
      replace RB := RB.later la
      clear la y8 y9 HBIG k8 r8
      go_upto_region 14 with (fail)
      refine name1 (Q := fun W => Code.wp _ _ _ _ W) ?_
      intro V2 la hs8 k10
      replace RB := RB.later la
      clear la hs8 k10
      have y5 := RB.k5.cell 0
      have f5 := RB.k5.frozen 0
      have l5 := RB.k5.lt
      go_wp2
      refine name_set (Q := fun W => bodyPost _ _ _ _ _ W) RB.k5 ?_
      intro X9 j5 _ _ lp9
      have y6 := j5.cell 0
      refine bodyPost_ret (v := .tuple #[.int .i64 0, .agg #[.int .u64 0], .int .i64 6]) (by simp [results, Tryz.results27, go_sem, y6]) rfl ?_
      exact ⟨rfl, lp9.narrow RB.l hb5⟩
     ·have HFT := Lib.hid hft
      clear hft
      clear hq hqn
      have hfit := HFT.out
      have HOUT := rp_out r8 (by omega) (by omega) hfit.2
      obtain ⟨u, hu⟩ : ∃ u, W8.of (preS zs q) = u := ⟨_, rfl⟩
      have hz0 : ∀ w, (Op.equalIn 10000 26 (.agg #[.int .u64 u.a0, .int .u64 u.a1, .int .u64 u.a2, .int .u64 u.a3, .int .u64 u.a4, .int .u64 u.a5, .int .u64 u.a6, .int .u64 u.a7]) (.agg #[.int .u64 0, .int .u64 0, .int .u64 0, .int .u64 0, .int .u64 0, .int .u64 0, .int .u64 0, .int .u64 0])).run Tryz.prog w = .ok (decide (preS zs q = 0)) w := fun w => by
       have h := wide_zeroI (W8.of_ok (preS zs q)) w
       rwa [W8.of_toInt (by omega) hfit.2, hu] at h
      rw [hu] at HOUT
      have y8 := k8.cell 0
      have y9 := k8.cell 1
      go_wp2_with fail
      refine HOUT.mono ?_
      rintro e V1 ⟨rfl, la⟩
      replace RB := RB.later la
      clear la y8 y9 HOUT k8 r8
      go_upto_region 14 with (fail)
      refine name1 (Q := fun W => Code.wp _ _ _ _ W) ?_
      intro V2 la hs8 k10
      obtain ⟨g10, hg10⟩ : ∃ z, V1.heap.size = z := ⟨_, rfl⟩
      have h5_10 : g5 < g10 := by rw [← hg10]; exact RB.k5.lt
      rw [hg10] at k10 ⊢
      replace RB := RB.later la
      clear la hs8 hg10
      have d0 := k10.cell 0
      have d1 := k10.cell 1
      have d2 := k10.cell 2
      have d3 := k10.cell 3
      have d4 := k10.cell 4
      have d5 := k10.cell 5
      have d6 := k10.cell 6
      have d7 := k10.cell 7
      have hzz : decide (preS zs q = 0) = true := decide_eq_true hz
      rw [hzz] at hz0
      clear hzz hz hfit hu
      have y5 := RB.k5.cell 0
      have f5 := RB.k5.frozen 0
      have l5 := RB.k5.lt
      go_wp2
      refine name_set (Q := fun W => bodyPost _ _ _ _ _ W) RB.k5 ?_
      intro X9 j5 _ _ lp9
      have y6 := j5.cell 0
      refine bodyPost_ret (v := .tuple #[.int .i64 0, .agg #[.int .u64 0], .int .i64 7]) (by simp [results, Tryz.results27, go_sem, y6]) rfl ?_
      exact ⟨rfl, lp9.narrow RB.l hb5⟩
     ·have HFT := Lib.hid hft
      have HW := Lib.hid HW0
      clear hft HW0
      clear hq hqn
      have hfit := HFT.out
      have HOUT := rp_out r8 (by omega) (by omega) hfit.2
      obtain ⟨u, hu⟩ : ∃ u, W8.of (preS zs q) = u := ⟨_, rfl⟩
      have hz0 : ∀ w, (Op.equalIn 10000 26 (.agg #[.int .u64 u.a0, .int .u64 u.a1, .int .u64 u.a2, .int .u64 u.a3, .int .u64 u.a4, .int .u64 u.a5, .int .u64 u.a6, .int .u64 u.a7]) (.agg #[.int .u64 0, .int .u64 0, .int .u64 0, .int .u64 0, .int .u64 0, .int .u64 0, .int .u64 0, .int .u64 0])).run Tryz.prog w = .ok (decide (preS zs q = 0)) w := fun w => by
       have h := wide_zeroI (W8.of_ok (preS zs q)) w
       rwa [W8.of_toInt (by omega) hfit.2, hu] at h
      rw [hu] at HOUT
      have y8 := k8.cell 0
      have y9 := k8.cell 1
      go_wp2_with fail
      refine HOUT.mono ?_
      rintro e V1 ⟨rfl, la⟩
      replace RB := RB.later la
      clear la y8 y9 HOUT k8 r8
      go_upto_region 14 with (fail)
      refine name1 (Q := fun W => Code.wp _ _ _ _ W) ?_
      intro V2 la hs8 k10
      obtain ⟨g10, hg10⟩ : ∃ z, V1.heap.size = z := ⟨_, rfl⟩
      have h5_10 : g5 < g10 := by rw [← hg10]; exact RB.k5.lt
      rw [hg10] at k10 ⊢
      replace RB := RB.later la
      clear la hs8 hg10
      have d0 := k10.cell 0
      have d1 := k10.cell 1
      have d2 := k10.cell 2
      have d3 := k10.cell 3
      have d4 := k10.cell 4
      have d5 := k10.cell 5
      have d6 := k10.cell 6
      have d7 := k10.cell 7
      have hzz : decide (preS zs q = 0) = false := decide_eq_false (by omega)
      rw [hzz] at hz0
      have HWI : ∀ w, Calls Tryz.prog 14 #[.agg #[.int .u64 s], .agg #[.int .u64 u.a0, .int .u64 u.a1, .int .u64 u.a2, .int .u64 u.a3, .int .u64 u.a4, .int .u64 u.a5, .int .u64 u.a6, .int .u64 u.a7]] w (WidEnd w xv tw en) := fun w => by rw [← hu]; exact HW.out w
      have c2 := RB.k2.cell 0
      clear hzz hz hfit hu
      go_upto_region 18 with (fail)
      clear hz0
      go_wp2_with fail
      refine (HWI V2).mono ?_
      rintro e V3 ⟨rfl, la⟩
      replace RB := RB.later la
      clear d0 d1 d2 d3 d4 d5 d6 d7
      clear la c2 HWI k10
      go_upto_region 19 with (fail)
      refine name2 (Q := fun W => Code.wp _ _ _ _ W) ?_
      intro V4 la hs8 k12 k13
      obtain ⟨g13, hg13⟩ : ∃ z, V3.heap.size + 1 = z := ⟨_, rfl⟩
      obtain ⟨g12, hg12⟩ : ∃ z, V3.heap.size = z := ⟨_, rfl⟩
      have h12_13 : g12 < g13 := by omega
      have h5_12 : g5 < g12 := by rw [← hg12]; exact RB.k5.lt
      rw [hg13] at k13 ⊢
      rw [hg12] at k12 ⊢
      replace RB := RB.later la
      clear la hs8 hg12 hg13
      clear k12 k13
      have hne : ((en : Int) != 0) = true := by simpa using hen
      have y5 := RB.k5.cell 0
      have f5 := RB.k5.frozen 0
      have l5 := RB.k5.lt
      go_wp2
      refine name_set (Q := fun W => bodyPost _ _ _ _ _ W) RB.k5 ?_
      intro X9 j5 _ _ lp9
      have y6 := j5.cell 0
      refine bodyPost_ret (v := .tuple #[.int .i64 0, .agg #[.int .u64 0], .int .i64 en]) (by simp [results, Tryz.results27, go_sem, y6]) rfl ?_
      exact ⟨rfl, lp9.narrow RB.l hb5⟩
     ·have HFT := Lib.hid hft
      have HW := Lib.hid HW0
      have HK := Lib.hid hk
      have HK2 := Lib.hid hk2
      have HXV := Lib.hid hxv
      clear hft HW0 hk hk2 hxv
      clear hq hqn
      have hfit := HFT.out
      have HOUT := rp_out r8 (by omega) (by omega) hfit.2
      obtain ⟨u, hu⟩ : ∃ u, W8.of (preS zs q) = u := ⟨_, rfl⟩
      have hz0 : ∀ w, (Op.equalIn 10000 26 (.agg #[.int .u64 u.a0, .int .u64 u.a1, .int .u64 u.a2, .int .u64 u.a3, .int .u64 u.a4, .int .u64 u.a5, .int .u64 u.a6, .int .u64 u.a7]) (.agg #[.int .u64 0, .int .u64 0, .int .u64 0, .int .u64 0, .int .u64 0, .int .u64 0, .int .u64 0, .int .u64 0])).run Tryz.prog w = .ok (decide (preS zs q = 0)) w := fun w => by
       have h := wide_zeroI (W8.of_ok (preS zs q)) w
       rwa [W8.of_toInt (by omega) hfit.2, hu] at h
      rw [hu] at HOUT
      have y8 := k8.cell 0
      have y9 := k8.cell 1
      go_wp2_with fail
      refine HOUT.mono ?_
      rintro e V1 ⟨rfl, la⟩
      replace RB := RB.later la
      clear la y8 y9 HOUT k8 r8
      go_upto_region 14 with (fail)
      refine name1 (Q := fun W => Code.wp _ _ _ _ W) ?_
      intro V2 la hs8 k10
      obtain ⟨g10, hg10⟩ : ∃ z, V1.heap.size = z := ⟨_, rfl⟩
      have h5_10 : g5 < g10 := by rw [← hg10]; exact RB.k5.lt
      rw [hg10] at k10 ⊢
      replace RB := RB.later la
      clear la hs8 hg10
      have d0 := k10.cell 0
      have d1 := k10.cell 1
      have d2 := k10.cell 2
      have d3 := k10.cell 3
      have d4 := k10.cell 4
      have d5 := k10.cell 5
      have d6 := k10.cell 6
      have d7 := k10.cell 7
      have hzz : decide (preS zs q = 0) = false := decide_eq_false (by omega)
      rw [hzz] at hz0
      have HWI : ∀ w, Calls Tryz.prog 14 #[.agg #[.int .u64 s], .agg #[.int .u64 u.a0, .int .u64 u.a1, .int .u64 u.a2, .int .u64 u.a3, .int .u64 u.a4, .int .u64 u.a5, .int .u64 u.a6, .int .u64 u.a7]] w (WidEnd w xv t 0) := fun w => by rw [← hu]; exact HW.out w
      have c2 := RB.k2.cell 0
      clear hzz hz hfit hu
      go_upto_region 18 with (fail)
      clear hz0
      go_wp2_with fail
      refine (HWI V2).mono ?_
      rintro e V3 ⟨rfl, la⟩
      replace RB := RB.later la
      clear d0 d1 d2 d3 d4 d5 d6 d7
      clear la c2 HWI k10
      go_upto_region 19 with (fail)
      refine name2 (Q := fun W => Code.wp _ _ _ _ W) ?_
      intro V4 la hs8 k12 k13
      obtain ⟨g13, hg13⟩ : ∃ z, V3.heap.size + 1 = z := ⟨_, rfl⟩
      obtain ⟨g12, hg12⟩ : ∃ z, V3.heap.size = z := ⟨_, rfl⟩
      have h12_13 : g12 < g13 := by omega
      have h5_12 : g5 < g12 := by rw [← hg12]; exact RB.k5.lt
      rw [hg13] at k13 ⊢
      rw [hg12] at k12 ⊢
      replace RB := RB.later la
      clear la hs8 hg12 hg13
      obtain ⟨hKj, hs1, hs2⟩ := HK.out
      obtain ⟨g, o, x, hA, hgl2, hx, hxl, hrg⟩ := (HR.out.later RB.l).at (show 0 < q by omega)
      subst hA
      obtain ⟨x, hxw, rfl⟩ := row_w hx
      have hrg : V4.rangeAt g (o + 0 * 8) [.int .u64 x.a0, .int .u64 x.a1, .int .u64 x.a2, .int .u64 x.a3, .int .u64 x.a4, .int .u64 x.a5, .int .u64 x.a6, .int .u64 x.a7] := hrg
      obtain ⟨hxo, hps⟩ := HX.out 0 x hxw
      have hn0 : (0 : Int) < (q : Int) := by omega
      have hn1 : ¬ (q : Int) ≤ 0 := by omega
      rw [preS_zero, Int.zero_add] at hps
      have HI := rIn_any x hxo
      rw [← hps] at HI
      clear hx hxl hxw hxo hps
      have hrg0 : V4.rangeAt g o [.int .u64 x.a0, .int .u64 x.a1, .int .u64 x.a2, .int .u64 x.a3, .int .u64 x.a4, .int .u64 x.a5, .int .u64 x.a6, .int .u64 x.a7] := by rw [Nat.zero_mul, Nat.add_zero] at hrg; exact hrg
      go_upto_region 21 with (fail)
      go_wp2_with (refine wpList_load_mid (by rfl) 26 (.tmp 72) (by rfl) g o (by rfl) [.int .u64 x.a0, .int .u64 x.a1, .int .u64 x.a2, .int .u64 x.a3, .int .u64 x.a4, .int .u64 x.a5, .int .u64 x.a6, .int .u64 x.a7] _ hrg0 Tryz.underlying26 rfl (by kernel_rfl) ?_)
      refine (HI V4).mono ?_
      rintro e V5 ⟨b14, A14, n14, c14, rfl, r14, m14, la⟩
      replace RB := RB.later la
      replace k12 := k12.later la
      replace k13 := k13.later la
      clear la hrg hrg0 HI hgl2
      go_upto_region 22 with (fail)
      refine name1 (Q := fun W => Code.wp _ _ _ _ W) ?_
      intro V6 la hs8 k14
      obtain ⟨g14, hg14⟩ : ∃ z, V5.heap.size = z := ⟨_, rfl⟩
      have h13_14 : g13 < g14 := by rw [← hg14]; exact k13.lt
      have hb14 : w.heap.size ≤ g14 := by rw [← hg14]; exact RB.l.size
      rw [hg14] at k14 ⊢
      replace RB := RB.later la
      replace k12 := k12.later la
      replace k13 := k13.later la
      replace r14 := r14.later la
      clear la hs8 hg14
      go_upto_region 22 with (fail)
      go_loopw [15] (fun i wr => ∃ (jj : Nat) (b8 : Bool) (A8 : Option Addr) (n8 c8 : Nat), jj ≤ K ∧ i = .int .i64 jj ∧ Blk wr g14 85 #[.bool b8, .slice A8 n8 c8] ∧ Rg wr b8 A8 n8 c8 (preS zs (jj + 1)) ∧ n8 ≤ 18 * (jj + 1) ∧ Blk wr g12 26 #[.int .u64 xv.a0, .int .u64 xv.a1, .int .u64 xv.a2, .int .u64 xv.a3, .int .u64 xv.a4, .int .u64 xv.a5, .int .u64 xv.a6, .int .u64 xv.a7] ∧ Blk wr g13 24 #[.int .u64 (t : Nat)] ∧ RpB w g2 g5 s wr) (fun i _ => K - (intOf i).toNat)
      case atStart => exact ⟨0, b14, A14, n14, c14, by omega, rfl, k14, r14, by omega, k12, k13, RB⟩
      case round =>
       clear RB k12 k13 k14 r14 m14
       obtain ⟨jj, b8, A8, n8, c8, hjK, rfl, k8, r8, m8, k12, k13, RB⟩ := hrel
       obtain ⟨hxok, hxz⟩ := HXV.out
       have HI : ∀ w, Calls Tryz.prog 49 #[.agg #[.int .u64 xv.a0, .int .u64 xv.a1, .int .u64 xv.a2, .int .u64 xv.a3, .int .u64 xv.a4, .int .u64 xv.a5, .int .u64 xv.a6, .int .u64 xv.a7]] w (RefPost w v 17) := fun w => by rw [← hxz]; exact rIn_any xv hxok w
       obtain ⟨o2, ho2⟩ : ∃ o2, ordR (preS zs (jj + 1) - v) = o2 := ⟨_, rfl⟩
       have HO := rp_order (z := v) r8 (by omega) ho2
       have R8 : ∀ w', Lat wr w' → w'.rangeAt g14 0 [.bool b8, .slice A8 n8 c8] := fun w' hl => (k8.later hl).rangeAll
       have R12 : ∀ w', Lat wr w' → w'.rangeAt g12 0 [.int .u64 xv.a0, .int .u64 xv.a1, .int .u64 xv.a2, .int .u64 xv.a3, .int .u64 xv.a4, .int .u64 xv.a5, .int .u64 xv.a6, .int .u64 xv.a7] := fun w' hl => (k12.later hl).rangeAll
       have J85 : (Tryz.prog.info? 85).map (·.size) = some 2 := by kernel_rfl
       have J26 : (Tryz.prog.info? 26).map (·.size) = some 8 := by kernel_rfl
       clear hxok hxz
       by_cases hlt : jj < K
       ·have hob : decide (o2 ≤ 0) = true := rp_le (by have := HK2.out jj hlt; omega) ho2
        clear ho2
        go_upto_region 22 with (fail)
        rename_i KN hKN
        refine wp_region_slots (rp22_rows b8 A8 n8 c8 g14 g12 xv v o2 true) (rp22_base b8 A8 n8 c8 g14 g12 xv v o2 true _ _ _ _ _ _ _ _ _ _ _ _ _ _ _ _ _ _ _ _ _ _ _ _ _ _ _ _ _ _ _ _ _ _ _ _ _ _ _ _ _ _ _ _ _ _ _ _ _ _ _ _ _ _ _ _ _ _ _ _ _ _ _ _ _ _ _ _ _ _ _ _ _ _ _ _ _ _ _ _ _ _ _ _) 91 5 [[], [], [1], [0, 2, 2], [3]] (by kernel_rfl) (by kernel_rfl) (by kernel_rfl) (by kernel_rfl) (by kernel_rfl) (by kernel_rfl) (by rfl) rfl (base_of (base_cons rfl (base_cons rfl (base_cons rfl (base_cons rfl (base_cons rfl (base_cons rfl (base_cons rfl (base_cons rfl (base_cons rfl (base_cons rfl (base_cons rfl (base_cons rfl (base_cons rfl (base_cons rfl (base_cons rfl (base_cons rfl (base_cons rfl (base_cons rfl (base_cons rfl (base_cons rfl (base_cons rfl (base_cons rfl (base_cons rfl (base_cons rfl (base_cons rfl (base_cons rfl (base_cons rfl (base_cons rfl (base_cons rfl (base_cons rfl (base_cons rfl (base_cons rfl (base_cons rfl (base_cons rfl (base_cons rfl (base_cons rfl (base_cons rfl (base_cons rfl (base_cons rfl (base_cons rfl (base_cons rfl (base_cons rfl (base_cons rfl (base_cons rfl (base_cons rfl (base_cons rfl (base_cons rfl (base_cons rfl (base_cons rfl (base_cons rfl (base_cons rfl (base_cons rfl (base_cons rfl (base_cons rfl (base_cons rfl (base_cons rfl (base_cons rfl (base_cons rfl (base_cons rfl (base_cons rfl (base_cons rfl (base_cons rfl (base_cons rfl (base_cons rfl (base_cons rfl (base_cons rfl (base_cons rfl (base_cons rfl (base_cons rfl (base_cons rfl (base_cons rfl (base_cons rfl (base_cons rfl (base_cons rfl (base_cons rfl (base_cons rfl (base_cons rfl (base_cons rfl (base_cons rfl (base_cons rfl (base_cons rfl (base_cons rfl (base_cons rfl (base_cons rfl (base_cons rfl (base_cons rfl (base_nil _)))))))))))))))))))))))))))))))))))))))))))))))))))))))))))))))))))))))))))))))))))))))) (rp22_steps wr b8 A8 n8 c8 g14 g12 xv v o2 true _ _ _ _ _ _ _ _ _ _ _ _ _ _ _ _ _ _ _ _ _ _ _ _ _ _ _ _ _ _ _ _ _ _ _ _ _ _ _ _ _ _ _ _ _ _ _ _ _ _ _ _ _ _ _ _ _ _ _ _ _ _ _ _ _ _ _ _ _ _ _ _ _ _ _ _ _ _ _ _ _ _ _ _ hob R8 R12 J85 J26 HI HO) ?_
        ·intro a9 W9 hsz9 hdf9 hL9 hbs hsl
         obtain ⟨v9, h9, q9⟩ := hsl 4 _ _ rfl rfl
         obtain rfl : v9 = .bool true := q9
         have w79 := slot_getD h9
         clear h9
         refine hKN _ _ ?_
         obtain ⟨T9, df9⟩ := a9
         obtain rfl : df9 = [] := hdf9
         obtain ⟨f, hf, rfl⟩ := spell91 T9 hsz9
         have X9 := fun k v h => (hf k).trans (slot_getD (hbs k v h))
         have x79 := (hf 79).trans w79
         clear hbs hsl hf hsz9 hKN w79
         simp only [X9 14 _ rfl, X9 12 _ rfl, X9 0 _ rfl, X9 1 _ rfl, X9 2 _ rfl, X9 3 _ rfl, X9 4 _ rfl, X9 5 _ rfl, X9 6 _ rfl, X9 7 _ rfl, X9 8 _ rfl, X9 9 _ rfl, X9 10 _ rfl, X9 11 _ rfl, X9 13 _ rfl, X9 15 _ rfl, X9 16 _ rfl, X9 17 _ rfl, X9 18 _ rfl, X9 19 _ rfl, X9 20 _ rfl, X9 21 _ rfl, X9 22 _ rfl, X9 23 _ rfl, X9 24 _ rfl, X9 25 _ rfl, X9 26 _ rfl, X9 27 _ rfl, X9 28 _ rfl, X9 29 _ rfl, X9 30 _ rfl, X9 31 _ rfl, X9 32 _ rfl, X9 33 _ rfl, X9 34 _ rfl, X9 35 _ rfl, X9 36 _ rfl, X9 37 _ rfl, X9 38 _ rfl, X9 39 _ rfl, X9 40 _ rfl, X9 41 _ rfl, X9 42 _ rfl, X9 43 _ rfl, X9 44 _ rfl, X9 45 _ rfl, X9 46 _ rfl, X9 47 _ rfl, X9 48 _ rfl, X9 49 _ rfl, X9 50 _ rfl, X9 51 _ rfl, X9 52 _ rfl, X9 53 _ rfl, X9 54 _ rfl, X9 55 _ rfl, X9 56 _ rfl, X9 57 _ rfl, X9 58 _ rfl, X9 59 _ rfl, X9 60 _ rfl, X9 61 _ rfl, X9 62 _ rfl, X9 63 _ rfl, X9 64 _ rfl, X9 65 _ rfl, X9 66 _ rfl, X9 67 _ rfl, X9 68 _ rfl, X9 69 _ rfl, X9 70 _ rfl, X9 71 _ rfl, X9 72 _ rfl, X9 73 _ rfl, X9 74 _ rfl, X9 80 _ rfl, X9 81 _ rfl, X9 82 _ rfl, X9 83 _ rfl, X9 84 _ rfl, X9 85 _ rfl, X9 86 _ rfl, X9 87 _ rfl, X9 88 _ rfl, X9 89 _ rfl, X9 90 _ rfl, x79]
         clear x79 X9
         replace k8 := k8.later hL9
         replace k12 := k12.later hL9
         replace k13 := k13.later hL9
         replace r8 := r8.later hL9
         replace RB := RB.later hL9
         clear hL9 R8 R12 J85 J26 HI HO hob
         obtain ⟨Y1, rfl⟩ : ∃ z, z = W9 := ⟨_, rfl⟩
         obtain ⟨g7, o7, x, hA, hgl2, hx, hxl, hrg⟩ := (HR.out.later RB.l).at (rp_up hlt hKj)
         cases hA
         obtain ⟨x, hxw, rfl⟩ := row_w hx
         have hrg : Y1.rangeAt g (o + (jj + 1) * 8) [.int .u64 x.a0, .int .u64 x.a1, .int .u64 x.a2, .int .u64 x.a3, .int .u64 x.a4, .int .u64 x.a5, .int .u64 x.a6, .int .u64 x.a7] := hrg
         obtain ⟨hxo, hps⟩ := HX.out (jj + 1) x hxw
         obtain ⟨j2, hj2⟩ : ∃ j2, jj + 1 = j2 := ⟨_, rfl⟩
         obtain ⟨hjn, hj0, hj2i, h18, hj2K, hmeas⟩ := rp_nums hlt hKj hj2 hn
         rw [hj2] at hrg hps r8 m8
         obtain ⟨z, hz⟩ : ∃ z, x.toInt = z := ⟨_, rfl⟩
         have HI : ∀ w, Calls Tryz.prog 49 #[.agg #[.int .u64 x.a0, .int .u64 x.a1, .int .u64 x.a2, .int .u64 x.a3, .int .u64 x.a4, .int .u64 x.a5, .int .u64 x.a6, .int .u64 x.a7]] w (RefPost w z 17) := fun w => by rw [← hz]; exact rIn_any x hxo w
         rw [hz] at hps
         obtain ⟨t2, ht⟩ : ∃ t2, preS zs j2 = t2 := ⟨_, rfl⟩
         rw [ht] at hps r8
         have HPL := rp_plus (z := z) r8 m8 h18
         have R8 : ∀ w', Lat Y1 w' → w'.rangeAt g14 0 [.bool b8, .slice A8 n8 c8] := fun w' hl => (k8.later hl).rangeAll
         have RX : ∀ w', Lat Y1 w' → w'.rangeAt g (o + j2 * 8) [.int .u64 x.a0, .int .u64 x.a1, .int .u64 x.a2, .int .u64 x.a3, .int .u64 x.a4, .int .u64 x.a5, .int .u64 x.a6, .int .u64 x.a7] := fun w' hl => rangeAt_later hrg hgl2 hl
         have J85 : (Tryz.prog.info? 85).map (·.size) = some 2 := by kernel_rfl
         have J26 : (Tryz.prog.info? 26).map (·.size) = some 8 := by kernel_rfl
         have HPS := Lib.hid hps
         have HJ := Lib.hid hj2
         clear hx hxl hxw hz ht hrg hxo hps hgl2 hj2 h18
         go_upto_region 24 with (fail)
         refine wp_region_slotsL (rp24_rows b8 A8 n8 c8 g o q c j2 (18 * j2) x z t2) (rp24_base g14 g o q c j2 _ _ _ _ _ _ _ _ _ _ _ _ _ _ _ _ _ _ _ _ _ _ _ _ _ _ _ _ _ _ _ _ _ _ _ _ _ _ _ _ _ _ _ _ _ _ _ _ _ _ _ _ _ _ _ _ _ _ _ _ _ _ _ _ _ _ _ _ _ _ _ _ _ _ _ _ _ _ _ _ _) 91 7 [[], [], [], [1, 2], [3], [4], [0, 5, 5], [6, 6, 0, 1, 2, 3, 4, 5, 6]] (by kernel_rfl) _ rfl rfl (by kernel_rfl) (by kernel_rfl) (by kernel_rfl) (by kernel_rfl) (by kernel_rfl) (by kernel_rfl) (by rfl) rfl (base_of (base_cons rfl (base_cons rfl (base_cons rfl (base_cons rfl (base_cons rfl (base_cons rfl (base_cons rfl (base_cons rfl (base_cons rfl (base_cons rfl (base_cons rfl (base_cons rfl (base_cons rfl (base_cons rfl (base_cons rfl (base_cons rfl (base_cons rfl (base_cons rfl (base_cons rfl (base_cons rfl (base_cons rfl (base_cons rfl (base_cons rfl (base_cons rfl (base_cons rfl (base_cons rfl (base_cons rfl (base_cons rfl (base_cons rfl (base_cons rfl (base_cons rfl (base_cons rfl (base_cons rfl (base_cons rfl (base_cons rfl (base_cons rfl (base_cons rfl (base_cons rfl (base_cons rfl (base_cons rfl (base_cons rfl (base_cons rfl (base_cons rfl (base_cons rfl (base_cons rfl (base_cons rfl (base_cons rfl (base_cons rfl (base_cons rfl (base_cons rfl (base_cons rfl (base_cons rfl (base_cons rfl (base_cons rfl (base_cons rfl (base_cons rfl (base_cons rfl (base_cons rfl (base_cons rfl (base_cons rfl (base_cons rfl (base_cons rfl (base_cons rfl (base_cons rfl (base_cons rfl (base_cons rfl (base_cons rfl (base_cons rfl (base_cons rfl (base_cons rfl (base_cons rfl (base_cons rfl (base_cons rfl (base_cons rfl (base_cons rfl (base_cons rfl (base_cons rfl (base_cons rfl (base_cons rfl (base_cons rfl (base_cons rfl (base_cons rfl (base_cons rfl (base_cons rfl (base_nil _)))))))))))))))))))))))))))))))))))))))))))))))))))))))))))))))))))))))))))))))))))))) (rp24_steps Y1 b8 A8 n8 c8 (18 * j2) x z t2 g14 g o q c j2 _ _ _ _ _ _ _ _ _ _ _ _ _ _ _ _ _ _ _ _ _ _ _ _ _ _ _ _ _ _ _ _ _ _ _ _ _ _ _ _ _ _ _ _ _ _ _ _ _ _ _ _ _ _ _ _ _ _ _ _ _ _ _ _ _ _ _ _ _ _ _ _ _ _ _ _ _ _ _ _ _ R8 J85 J26 RX hjn hj0 HI HPL) ?_
         ·intro a9 W9 hsz9 hdf9 hL9 hbs hsl
          obtain ⟨v9, h09, qv9⟩ := hsl 6 _ _ rfl rfl
          obtain ⟨b6, A6, n6, c6, rfl, s1, s2⟩ := (show LV (t2 + z) (18 * j2 + 18) v9 W9 from qv9)
          have K9 := k8.later hL9
          refine wp_store_mid 85 (.tmp 14) (.tmp 88) rfl g14 0 #[.bool b6, .slice A6 n6 c6] (hbs 14 _ rfl).ev h09.ev (K9.thereAll _ rfl) (by kernel_rfl) (by simp [Value.oneCell']) ?_
          obtain ⟨T9, df9⟩ := a9
          obtain rfl : df9 = [] := hdf9
          obtain ⟨f, hf, rfl⟩ := spell91 T9 hsz9
          have X9 := fun k v h => (hf k).trans (slot_getD (hbs k v h))
          clear hbs hsl hf hsz9 h09 qv9
          simp only [Act.put, X9 14 _ rfl, X9 1 _ rfl, X9 15 _ rfl, X9 0 _ rfl, X9 2 _ rfl, X9 3 _ rfl, X9 4 _ rfl, X9 5 _ rfl, X9 6 _ rfl, X9 7 _ rfl, X9 8 _ rfl, X9 9 _ rfl, X9 10 _ rfl, X9 11 _ rfl, X9 12 _ rfl, X9 13 _ rfl, X9 16 _ rfl, X9 17 _ rfl, X9 18 _ rfl, X9 19 _ rfl, X9 20 _ rfl, X9 21 _ rfl, X9 22 _ rfl, X9 23 _ rfl, X9 24 _ rfl, X9 25 _ rfl, X9 26 _ rfl, X9 27 _ rfl, X9 28 _ rfl, X9 29 _ rfl, X9 30 _ rfl, X9 31 _ rfl, X9 32 _ rfl, X9 33 _ rfl, X9 34 _ rfl, X9 35 _ rfl, X9 36 _ rfl, X9 37 _ rfl, X9 38 _ rfl, X9 39 _ rfl, X9 40 _ rfl, X9 41 _ rfl, X9 42 _ rfl, X9 43 _ rfl, X9 44 _ rfl, X9 45 _ rfl, X9 46 _ rfl, X9 47 _ rfl, X9 48 _ rfl, X9 49 _ rfl, X9 50 _ rfl, X9 51 _ rfl, X9 52 _ rfl, X9 53 _ rfl, X9 54 _ rfl, X9 55 _ rfl, X9 56 _ rfl, X9 57 _ rfl, X9 58 _ rfl, X9 59 _ rfl, X9 60 _ rfl, X9 61 _ rfl, X9 62 _ rfl, X9 63 _ rfl, X9 64 _ rfl, X9 65 _ rfl, X9 66 _ rfl, X9 67 _ rfl, X9 68 _ rfl, X9 69 _ rfl, X9 70 _ rfl, X9 71 _ rfl, X9 72 _ rfl, X9 73 _ rfl, X9 74 _ rfl, X9 75 _ rfl, X9 76 _ rfl, X9 77 _ rfl, X9 78 _ rfl, X9 79 _ rfl, X9 80 _ rfl, X9 81 _ rfl, X9 89 _ rfl, X9 90 _ rfl]
          clear X9
          refine name_long (Q := fun W => Exit.inBlock _ _ _ _ W) K9 ?_
          intro V7 j8 lp hrg2
          replace RB := (RB.later hL9).keep lp (by omega) (by omega) hb14
          replace k12 := (k12.later hL9).keepP lp (by omega)
          replace k13 := (k13.later hL9).keepP lp (by omega)
          have q8 := hrg2 s1
          clear K9 s1 lp hrg2 hL9 R8 RX J85 J26 HI HPL k8 r8
          clear HJ
          go_wp2
          go_roundw
          case rel => exact j2
          case measure =>
           refine ⟨hj2K, rfl, ?_⟩
           rw [HPS.out]
           cases b6
           ·exact .inl ⟨A6, n6, c6, j8, q8, rp_m s2⟩
           ·exact .inr ⟨A6, n6, c6, j8, q8, rp_m s2⟩
       ·obtain rfl : jj = K := by omega
        have hob : decide (o2 ≤ 0) = false := rp_gt (by omega) ho2
        clear ho2
        go_upto_region 22 with (fail)
        rename_i KN hKN
        refine wp_region_slots (rp22_rows b8 A8 n8 c8 g14 g12 xv v o2 false) (rp22_base b8 A8 n8 c8 g14 g12 xv v o2 false _ _ _ _ _ _ _ _ _ _ _ _ _ _ _ _ _ _ _ _ _ _ _ _ _ _ _ _ _ _ _ _ _ _ _ _ _ _ _ _ _ _ _ _ _ _ _ _ _ _ _ _ _ _ _ _ _ _ _ _ _ _ _ _ _ _ _ _ _ _ _ _ _ _ _ _ _ _ _ _ _ _ _ _) 91 5 [[], [], [1], [0, 2, 2], [3]] (by kernel_rfl) (by kernel_rfl) (by kernel_rfl) (by kernel_rfl) (by kernel_rfl) (by kernel_rfl) (by rfl) rfl (base_of (base_cons rfl (base_cons rfl (base_cons rfl (base_cons rfl (base_cons rfl (base_cons rfl (base_cons rfl (base_cons rfl (base_cons rfl (base_cons rfl (base_cons rfl (base_cons rfl (base_cons rfl (base_cons rfl (base_cons rfl (base_cons rfl (base_cons rfl (base_cons rfl (base_cons rfl (base_cons rfl (base_cons rfl (base_cons rfl (base_cons rfl (base_cons rfl (base_cons rfl (base_cons rfl (base_cons rfl (base_cons rfl (base_cons rfl (base_cons rfl (base_cons rfl (base_cons rfl (base_cons rfl (base_cons rfl (base_cons rfl (base_cons rfl (base_cons rfl (base_cons rfl (base_cons rfl (base_cons rfl (base_cons rfl (base_cons rfl (base_cons rfl (base_cons rfl (base_cons rfl (base_cons rfl (base_cons rfl (base_cons rfl (base_cons rfl (base_cons rfl (base_cons rfl (base_cons rfl (base_cons rfl (base_cons rfl (base_cons rfl (base_cons rfl (base_cons rfl (base_cons rfl (base_cons rfl (base_cons rfl (base_cons rfl (base_cons rfl (base_cons rfl (base_cons rfl (base_cons rfl (base_cons rfl (base_cons rfl (base_cons rfl (base_cons rfl (base_cons rfl (base_cons rfl (base_cons rfl (base_cons rfl (base_cons rfl (base_cons rfl (base_cons rfl (base_cons rfl (base_cons rfl (base_cons rfl (base_cons rfl (base_cons rfl (base_cons rfl (base_cons rfl (base_cons rfl (base_cons rfl (base_cons rfl (base_nil _)))))))))))))))))))))))))))))))))))))))))))))))))))))))))))))))))))))))))))))))))))))))) (rp22_steps wr b8 A8 n8 c8 g14 g12 xv v o2 false _ _ _ _ _ _ _ _ _ _ _ _ _ _ _ _ _ _ _ _ _ _ _ _ _ _ _ _ _ _ _ _ _ _ _ _ _ _ _ _ _ _ _ _ _ _ _ _ _ _ _ _ _ _ _ _ _ _ _ _ _ _ _ _ _ _ _ _ _ _ _ _ _ _ _ _ _ _ _ _ _ _ _ _ hob R8 R12 J85 J26 HI HO) ?_
        ·intro a9 W9 hsz9 hdf9 hL9 hbs hsl
         obtain ⟨v9, h9, q9⟩ := hsl 4 _ _ rfl rfl
         obtain rfl : v9 = .bool false := q9
         have w79 := slot_getD h9
         clear h9
         refine hKN _ _ ?_
         obtain ⟨T9, df9⟩ := a9
         obtain rfl : df9 = [] := hdf9
         obtain ⟨f, hf, rfl⟩ := spell91 T9 hsz9
         have X9 := fun k v h => (hf k).trans (slot_getD (hbs k v h))
         have x79 := (hf 79).trans w79
         clear hbs hsl hf hsz9 hKN w79
         simp only [X9 14 _ rfl, X9 12 _ rfl, X9 0 _ rfl, X9 1 _ rfl, X9 2 _ rfl, X9 3 _ rfl, X9 4 _ rfl, X9 5 _ rfl, X9 6 _ rfl, X9 7 _ rfl, X9 8 _ rfl, X9 9 _ rfl, X9 10 _ rfl, X9 11 _ rfl, X9 13 _ rfl, X9 15 _ rfl, X9 16 _ rfl, X9 17 _ rfl, X9 18 _ rfl, X9 19 _ rfl, X9 20 _ rfl, X9 21 _ rfl, X9 22 _ rfl, X9 23 _ rfl, X9 24 _ rfl, X9 25 _ rfl, X9 26 _ rfl, X9 27 _ rfl, X9 28 _ rfl, X9 29 _ rfl, X9 30 _ rfl, X9 31 _ rfl, X9 32 _ rfl, X9 33 _ rfl, X9 34 _ rfl, X9 35 _ rfl, X9 36 _ rfl, X9 37 _ rfl, X9 38 _ rfl, X9 39 _ rfl, X9 40 _ rfl, X9 41 _ rfl, X9 42 _ rfl, X9 43 _ rfl, X9 44 _ rfl, X9 45 _ rfl, X9 46 _ rfl, X9 47 _ rfl, X9 48 _ rfl, X9 49 _ rfl, X9 50 _ rfl, X9 51 _ rfl, X9 52 _ rfl, X9 53 _ rfl, X9 54 _ rfl, X9 55 _ rfl, X9 56 _ rfl, X9 57 _ rfl, X9 58 _ rfl, X9 59 _ rfl, X9 60 _ rfl, X9 61 _ rfl, X9 62 _ rfl, X9 63 _ rfl, X9 64 _ rfl, X9 65 _ rfl, X9 66 _ rfl, X9 67 _ rfl, X9 68 _ rfl, X9 69 _ rfl, X9 70 _ rfl, X9 71 _ rfl, X9 72 _ rfl, X9 73 _ rfl, X9 74 _ rfl, X9 80 _ rfl, X9 81 _ rfl, X9 82 _ rfl, X9 83 _ rfl, X9 84 _ rfl, X9 85 _ rfl, X9 86 _ rfl, X9 87 _ rfl, X9 88 _ rfl, X9 89 _ rfl, X9 90 _ rfl, x79]
         clear x79 X9
         replace k13 := k13.later hL9
         replace RB := RB.later hL9
         clear hL9 R8 R12 J85 J26 HI HO hob k8 k12 r8
         have y13 := k13.cell 0
         have y5 := RB.k5.cell 0
         have f5 := RB.k5.frozen 0
         have l5 := RB.k5.lt
         go_upto_region 25 with (fail)
         go_region
         go_wp2
         refine name_set (Q := fun W => bodyPost _ _ _ _ _ W.drew) RB.k5 ?_
         intro X9 j5 _ _ lp9
         have y6 := (j5.later (Lat.drew X9)).cell 0
         refine bodyPost_ret (v := .tuple #[.int .i64 jj, .agg #[.int .u64 (t : Nat)], .int .i64 0]) (by simp [results, Tryz.results27, go_sem, y6]) rfl ?_
         exact ⟨rfl, (lp9.narrow RB.l hb5).trans (Lat.drew _)⟩
theorem rpick_big (A : Option Addr) (n c s : Nat) (ws : List W8) (hok : ∀ x ∈ ws, x.ok) (hn : n ≤ 400) (hs0 : ∀ (i : Nat) (x : W8), ws[i]? = some x → 0 ≤ x.toInt) (zs : List Int) (hx0 : ∀ (i : Nat) (x : W8), ws[i]? = some x → x.ok ∧ preS zs (i + 1) = preS zs i + x.toInt) (hbig : P511 ≤ preS zs n) (w : World) (hr : RowM w A 8 n (wRows ws)) : Calls Tryz.prog 27 #[.agg #[.int .u64 s], .slice A n c] w (PickEnd w 0 0 6) :=
 rpick_nn A n c s ws hok hn hs0 zs hx0 _ _ _ (.inl ⟨hbig, rfl, rfl, rfl⟩) w hr
theorem rpick_zero (A : Option Addr) (n c s : Nat) (ws : List W8) (hok : ∀ x ∈ ws, x.ok) (hn : n ≤ 400) (hs0 : ∀ (i : Nat) (x : W8), ws[i]? = some x → 0 ≤ x.toInt) (zs : List Int) (hx0 : ∀ (i : Nat) (x : W8), ws[i]? = some x → x.ok ∧ preS zs (i + 1) = preS zs i + x.toInt) (hft : 0 ≤ preS zs n ∧ preS zs n < P511) (hz : preS zs n = 0) (w : World) (hr : RowM w A 8 n (wRows ws)) : Calls Tryz.prog 27 #[.agg #[.int .u64 s], .slice A n c] w (PickEnd w 0 0 7) :=
 rpick_nn A n c s ws hok hn hs0 zs hx0 _ _ _ (.inr (.inl ⟨hft, hz, rfl, rfl, rfl⟩)) w hr
theorem rpick_err (A : Option Addr) (n c s : Nat) (ws : List W8) (hok : ∀ x ∈ ws, x.ok) (hn : n ≤ 400) (hs0 : ∀ (i : Nat) (x : W8), ws[i]? = some x → 0 ≤ x.toInt) (zs : List Int) (hx0 : ∀ (i : Nat) (x : W8), ws[i]? = some x → x.ok ∧ preS zs (i + 1) = preS zs i + x.toInt) (hft : 0 ≤ preS zs n ∧ preS zs n < P511) (hz : 0 < preS zs n) (t : Nat) (en : Int) (xv : W8) (HW0 : ∀ w, Calls Tryz.prog 14 #[.agg #[.int .u64 s], .agg #[.int .u64 (W8.of (preS zs n)).a0, .int .u64 (W8.of (preS zs n)).a1, .int .u64 (W8.of (preS zs n)).a2, .int .u64 (W8.of (preS zs n)).a3, .int .u64 (W8.of (preS zs n)).a4, .int .u64 (W8.of (preS zs n)).a5, .int .u64 (W8.of (preS zs n)).a6, .int .u64 (W8.of (preS zs n)).a7]] w (WidEnd w xv t en)) (hen : en ≠ 0) (w : World) (hr : RowM w A 8 n (wRows ws)) : Calls Tryz.prog 27 #[.agg #[.int .u64 s], .slice A n c] w (PickEnd w 0 0 en) :=
 rpick_nn A n c s ws hok hn hs0 zs hx0 _ _ _ (.inr (.inr (.inl ⟨hft, hz, xv, t, HW0, hen, rfl, rfl⟩))) w hr
theorem rpick_ok (A : Option Addr) (n c s : Nat) (ws : List W8) (hok : ∀ x ∈ ws, x.ok) (hn : n ≤ 400) (hs0 : ∀ (i : Nat) (x : W8), ws[i]? = some x → 0 ≤ x.toInt) (zs : List Int) (hx0 : ∀ (i : Nat) (x : W8), ws[i]? = some x → x.ok ∧ preS zs (i + 1) = preS zs i + x.toInt) (hft : 0 ≤ preS zs n ∧ preS zs n < P511) (hz : 0 < preS zs n) (t : Nat) (xv : W8) (HW0 : ∀ w, Calls Tryz.prog 14 #[.agg #[.int .u64 s], .agg #[.int .u64 (W8.of (preS zs n)).a0, .int .u64 (W8.of (preS zs n)).a1, .int .u64 (W8.of (preS zs n)).a2, .int .u64 (W8.of (preS zs n)).a3, .int .u64 (W8.of (preS zs n)).a4, .int .u64 (W8.of (preS zs n)).a5, .int .u64 (W8.of (preS zs n)).a6, .int .u64 (W8.of (preS zs n)).a7]] w (WidEnd w xv t 0)) (v : Int) (hxv : xv.ok ∧ xv.toInt = v) (K : Nat) (hk : K < n ∧ preS zs K ≤ v ∧ v < preS zs (K + 1)) (hk2 : ∀ j, j < K → preS zs (j + 1) ≤ v) (w : World) (hr : RowM w A 8 n (wRows ws)) : Calls Tryz.prog 27 #[.agg #[.int .u64 s], .slice A n c] w (PickEnd w K t 0) :=
 rpick_nn A n c s ws hok hn hs0 zs hx0 _ _ _ (.inr (.inr (.inr ⟨hft, hz, rfl, xv, v, K, HW0, hxv, hk, hk2, rfl⟩))) w hr
end Go.Proofs.YtogkkhaepfablaaGreat
