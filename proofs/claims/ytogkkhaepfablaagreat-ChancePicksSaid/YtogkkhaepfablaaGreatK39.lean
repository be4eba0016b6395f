/- Several texts in one: RgJ, RgK, RgL. -/
import Derived.Test.YtogkkhaepfablaaGreatK38
import Derived.Test.YtogkkhaepfablaaGreatK34
import Derived.Test.YtogkkhaepfablaaGreatJ20
import Derived.Test.YtogkkhaepfablaaGreatJ21
import Derived.Test.YtogkkhaepfablaaGreatK30
namespace Go.Proofs.YtogkkhaepfablaaGreat
open Go.RowKit
set_option linter.unusedSimpArgs false
set_option linter.unusedVariables false
theorem rSign_any (x : W8) (hx : x.ok) (w : World) : Calls Tryz.prog 48 #[.agg #[.int .u64 x.a0, .int .u64 x.a1, .int .u64 x.a2, .int .u64 x.a3, .int .u64 x.a4, .int .u64 x.a5, .int .u64 x.a6, .int .u64 x.a7]] w (fun e w' => e = .returned (.int .i64 (ordR x.toInt)) ∧ Lat w w') := by
 have HI := fun w => rIn_any x hx w
 obtain ⟨z, hz⟩ : ∃ z, x.toInt = z := ⟨_, rfl⟩
 rw [hz] at HI ⊢
 clear hz hx
 go_enter Tryz.func48, Tryz.ntmps48
 go_upto_region 1 with (fail)
 refine name1 (Q := fun W => Code.wp _ _ _ _ W) ?_
 intro W hl hs k1
 have d0 := k1.cell 0
 have d1 := k1.cell 1
 have d2 := k1.cell 2
 have d3 := k1.cell 3
 have d4 := k1.cell 4
 have d5 := k1.cell 5
 have d6 := k1.cell 6
 have d7 := k1.cell 7
 go_wp2_with fail
 refine (HI W).mono ?_
 rintro e w1 ⟨b, A, n, c, rfl, r1, r2, l1⟩
 clear d0 d1 d2 d3 d4 d5 d6 d7
 have HO := rOrder_any b A n c z false none 0 0 0 w1 r1 (rg_nil w1) (by omega) (by omega)
 rw [Int.sub_zero] at HO
 go_wp2_with fail
 refine HO.mono ?_
 rintro e w2 ⟨rfl, l2⟩
 go_wp2
 go_ret
 exact ⟨rfl, (hl.trans l1).trans l2⟩
theorem rSub_num {w1 : World} {b : Bool} {A : Option Addr} {n c : Nat} {N : Int} (r1 : Rg w1 b A n c N) (hn : n ≤ 17) : ∀ b2 A2 n2 c2 w, Lat w1 w → Rg w b2 A2 n2 c2 1 → n2 ≤ 2 → Calls Tryz.prog 44 #[.agg #[.bool b, .slice A n c], .agg #[.bool b2, .slice A2 n2 c2]] w (RefPost w (N - 1) 18) := fun b2 A2 n2 c2 w hl h h' =>
 (rMinus_any b A n c N b2 A2 n2 c2 1 w (r1.later hl) h (by omega) (by omega)).mono fun e w' h => h.leD (by omega)
structure RwN (s q : Nat) (v p : Int) : Prop where
 v : val W64 (chWords q s) = v
 p : W64 ^ q = p
theorem RwN.zero (s : Nat) : RwN s 0 0 1 := ⟨rfl, rfl⟩
theorem RwN.succ {s q : Nat} {v p : Int} (h : RwN s q v p) : RwN s (q + 1) (v + (chMix (chStep (chSt q s)) : Int) * p) (p * 18446744073709551616) := by
 obtain ⟨h1, h2⟩ := h
 refine ⟨?_, ?_⟩
 ·rw [chWords_succ, val_append, chWords_length, h1, h2]
  have : val W64 [(chMix (chStep (chSt q s)) : Int)] = (chMix (chStep (chSt q s)) : Int) := by simp [val]
  rw [this, Int.mul_comm]
 ·rw [Int.pow_succ, h2]; rfl
end Go.Proofs.YtogkkhaepfablaaGreat
namespace Go.Proofs.YtogkkhaepfablaaGreat
open Go.RowKit
set_option linter.unusedSimpArgs false
set_option linter.unusedVariables false
theorem spell86 (T : Array Value) (h : T.size = 86) : ∃ f : Nat → Value, (∀ k, f k = T.getD k undef) ∧ T = #[f 0, f 1, f 2, f 3, f 4, f 5, f 6, f 7, f 8, f 9, f 10, f 11, f 12, f 13, f 14, f 15, f 16, f 17, f 18, f 19, f 20, f 21, f 22, f 23, f 24, f 25, f 26, f 27, f 28, f 29, f 30, f 31, f 32, f 33, f 34, f 35, f 36, f 37, f 38, f 39, f 40, f 41, f 42, f 43, f 44, f 45, f 46, f 47, f 48, f 49, f 50, f 51, f 52, f 53, f 54, f 55, f 56, f 57, f 58, f 59, f 60, f 61, f 62, f 63, f 64, f 65, f 66, f 67, f 68, f 69, f 70, f 71, f 72, f 73, f 74, f 75, f 76, f 77, f 78, f 79, f 80, f 81, f 82, f 83, f 84, f 85] := ⟨fun k => T.getD k undef, fun _ => rfl, (spell 86 T h).trans (by kernel_rfl)⟩
noncomputable def rw4_rows (b7 : Bool) (A7 : Option Addr) (n7 c7 k g2 g3 g4 g5 g7 : Nat) (N : Int) : List SRow := [
 ⟨Op.load 85 (Operand.tmp 7), some 28, none, [], fun v _ => v = .agg #[.bool b7, .slice A7 n7 c7]⟩,
 ⟨Op.call { callee := Callee.value (Operand.func 38), args := #[Operand.const (Value.int IntKind.i64 1)], argTypes := #[3] }, some 29, none, [], LV 1 2⟩,
 ⟨Op.call { callee := Callee.value (Operand.func 44), args := #[Operand.tmp 28, Operand.tmp 29], argTypes := #[85, 85] }, some 30, none, [0, 1, 1], LV (N - 1) 18⟩,
 ⟨Op.call { callee := Callee.value (Operand.func 50), args := #[Operand.tmp 30], argTypes := #[85] }, some 31, none, [2, 2], fun v _ => v = .int .i64 (k : Nat)⟩,
 ⟨Op.assign (Operand.tmp 31), some 8, none, [3, 3, 0, 1, 2, 3], fun v _ => v = .int .i64 (k : Nat)⟩]
noncomputable def rw4_base (b7 : Bool) (A7 : Option Addr) (n7 c7 k g2 g3 g4 g5 g7 : Nat) (N : Int) : List (Nat × Value) := [(2, .pointer (some ⟨g2, 0, none⟩)), (4, .pointer (some ⟨g4, 0, none⟩)), (5, .pointer (some ⟨g5, 0, none⟩)), (7, .pointer (some ⟨g7, 0, none⟩))]
set_option maxRecDepth 100000 in
set_option maxHeartbeats 4000000 in
theorem rw4_steps (V : World) (b7 : Bool) (A7 : Option Addr) (n7 c7 k g2 g3 g4 g5 g7 : Nat) (N : Int) (R7 : ∀ w', Lat V w' → w'.rangeAt g7 0 [.bool b7, .slice A7 n7 c7]) (J85 : (Tryz.prog.info? 85).map (·.size) = some 2) (HL1 : ∀ w, Calls Tryz.prog 38 #[.int .i64 1] w (RefPost w 1 2))
  (HSB : ∀ b2 A2 n2 c2 w, Lat V w → Rg w b2 A2 n2 c2 1 → n2 ≤ 2 → Calls Tryz.prog 44 #[.agg #[.bool b7, .slice A7 n7 c7], .agg #[.bool b2, .slice A2 n2 c2]] w (RefPost w (N - 1) 18))
  (HD : ∀ b A n c w, Rg w b A n c (N - 1) → n ≤ 18 → Calls Tryz.prog 50 #[.agg #[.bool b, .slice A n c]] w (fun e w' => e = .returned (.int .i64 (k : Nat)) ∧ Lat w w')) :
  AllSteps Tryz.prog (rw4_rows b7 A7 n7 c7 k g2 g3 g4 g5 g7 N) (rw4_base b7 A7 n7 c7 k g2 g3 g4 g5 g7 N) V (rw4_rows b7 A7 n7 c7 k g2 g3 g4 g5 g7 N) := by
 refine AllSteps.next (fun _ _ _ h _ => h) (fun j b h => by cases h) (fun a w hl hb hd o ho => by have e1 := hb 7 _ rfl; exact Runs.val (yv_load (S := Lat V) e1 R7 Tryz.underlying85 rfl J85 o w ho hl) ⟨Lat.refl _, fun _ => rfl⟩) ?_
 refine AllSteps.next (fun _ _ _ h hl => h.mono hl) (fun j b h => by cases h) (fun a w hl hb hd o ho => by exact Runs.call (yv_call (f := 38) (fun _ => by go_simp) o ho (by simp only [List.map_toArray, List.map_cons, List.map_nil, eval_const])) ((HL1 w).mono fun e w' h => h.run)) ?_
 refine AllSteps.next (fun _ _ _ h hl => h.mono hl) (fun j b h => by cases h) (fun a w hl hb hd o ho => by obtain ⟨v1, e1, q1⟩ := hd 0 _ _ (by simp) rfl rfl; subst q1; obtain ⟨v2, e2, q2⟩ := hd 1 _ _ (by simp) rfl rfl; obtain ⟨b2, A2, n2, c2, rfl, r2, m2⟩ := (show LV 1 2 v2 w from q2); exact Runs.call (yv_call (f := 44) (fun _ => by go_simp) o ho (by simp only [List.map_toArray, List.map_cons, List.map_nil, eval_const, e1, e2])) ((HSB b2 A2 n2 c2 w hl r2 m2).mono fun e w' h => h.run)) ?_
 refine AllSteps.next (fun _ _ _ h _ => h) (fun j b h => by cases h) (fun a w hl hb hd o ho => by obtain ⟨v1, e1, q1⟩ := hd 2 _ _ (by simp) rfl rfl; obtain ⟨b1, A1, n1, c1, rfl, r1, m1⟩ := (show LV (N - 1) 18 v1 w from q1); exact Runs.call (yv_call (f := 50) (fun _ => by go_simp) o ho (by simp only [List.map_toArray, List.map_cons, List.map_nil, eval_const, e1])) ((HD b1 A1 n1 c1 w r1 m1).mono fun e w' h => ⟨_, h.1, h.2, fun _ => rfl⟩)) ?_
 refine AllSteps.next (fun _ _ _ h _ => h) (fun j b h => by cases h) (fun a w hl hb hd o ho => by obtain ⟨v1, e1, q1⟩ := hd 3 _ _ (by simp) rfl rfl; subst q1; exact Runs.val (yv_assignS (S := fun _ => True) e1 o w ho trivial) ⟨Lat.refl _, fun _ => rfl⟩) ?_
 exact AllSteps.none
noncomputable def rw18_rows (A12 A13 : Option Addr) (n12 c12 n13 c13 q x : Nat) (v p : Int) : List SRow := [
 ⟨Op.load 85 (Operand.tmp 12), some 58, none, [], fun v _ => v = .agg #[.bool false, .slice A12 n12 c12]⟩,
 ⟨Op.move (Operand.tmp 15), some 59, none, [], fun v _ => v = .int .u64 (x : Nat)⟩,
 ⟨Op.call { callee := Callee.value (Operand.func 42), args := #[Operand.tmp 59], argTypes := #[22] }, some 60, none, [1], LN (x : Int) 17⟩,
 ⟨Op.load 85 (Operand.tmp 13), some 61, none, [], fun v _ => v = .agg #[.bool false, .slice A13 n13 c13]⟩,
 ⟨Op.call { callee := Callee.value (Operand.func 39), args := #[Operand.tmp 60, Operand.tmp 61], argTypes := #[85, 85] }, some 62, none, [2, 3, 2], LN ((x : Int) * p) (19 + 130 * q)⟩,
 ⟨Op.call { callee := Callee.value (Operand.func 43), args := #[Operand.tmp 58, Operand.tmp 62], argTypes := #[85, 85] }, some 63, none, [0, 4, 4], LN (v + (x : Int) * p) (22 + 131 * q)⟩]
noncomputable def rw18_base (g12 g13 x : Nat) (v0 v1 v2 v3 v4 v5 v6 v7 v8 v9 v10 v11 v14 v16 v17 v18 v19 v20 v21 v22 v23 v24 v25 v26 v27 v28 v29 v30 v31 v32 v33 v34 v35 v36 v37 v38 v39 v40 v41 v42 v43 v44 v45 v46 v47 v48 v49 v50 v51 v52 v53 v54 v55 v56 v57 v64 v65 v66 v67 v68 v69 v70 v71 v72 v73 v74 v75 v76 v77 v78 v79 v80 v81 v82 v83 v84 v85 : Value) : List (Nat × Value) := [(12, .pointer (some ⟨g12, 0, none⟩)), (13, .pointer (some ⟨g13, 0, none⟩)), (15, .int .u64 (x : Nat)), (0, v0), (1, v1), (2, v2), (3, v3), (4, v4), (5, v5), (6, v6), (7, v7), (8, v8), (9, v9), (10, v10), (11, v11), (14, v14), (16, v16), (17, v17), (18, v18), (19, v19), (20, v20), (21, v21), (22, v22), (23, v23), (24, v24), (25, v25), (26, v26), (27, v27), (28, v28), (29, v29), (30, v30), (31, v31), (32, v32), (33, v33), (34, v34), (35, v35), (36, v36), (37, v37), (38, v38), (39, v39), (40, v40), (41, v41), (42, v42), (43, v43), (44, v44), (45, v45), (46, v46), (47, v47), (48, v48), (49, v49), (50, v50), (51, v51), (52, v52), (53, v53), (54, v54), (55, v55), (56, v56), (57, v57), (64, v64), (65, v65), (66, v66), (67, v67), (68, v68), (69, v69), (70, v70), (71, v71), (72, v72), (73, v73), (74, v74), (75, v75), (76, v76), (77, v77), (78, v78), (79, v79), (80, v80), (81, v81), (82, v82), (83, v83), (84, v84), (85, v85)]
set_option maxRecDepth 100000 in
set_option maxHeartbeats 4000000 in
theorem rw18_steps (V : World) (A12 A13 : Option Addr) (n12 c12 n13 c13 q : Nat) (v p : Int) (g12 g13 x : Nat) (v0 v1 v2 v3 v4 v5 v6 v7 v8 v9 v10 v11 v14 v16 v17 v18 v19 v20 v21 v22 v23 v24 v25 v26 v27 v28 v29 v30 v31 v32 v33 v34 v35 v36 v37 v38 v39 v40 v41 v42 v43 v44 v45 v46 v47 v48 v49 v50 v51 v52 v53 v54 v55 v56 v57 v64 v65 v66 v67 v68 v69 v70 v71 v72 v73 v74 v75 v76 v77 v78 v79 v80 v81 v82 v83 v84 v85 : Value) (R12 : ∀ w', Lat V w' → w'.rangeAt g12 0 [.bool false, .slice A12 n12 c12]) (R13 : ∀ w', Lat V w' → w'.rangeAt g13 0 [.bool false, .slice A13 n13 c13]) (J85 : (Tryz.prog.info? 85).map (·.size) = some 2)
  (HW : ∀ w, Calls Tryz.prog 42 #[.int .u64 (x : Nat)] w (RefN w x 17))
  (HTM : ∀ A1 n1 c1 w, Lat V w → Rg w false A1 n1 c1 (x : Int) → n1 ≤ 17 → Calls Tryz.prog 39 #[.agg #[.bool false, .slice A1 n1 c1], .agg #[.bool false, .slice A13 n13 c13]] w (RefN w ((x : Int) * p) (19 + 130 * q)))
  (HPL : ∀ A1 n1 c1 w, Lat V w → Rg w false A1 n1 c1 ((x : Int) * p) → n1 ≤ 19 + 130 * q → Calls Tryz.prog 43 #[.agg #[.bool false, .slice A12 n12 c12], .agg #[.bool false, .slice A1 n1 c1]] w (RefN w (v + (x : Int) * p) (22 + 131 * q))) :
  AllSteps Tryz.prog (rw18_rows A12 A13 n12 c12 n13 c13 q x v p) (rw18_base g12 g13 x v0 v1 v2 v3 v4 v5 v6 v7 v8 v9 v10 v11 v14 v16 v17 v18 v19 v20 v21 v22 v23 v24 v25 v26 v27 v28 v29 v30 v31 v32 v33 v34 v35 v36 v37 v38 v39 v40 v41 v42 v43 v44 v45 v46 v47 v48 v49 v50 v51 v52 v53 v54 v55 v56 v57 v64 v65 v66 v67 v68 v69 v70 v71 v72 v73 v74 v75 v76 v77 v78 v79 v80 v81 v82 v83 v84 v85) V (rw18_rows A12 A13 n12 c12 n13 c13 q x v p) := by
 refine AllSteps.next (fun _ _ _ h _ => h) (fun j b h => by cases h) (fun a w hl hb hd o ho => by have e1 := hb 12 _ rfl; exact Runs.val (yv_load (S := Lat V) e1 R12 Tryz.underlying85 rfl J85 o w ho hl) ⟨Lat.refl _, fun _ => rfl⟩) ?_
 refine AllSteps.next (fun _ _ _ h _ => h) (fun j b h => by cases h) (fun a w hl hb hd o ho => by have e1 := hb 15 _ rfl; exact Runs.val (yv_move (S := fun _ => True) e1 o w ho trivial) ⟨Lat.refl _, fun _ => rfl⟩) ?_
 refine AllSteps.next (fun _ _ _ h hl => h.mono hl) (fun j b h => by cases h) (fun a w hl hb hd o ho => by obtain ⟨v1, e1, q1⟩ := hd 1 _ _ (by simp) rfl rfl; subst q1; exact Runs.call (yv_call (f := 42) (fun _ => by go_simp) o ho (by simp only [List.map_toArray, List.map_cons, List.map_nil, eval_const, e1])) ((HW w).mono fun e w' h => h.run)) ?_
 refine AllSteps.next (fun _ _ _ h _ => h) (fun j b h => by cases h) (fun a w hl hb hd o ho => by have e1 := hb 13 _ rfl; exact Runs.val (yv_load (S := Lat V) e1 R13 Tryz.underlying85 rfl J85 o w ho hl) ⟨Lat.refl _, fun _ => rfl⟩) ?_
 refine AllSteps.next (fun _ _ _ h hl => h.mono hl) (fun j b h => by cases h) (fun a w hl hb hd o ho => by obtain ⟨v1, e1, q1⟩ := hd 2 _ _ (by simp) rfl rfl; obtain ⟨A1, n1, c1, rfl, r1, m1⟩ := (show LN (x : Int) 17 v1 w from q1); obtain ⟨v2, e2, q2⟩ := hd 3 _ _ (by simp) rfl rfl; subst q2; exact Runs.call (yv_call (f := 39) (fun _ => by go_simp) o ho (by simp only [List.map_toArray, List.map_cons, List.map_nil, eval_const, e1, e2])) ((HTM A1 n1 c1 w hl r1 m1).mono fun e w' h => h.run)) ?_
 refine AllSteps.next (fun _ _ _ h hl => h.mono hl) (fun j b h => by cases h) (fun a w hl hb hd o ho => by obtain ⟨v1, e1, q1⟩ := hd 0 _ _ (by simp) rfl rfl; subst q1; obtain ⟨v2, e2, q2⟩ := hd 4 _ _ (by simp) rfl rfl; obtain ⟨A2, n2, c2, rfl, r2, m2⟩ := (show LN ((x : Int) * p) (19 + 130 * q) v2 w from q2); exact Runs.call (yv_call (f := 43) (fun _ => by go_simp) o ho (by simp only [List.map_toArray, List.map_cons, List.map_nil, eval_const, e1, e2])) ((HPL A2 n2 c2 w hl r2 m2).mono fun e w' h => h.run)) ?_
 exact AllSteps.none
structure RwG (w : World) (g2 g3 g4 g5 g7 g9 g10 : Nat) : Prop where
 a : w.heap.size ≤ g2
 b : g2 < g3
 c : g3 < g4
 d : g4 < g5
 e : g5 < g7
 f : g7 < g9
 g : g9 < g10
structure RwB (w0 : World) (g2 g4 g5 g7 g9 g10 : Nat) (b7 : Bool) (A7 A9 A10 : Option Addr) (n7 c7 n9 c9 n10 c10 : Nat) (N pk : Int) (t : Nat) (W : World) : Prop where
 k2 : Blk W g2 24 #[.int .u64 (t : Nat)]
 k4 : Blk W g4 26 #[.int .u64 W8.zero.a0, .int .u64 W8.zero.a1, .int .u64 W8.zero.a2, .int .u64 W8.zero.a3, .int .u64 W8.zero.a4, .int .u64 W8.zero.a5, .int .u64 W8.zero.a6, .int .u64 W8.zero.a7]
 k5 : Blk W g5 24 #[.int .u64 0]
 k7 : Blk W g7 85 #[.bool b7, .slice A7 n7 c7]
 k9 : Blk W g9 85 #[.bool false, .slice A9 n9 c9]
 k10 : Blk W g10 85 #[.bool false, .slice A10 n10 c10]
 r7 : Rg W b7 A7 n7 c7 N
 r9 : Rg W false A9 n9 c9 18446744073709551616
 r10 : Rg W false A10 n10 c10 pk
 l : Lat w0 W
section
variable {w0 W W' : World} {g2 g3 g4 g5 g7 g9 g10 : Nat} {b7 : Bool} {A7 A9 A10 : Option Addr} {n7 c7 n9 c9 n10 c10 : Nat} {N pk : Int} {t t' : Nat}
theorem RwB.later (h : RwB w0 g2 g4 g5 g7 g9 g10 b7 A7 A9 A10 n7 c7 n9 c9 n10 c10 N pk t W) (hl : Lat W W') : RwB w0 g2 g4 g5 g7 g9 g10 b7 A7 A9 A10 n7 c7 n9 c9 n10 c10 N pk t W' :=
 ⟨h.k2.later hl, h.k4.later hl, h.k5.later hl, h.k7.later hl, h.k9.later hl, h.k10.later hl, h.r7.later hl, h.r9.later hl, h.r10.later hl, h.l.trans hl⟩
theorem RwB.keepL (h : RwB w0 g2 g4 g5 g7 g9 g10 b7 A7 A9 A10 n7 c7 n9 c9 n10 c10 N pk t W) (hg : RwG w0 g2 g3 g4 g5 g7 g9 g10) {g : Nat} (hgg : g10 < g) (lp : LatP (· = g) W W') (hr : ∀ {b A n c z}, Rg W b A n c z → Rg W' b A n c z) :
  RwB w0 g2 g4 g5 g7 g9 g10 b7 A7 A9 A10 n7 c7 n9 c9 n10 c10 N pk t W' := by
 obtain ⟨h1, h2, h3, h4, h5, h6, h7⟩ := hg
 exact ⟨h.k2.keepP lp (by omega), h.k4.keepP lp (by omega), h.k5.keepP lp (by omega), h.k7.keepP lp (by omega), h.k9.keepP lp (by omega), h.k10.keepP lp (by omega), hr h.r7, hr h.r9, hr h.r10, lp.narrow h.l (by omega)⟩
theorem Rg.keepC {b : Bool} {A : Option Addr} {n c g : Nat} {z : Int} (h : Rg W b A n c z) (hb : Blk W g 24 #[.int .u64 (t : Nat)]) (lp : LatP (· = g) W W') : Rg W' b A n c z := by
 have ha := h.apart hb (no_i64u _)
 obtain ⟨hn, xs, hs, r⟩ := h
 refine ⟨hn, xs, ⟨hs.1, fun hp => ?_⟩, r⟩
 obtain ⟨a, e, hlt, hc⟩ := hs.2 hp
 refine ⟨a, e, Nat.lt_of_lt_of_le hlt lp.size, fun j x hx => ?_⟩
 rw [← hc j x hx]
 exact World.cell?_of_block (by rw [block_add]; exact lp.block _ hlt (ha hp a e))
theorem RwB.setC (h : RwB w0 g2 g4 g5 g7 g9 g10 b7 A7 A9 A10 n7 c7 n9 c9 n10 c10 N pk t W) (hg : RwG w0 g2 g3 g4 g5 g7 g9 g10) (hk : Blk W' g2 24 #[.int .u64 (t' : Nat)]) (lp : LatP (· = g2) W W') :
  RwB w0 g2 g4 g5 g7 g9 g10 b7 A7 A9 A10 n7 c7 n9 c9 n10 c10 N pk t' W' := by
 obtain ⟨h1, h2, h3, h4, h5, h6, h7⟩ := hg
 exact ⟨hk, h.k4.keepP lp (by omega), h.k5.keepP lp (by omega), h.k7.keepP lp (by omega), h.k9.keepP lp (by omega), h.k10.keepP lp (by omega), h.r7.keepC h.k2 lp, h.r9.keepC h.k2 lp, h.r10.keepC h.k2 lp, lp.narrow h.l h1⟩
end
theorem chDraw_lt (k s : Nat) (h : s < 18446744073709551616) : (chDraw k s).2 < 18446744073709551616 := chSt_lt _ s h
theorem chAfter_lt (k : Nat) {s : Nat} (hs : s < 18446744073709551616) : ∀ j, chAfter (chDraw k) j s < 18446744073709551616
 | 0 => hs
 | j + 1 => chDraw_lt k _ (chAfter_lt k hs j)
theorem RwG.two {w : World} {g2 g3 g4 g5 g7 g9 g10 : Nat} (h : RwG w g2 g3 g4 g5 g7 g9 g10) : g2 < g10 := by obtain ⟨h1, h2, h3, h4, h5, h6, h7⟩ := h; omega
theorem RwN.nonneg {s q : Nat} {v p : Int} (h : RwN s q v p) : 0 ≤ v ∧ 0 ≤ p := by
 refine ⟨?_, ?_⟩
 ·rw [← h.v]; exact val_nonneg W64_pos (chWords_in q s)
 ·rw [← h.p]; exact Int.le_of_lt (Int.pow_pos W64_pos)
theorem rw_next {si q : Nat} {v p : Int} (hv : RwN si q v p) (hs : si < 18446744073709551616) : ∃ x t0 t1 : Nat, RwN si (q + 1) (v + (x : Int) * p) (p * 18446744073709551616) ∧ x < 18446744073709551616 ∧ (0 : Int) ≤ (x : Int) ∧ RxC t0 x t1 ∧ chSt q si = t0 ∧ chSt (q + 1) si = t1 :=
 ⟨_, _, _, hv.succ, chMix_lt _, Int.natCast_nonneg _, rxC _ (chSt_lt q si hs), rfl, rfl⟩
theorem rw_words {x : Nat} (hx : x < 18446744073709551616) : ∀ w, Calls Tryz.prog 42 #[.int .u64 (x : Nat)] w (RefN w x 17) := fun w => (words64_any x hx w).mono fun e w' h => h.nonneg (Int.natCast_nonneg _)
theorem rw_times {V : World} {A13 : Option Addr} {n13 c13 q x : Nat} {p : Int} (r13 : Rg V false A13 n13 c13 p) (m13 : n13 ≤ 2 + 130 * q) (hp : 0 ≤ p) (hq : q < 8) : ∀ A1 n1 c1 w, Lat V w → Rg w false A1 n1 c1 (x : Int) → n1 ≤ 17 → Calls Tryz.prog 39 #[.agg #[.bool false, .slice A1 n1 c1], .agg #[.bool false, .slice A13 n13 c13]] w (RefN w ((x : Int) * p) (19 + 130 * q)) := fun A1 n1 c1 w hl h h' =>
 (rTimes_any false A1 n1 c1 x false A13 n13 c13 p w h (r13.later hl) (by omega) (by omega)).mono fun e w' h => (h.leD (by omega)).nonneg (Int.mul_nonneg (Int.natCast_nonneg _) hp)
theorem rw_plus {V : World} {A12 : Option Addr} {n12 c12 q x : Nat} {v p : Int} (r12 : Rg V false A12 n12 c12 v) (m12 : n12 ≤ 21 + 131 * q) (hv : 0 ≤ v) (hp : 0 ≤ p) (hq : q < 8) : ∀ A1 n1 c1 w, Lat V w → Rg w false A1 n1 c1 ((x : Int) * p) → n1 ≤ 19 + 130 * q → Calls Tryz.prog 43 #[.agg #[.bool false, .slice A12 n12 c12], .agg #[.bool false, .slice A1 n1 c1]] w (RefN w (v + (x : Int) * p) (22 + 131 * q)) := fun A1 n1 c1 w hl h h' =>
 (rPlus_any false A12 n12 c12 v false A1 n1 c1 _ w (r12.later hl) h (by omega) (by omega)).mono fun e w' h => (h.leD (by omega)).nonneg (Int.add_nonneg hv (Int.mul_nonneg (Int.natCast_nonneg _) hp))
theorem rw_unit {V : World} {A A9 : Option Addr} {n c n9 c9 q : Nat} {p : Int} (r : Rg V false A n c p) (m : n ≤ 2 + 130 * q) (r9 : Rg V false A9 n9 c9 18446744073709551616) (m9 : n9 ≤ 130) (hp : 0 ≤ p) (hq : q < 8) : Calls Tryz.prog 39 #[.agg #[.bool false, .slice A n c], .agg #[.bool false, .slice A9 n9 c9]] V (RefN V (p * 18446744073709551616) (2 + 130 * (q + 1))) :=
 (rTimes_any false A n c p false A9 n9 c9 18446744073709551616 V r r9 (by omega) (by omega)).mono fun e w' h => (h.leD (by omega)).nonneg (Int.mul_nonneg hp (by decide))
theorem rw_raise64 : ∀ A1 n1 c1 w, Rg w false A1 n1 c1 2 → n1 ≤ 2 → Calls Tryz.prog 37 #[.agg #[.bool false, .slice A1 n1 c1], .int .i64 64] w (RefN w 18446744073709551616 130) := fun A1 n1 c1 w h h' => by
 have := rRaised_any false A1 n1 c1 2 64 w h h' (by decide)
 have hp : (2 : Int) ^ 64 = 18446744073709551616 := by decide
 rw [hp] at this
 exact this.mono fun e w' h => (h.leD (by omega)).nonneg (by decide)
theorem rw_bnd1 {n q : Nat} (h : n ≤ 22 + 131 * q) : n ≤ 21 + 131 * (q + 1) := by omega
theorem rw_int {Q0 : Nat} (h : wrap64 ((Q0 : Int) + 64) = (Q0 : Int) + 64) : Value.int .i64 (wrap64 ((Q0 : Int) + 64)) = .int .i64 ((Q0 + 64 : Nat) : Int) := by rw [h]; rfl
theorem rw_meas {Q0 k : Nat} (h : wrap64 ((Q0 : Int) + 64) = (Q0 : Int) + 64) (hk : (Q0 : Int) < (k : Int)) : k + 64 - (intOf (.int .i64 (wrap64 ((Q0 : Int) + 64)))).toNat < k + 64 - (intOf (.int .i64 (Q0 : Nat))).toNat := by
 rw [h]
 simp only [intOf]
 omega
theorem rw_quot {k : Nat} (hk : k ≤ 511) : ∃ M, (k + 63) / 64 = M ∧ (∀ q Q0 : Nat, Q0 = 64 * q → q < M → ((Q0 : Nat) : Int) < (k : Int) ∧ q < 8 ∧ wrap64 ((Q0 : Int) + 64) = (Q0 : Int) + 64) ∧ (∀ q Q0 : Nat, Q0 = 64 * q → ¬ q < M → ¬ ((Q0 : Nat) : Int) < (k : Int)) ∧ M ≤ 8 :=
 ⟨_, rfl, fun q Q0 h1 h2 => ⟨by omega, by omega, IntWalk.wrap64_in _ (by omega)⟩, fun q Q0 h1 h2 => by omega, by omega⟩
theorem RwG.five {w : World} {g2 g3 g4 g5 g7 g9 g10 : Nat} (h : RwG w g2 g3 g4 g5 g7 g9 g10) : g2 < g4 ∧ g4 < g5 ∧ g5 < g10 ∧ w.heap.size ≤ g4 := by obtain ⟨h1, h2, h3, h4, h5, h6, h7⟩ := h; omega
theorem rw_done {si q k M : Nat} {v p pk : Int} (hv : RwN si q v p) (hM : (k + 63) / 64 = M) (hpk : (2 : Int) ^ k = pk) (h8 : M ≤ 8) (hq : q ≤ M) (hqM : ¬ q < M) : pk ≠ 0 ∧ v % pk = chNum k si ∧ chSt q si = (chDraw k si).2 := by
 have e : q = M := by omega
 subst e
 refine ⟨?_, ?_, ?_⟩
 ·have := pow_pos2 k; rw [hpk] at this; omega
 ·unfold chNum; rw [hM, hv.v, hpk]
 ·unfold chDraw; rw [hM]
theorem rw_parts {V : World} {A12 A10 : Option Addr} {n12 c12 n10 c10 q M : Nat} {v pk : Int} (r12 : Rg V false A12 n12 c12 v) (m12 : n12 ≤ 21 + 131 * q) (hv : 0 ≤ v) (r10 : Rg V false A10 n10 c10 pk) (m10 : n10 ≤ 1100) (hpk : pk ≠ 0) (hq : q ≤ M) (h8 : M ≤ 8) :
  Calls Tryz.prog 36 #[.agg #[.bool false, .slice A12 n12 c12], .agg #[.bool false, .slice A10 n10 c10]] V (RPartsPost V (v / pk) (v % pk) (n12 + 1) n10) := rParts_any false A12 n12 c12 v false A10 n10 c10 pk V r12 r10 hpk (.inl hv) (by omega) (by omega)
theorem rw_order {V : World} {br b7 : Bool} {Ar A7 : Option Addr} {nr cr n7 c7 n10 : Nat} {z N : Int} (h : Rg V br Ar nr cr z) (hn : nr ≤ n10) (h7 : Rg V b7 A7 n7 c7 N) (m7 : n7 ≤ 17) (m10 : n10 ≤ 1100) :
  Calls Tryz.prog 41 #[.agg #[.bool br, .slice Ar nr cr], .agg #[.bool b7, .slice A7 n7 c7]] V (fun e w' => e = .returned (.int .i64 (ordR (z - N))) ∧ Lat V w') := rOrder_any br Ar nr cr z b7 A7 n7 c7 N V h h7 (by omega) (by omega)
theorem rw_fits {z N : Int} {k si : Nat} (h : z = chNum k si) (hlt : z < N) (hN : N < P511) : 0 ≤ z ∧ z < P511 := by
 have := Int.emod_nonneg (val W64 (chWords ((k + 63) / 64) si)) (Int.ne_of_gt (pow_pos2 k))
 have h0 : 0 ≤ chNum k si := this
 omega
theorem rw_out {V : World} {br : Bool} {Ar : Option Addr} {nr cr n10 : Nat} {z : Int} (h : Rg V br Ar nr cr z) (hn : nr ≤ n10) (m10 : n10 ≤ 1100) (h0 : 0 ≤ z) (h1 : z < P511) :
  Calls Tryz.prog 46 #[.agg #[.bool br, .slice Ar nr cr]] V (fun e w' => e = .returned (.tuple #[.agg #[.int .u64 (W8.of z).a0, .int .u64 (W8.of z).a1, .int .u64 (W8.of z).a2, .int .u64 (W8.of z).a3, .int .u64 (W8.of z).a4, .int .u64 (W8.of z).a5, .int .u64 (W8.of z).a6, .int .u64 (W8.of z).a7], .int .i64 0]) ∧ Lat V w') := by
 refine (rOut_any br Ar nr cr z V h (by omega)).mono ?_
 rintro e w' ⟨u, r, rfl, hu, hl⟩
 rcases hu with ⟨_, _, rfl, rfl⟩ | ⟨hu, _⟩
 ·exact ⟨rfl, hl⟩
 ·have := P511_pos; omega
theorem rw_take {s si k j : Nat} {z N : Int} (hsi : chAfter (chDraw k) j s = si) (hj : j < 200) (hno : chNone (chDraw k) (fun x => decide (x < N)) j s) (hz : z = chNum k si) (hlt : z < N) : chTry (chDraw k) (fun x => decide (x < N)) 200 s = some (z, (chDraw k si).2) := by
 have h := chTry_take (draw := chDraw k) (ok := fun x => decide (x < N)) hj hno (by rw [hsi]; exact decide_eq_true (by show chNum k si < N; omega))
 rw [hsi] at h
 rw [h, hz]; rfl
theorem rw_none {s si k j : Nat} {z N : Int} (hsi : chAfter (chDraw k) j s = si) (hno : chNone (chDraw k) (fun x => decide (x < N)) j s) (hz : z = chNum k si) (hlt : ¬ z < N) : chNone (chDraw k) (fun x => decide (x < N)) (j + 1) s ∧ chAfter (chDraw k) (j + 1) s = (chDraw k si).2 := by
 refine ⟨fun i hi => ?_, by rw [chAfter, hsi]⟩
 by_cases h : i < j
 ·exact hno i h
 ·obtain rfl : i = j := by omega
  rw [hsi]
  exact decide_eq_false (by show ¬ chNum k si < N; omega)
set_option maxRecDepth 100000 in
set_option maxHeartbeats 4000000 in
theorem rWide_in (s : Nat) (n : W8) (N : Int) (hN : n.toInt = N) (hn : n.ok) (h1 : 1 ≤ N) (h2 : N < P511) (k m : Nat) (hk : blen (N - 1) = k) (hk0 : k ≠ 0) (hs : s < 18446744073709551616) (w : World) :
  Calls Tryz.prog 14 #[.agg #[.int .u64 (s : Nat)], .agg #[.int .u64 n.a0, .int .u64 n.a1, .int .u64 n.a2, .int .u64 n.a3, .int .u64 n.a4, .int .u64 n.a5, .int .u64 n.a6, .int .u64 n.a7]] w (WidEnd w (W8.of (optI (chTry (chDraw k) (fun x => decide (x < N)) 200 s))) (optT 0 (chTry (chDraw k) (fun x => decide (x < N)) 200 s)) (optE (chTry (chDraw k) (fun x => decide (x < N)) 200 s))) := by
 have HSG := Lib.hid (fun w => rSign_any n hn w)
 have HI := Lib.hid (fun w => rIn_any n hn w)
 rw [hN] at HSG HI
 have hsg : ¬ ordR N < 1 := by unfold ordR; rw [if_neg (by omega), if_neg (by omega)]; decide
 have HD := Lib.hid (fun b A n c w (h : Rg w b A n c (N - 1)) (hn : n ≤ 18) => rDigits_any b A n c (N - 1) w h (by omega) (by omega) (by omega))
 have hk511 : k ≤ 511 := by rw [← hk]; exact blen_lt (by omega) (by omega)
 rw [hk] at HD
 obtain ⟨M, hM, hMQ⟩ := rw_quot hk511
 have HMQ := Lib.hid hMQ
 have HME := Lib.hid hM
 clear hM hMQ
 have HSN := Lib.hid (show s < 18446744073709551616 ∧ k ≤ 511 ∧ 1 ≤ N ∧ N < P511 from ⟨hs, hk511, h1, h2⟩)
 have HK := Lib.hid hk0
 have hkz : ((k : Int) == 0) = false := by rw [beq_eq_false_iff_ne]; omega
 have HL1 := Lib.hid (fun w => rLong1_any 1 w (by decide) (by decide))
 have HL1N := Lib.hid (fun w => (rLong1_any 1 w (by decide) (by decide)).mono fun e w' h => h.nonneg (by decide))
 have HL2 := Lib.hid (fun w => (rLong1_any 2 w (by decide) (by decide)).mono fun e w' h => h.nonneg (by decide))
 have HR64 := Lib.hid rw_raise64
 obtain ⟨pk, hpk⟩ : ∃ p, (2 : Int) ^ k = p := ⟨_, rfl⟩
 have HRk := Lib.hid (dg_raise (k := k) (p := pk) hk511 hpk)
 have HPK := Lib.hid hpk
 obtain ⟨sg, hsgv⟩ : ∃ z, ordR N = z := ⟨_, rfl⟩
 rw [hsgv] at hsg HSG
 clear hN hn h1 h2 hk hk0 hs hk511 hpk hsgv
 go_enter Tryz.func14, Tryz.ntmps14
 go_upto_region 1 with (fail)
 refine name4 (Q := fun W => Code.wp _ _ _ _ W) ?_
 intro W l0 hsz k2 k3 k4 k5
 obtain ⟨g5, hg5⟩ : ∃ z, w.heap.size + 1 + 1 + 1 = z := ⟨_, rfl⟩
 obtain ⟨g4, hg4⟩ : ∃ z, w.heap.size + 1 + 1 = z := ⟨_, rfl⟩
 obtain ⟨g3, hg3⟩ : ∃ z, w.heap.size + 1 = z := ⟨_, rfl⟩
 obtain ⟨g2, hg2⟩ : ∃ z, w.heap.size = z := ⟨_, rfl⟩
 have hb : w.heap.size ≤ g2 ∧ g2 < g3 ∧ g3 < g4 ∧ g4 < g5 := by omega
 rw [hg5] at k5
 rw [hg4] at k4
 rw [hg3] at k3
 rw [hg2] at k2
 rw [hg5, hg4, hg3, hg2]
 clear hg5 hg4 hg3 hg2 hsz
 have d0 := k3.cell 0
 have d1 := k3.cell 1
 have d2 := k3.cell 2
 have d3 := k3.cell 3
 have d4 := k3.cell 4
 have d5 := k3.cell 5
 have d6 := k3.cell 6
 have d7 := k3.cell 7
 go_wp2_with fail
 refine (HSG.out W).mono ?_
 rintro e W1 ⟨rfl, la⟩
 clear d0 d1 d2 d3 d4 d5 d6 d7
 replace k2 := k2.later la
 replace k3 := k3.later la
 replace k4 := k4.later la
 replace k5 := k5.later la
 replace l0 := l0.trans la
 clear la HSG
 have d0 := k3.cell 0
 have d1 := k3.cell 1
 have d2 := k3.cell 2
 have d3 := k3.cell 3
 have d4 := k3.cell 4
 have d5 := k3.cell 5
 have d6 := k3.cell 6
 have d7 := k3.cell 7
 go_wp2_with fail
 refine (HI.out W1).mono ?_
 rintro e W2 ⟨b7, A7, n7, c7, rfl, r7, m7, la⟩
 clear d0 d1 d2 d3 d4 d5 d6 d7
 replace k2 := k2.later la
 replace k4 := k4.later la
 replace k5 := k5.later la
 replace l0 := l0.trans la
 clear la HI k3 hsg
 go_upto_region 4 with (fail)
 refine name1 (Q := fun W => Code.wp _ _ _ _ W) ?_
 intro W3 la hs3 k7
 obtain ⟨g7, hg7⟩ : ∃ z, W2.heap.size = z := ⟨_, rfl⟩
 have h57 : g5 < g7 := by rw [← hg7]; exact k5.lt
 rw [hg7] at k7 ⊢
 replace k2 := k2.later la
 replace k4 := k4.later la
 replace k5 := k5.later la
 replace r7 := r7.later la
 replace l0 := l0.trans la
 clear la hs3 hg7
 have R7 : ∀ w', Lat W3 w' → w'.rangeAt g7 0 [.bool b7, .slice A7 n7 c7] := fun w' hl => (k7.later hl).rangeAll
 have J85 : (Tryz.prog.info? 85).map (·.size) = some 2 := by kernel_rfl
 have HSB := rSub_num (c := c7) r7 m7
 rename_i KN hKN
 refine wp_region_slots (rw4_rows b7 A7 n7 c7 k g2 g3 g4 g5 g7 N) (rw4_base b7 A7 n7 c7 k g2 g3 g4 g5 g7 N) 86 5 [[], [], [0, 1, 1], [2, 2], [3, 3, 0, 1, 2, 3]] (by kernel_rfl) (by kernel_rfl) (by kernel_rfl) (by kernel_rfl) (by kernel_rfl) (by kernel_rfl) (by rfl) rfl (base_of (base_cons rfl (base_cons rfl (base_cons rfl (base_cons rfl (base_nil _)))))) (rw4_steps W3 b7 A7 n7 c7 k g2 g3 g4 g5 g7 N R7 J85 HL1.out HSB HD.out) ?_
 ·intro a9 W9 hsz9 hdf9 hL9 hbs hsl
  obtain ⟨v9, h9, q9⟩ := hsl 4 _ _ rfl rfl
  obtain rfl : v9 = .int .i64 (k : Nat) := q9
  have w8 := slot_getD h9
  clear h9
  refine hKN _ _ ?_
  obtain ⟨T9, df9⟩ := a9
  obtain rfl : df9 = [] := hdf9
  obtain ⟨f, hf, rfl⟩ := spell86 T9 hsz9
  have X9 := fun k v h => (hf k).trans (slot_getD (hbs k v h))
  have x8 := (hf 8).trans w8
  clear hbs hsl hf hsz9 hKN w8
  simp only [X9 2 _ rfl, X9 4 _ rfl, X9 5 _ rfl, X9 7 _ rfl, x8]
  clear x8 X9
  replace k2 := k2.later hL9
  replace k4 := k4.later hL9
  replace k5 := k5.later hL9
  replace k7 := k7.later hL9
  replace r7 := r7.later hL9
  replace l0 := l0.trans hL9
  obtain ⟨Y1, rfl⟩ : ∃ z, z = W9 := ⟨_, rfl⟩
  clear hL9 R7 J85 HSB HD HL1
  go_wp2_with fail
  refine (HL2.out Y1).mono ?_
  rintro e Y2 ⟨Aa, na, ca, rfl, ra, ma, la⟩
  replace k2 := k2.later la
  replace k4 := k4.later la
  replace k5 := k5.later la
  replace k7 := k7.later la
  replace r7 := r7.later la
  replace l0 := l0.trans la
  clear la
  go_wp2_with fail
  refine (HR64.out Aa na ca Y2 ra ma).mono ?_
  rintro e Y3 ⟨A9, n9, c9, rfl, r9, m9, la⟩
  replace k2 := k2.later la
  replace k4 := k4.later la
  replace k5 := k5.later la
  replace k7 := k7.later la
  replace r7 := r7.later la
  replace l0 := l0.trans la
  clear la ra ma
  go_upto_region 8 with (fail)
  refine name1 (Q := fun W => Code.wp _ _ _ _ W) ?_
  intro Y4 la hs4 k9
  obtain ⟨g9, hg9⟩ : ∃ z, Y3.heap.size = z := ⟨_, rfl⟩
  have h79 : g7 < g9 := by rw [← hg9]; exact k7.lt
  rw [hg9] at k9 ⊢
  replace k2 := k2.later la
  replace k4 := k4.later la
  replace k5 := k5.later la
  replace k7 := k7.later la
  replace r7 := r7.later la
  replace r9 := r9.later la
  replace l0 := l0.trans la
  clear la hs4 hg9
  go_wp2_with fail
  refine (HL2.out Y4).mono ?_
  rintro e Y5 ⟨Ab, nb, cb, rfl, rb, mb, la⟩
  replace k2 := k2.later la
  replace k4 := k4.later la
  replace k5 := k5.later la
  replace k7 := k7.later la
  replace k9 := k9.later la
  replace r7 := r7.later la
  replace r9 := r9.later la
  replace l0 := l0.trans la
  clear la
  go_wp2_with fail
  refine (HRk.out Ab nb cb Y5 rb mb).mono ?_
  rintro e Y6 ⟨A10, n10, c10, rfl, r10, m10, la⟩
  replace k2 := k2.later la
  replace k4 := k4.later la
  replace k5 := k5.later la
  replace k7 := k7.later la
  replace k9 := k9.later la
  replace r7 := r7.later la
  replace r9 := r9.later la
  replace l0 := l0.trans la
  clear la rb mb
  go_upto_region 9 with (fail)
  refine name1 (Q := fun W => Code.wp _ _ _ _ W) ?_
  intro Y7 la hs5 k10
  obtain ⟨g10, hg10⟩ : ∃ z, Y6.heap.size = z := ⟨_, rfl⟩
  have h910 : g9 < g10 := by rw [← hg10]; exact k9.lt
  rw [hg10] at k10 ⊢
  replace k2 := k2.later la
  replace k4 := k4.later la
  replace k5 := k5.later la
  replace k7 := k7.later la
  replace k9 := k9.later la
  replace r7 := r7.later la
  replace r9 := r9.later la
  replace r10 := r10.later la
  replace l0 := l0.trans la
  clear la hs5 hg10
  have hg := Lib.hid (RwG.mk (w := w) hb.1 hb.2.1 hb.2.2.1 hb.2.2.2 h57 h79 h910)
  have RB : RwB w g2 g4 g5 g7 g9 g10 b7 A7 A9 A10 n7 c7 n9 c9 n10 c10 N pk s Y7 := ⟨k2, k4, k5, k7, k9, k10, r7, r9, r10, l0⟩
  have HM := Lib.hid (And.intro m7 (And.intro m9 m10))
  clear k2 k4 k5 k7 k9 k10 r7 r9 r10 l0 m7 m9 m10 hb h57 h79 h910 HR64 HRk HL2
  go_upto_region 10 with (fail)
  go_loopw [11] (fun i wr => ∃ j : Nat, i = .int .i64 j ∧ j ≤ 200 ∧ chNone (chDraw k) (fun x => decide (x < N)) j s ∧ RwB w g2 g4 g5 g7 g9 g10 b7 A7 A9 A10 n7 c7 n9 c9 n10 c10 N pk (chAfter (chDraw k) j s) wr) (fun i _ => 200 - (intOf i).toNat)
  case atStart => exact ⟨0, rfl, by omega, fun i hi => absurd hi (by omega), RB⟩
  case round =>
   clear RB
   obtain ⟨j, rfl, hj, hno, RB⟩ := hrel
   have HNO := Lib.hid hno
   clear hno
   by_cases hj2 : j < 200
   ·have hjI : (j : Int) < 200 := by omega
    have hsi : chAfter (chDraw k) j s < 18446744073709551616 := chAfter_lt k HSN.out.1 j
    obtain ⟨si, hsi2⟩ : ∃ si, chAfter (chDraw k) j s = si := ⟨_, rfl⟩
    rw [hsi2] at hsi RB
    have HSI := Lib.hid (And.intro hsi hsi2)
    clear hsi hsi2
    go_wp2_with fail
    refine (HL1N.out wr).mono ?_
    rintro e Z1 ⟨A13, n13, c13, rfl, r13, m13, la⟩
    replace RB := RB.later la
    clear la
    go_upto_region 13 with (fail)
    refine name2 (Q := fun W => Code.wp _ _ _ _ W) ?_
    intro Z2 la hs6 k12 k13
    obtain ⟨g13, hg13⟩ : ∃ z, Z1.heap.size + 1 = z := ⟨_, rfl⟩
    obtain ⟨g12, hg12⟩ : ∃ z, Z1.heap.size = z := ⟨_, rfl⟩
    have h1012 : g10 < g12 := by rw [← hg12]; exact RB.k10.lt
    have h1213 : g12 < g13 := by omega
    rw [hg13] at k13
    rw [hg12] at k12
    rw [hg13, hg12]
    replace RB := RB.later la
    replace r13 := r13.later la
    clear la hs6 hg13 hg12
    go_upto_region 14 with (fail)
    go_loopw [14] (fun i wr => ∃ (q Q0 : Nat) (v p : Int) (A12 : Option Addr) (n12 c12 : Nat) (A13 : Option Addr) (n13 c13 : Nat), i = .int .i64 (Q0 : Nat) ∧ Q0 = 64 * q ∧ q ≤ M ∧ RwN si q v p ∧ RwB w g2 g4 g5 g7 g9 g10 b7 A7 A9 A10 n7 c7 n9 c9 n10 c10 N pk (chSt q si) wr ∧ Blk wr g12 85 #[.bool false, .slice A12 n12 c12] ∧ Blk wr g13 85 #[.bool false, .slice A13 n13 c13] ∧ Rg wr false A12 n12 c12 v ∧ n12 ≤ 21 + 131 * q ∧ Rg wr false A13 n13 c13 p ∧ n13 ≤ 2 + 130 * q) (fun i _ => k + 64 - (intOf i).toNat)
    case atStart => exact ⟨0, 0, 0, 1, none, 0, 0, A13, n13, c13, rfl, rfl, Nat.zero_le _, RwN.zero si, RB, k12, k13, rg_nil _, by omega, r13, by omega⟩
    case round =>
     clear RB k12 k13 r13 m13
     obtain ⟨q, Q0, v, p, A12, n12, c12, A13, n13, c13, rfl, hQ0, hq, hv, RB, k12, k13, r12, m12, r13, m13⟩ := hrel
     by_cases hqM : q < M
     ·obtain ⟨hqk, hqM8, hwr⟩ := HMQ.out.1 q Q0 hQ0 hqM
      have HWR := Lib.hid hwr
      clear hwr
      obtain ⟨hv0, hp0⟩ := hv.nonneg
      obtain ⟨x, t0, t1, hv', hx, hx0, HN, ht0, ht1⟩ := rw_next hv HSI.out.1
      rw [ht0] at RB
      have HV := Lib.hid (And.intro hv' (And.intro ht1 (And.intro hQ0 hqM)))
      clear hv hv' ht0 ht1 hQ0 hq
      have c2 : wr.cell? ⟨g2, 0, none⟩ = some (.int .u64 (t0 : Int)) := RB.k2.cell 0
      go_wp2_with fail
      refine (HN wr).mono ?_
      rintro e V1 ⟨rfl, la⟩
      replace RB := RB.later la
      replace k12 := k12.later la
      replace k13 := k13.later la
      replace r12 := r12.later la
      replace r13 := r13.later la
      clear la c2 HN
      go_upto_region 17 with (fail)
      refine name1 (Q := fun W => Code.wp _ _ _ _ W) ?_
      intro V2 la hs7 k16
      obtain ⟨g16, hg16⟩ : ∃ z, V1.heap.size = z := ⟨_, rfl⟩
      rw [hg16] at k16 ⊢
      replace RB := RB.later la
      replace k12 := k12.later la
      replace k13 := k13.later la
      replace r12 := r12.later la
      replace r13 := r13.later la
      clear la hs7 hg16
      have c16 : V2.cell? ⟨g16, 0, none⟩ = some (.int .u64 (t1 : Int)) := k16.cell 0
      have c2 : V2.cell? ⟨g2, 0, none⟩ = some (.int .u64 (t0 : Int)) := RB.k2.cell 0
      have f2 := RB.k2.frozen 0
      have lt2 := RB.k2.lt
      go_upto_region 18 with (fail)
      refine name_set (Q := fun W => Code.wp _ _ _ _ W) RB.k2 ?_
      intro V3 k2' hz1 hz2 lp2
      have h2g := RwG.two hg.out
      replace r12 := r12.keepC RB.k2 lp2
      replace r13 := r13.keepC RB.k2 lp2
      replace RB := RB.setC (t' := t1) hg.out k2' lp2
      replace k12 := k12.keepP lp2 (by omega)
      replace k13 := k13.keepP lp2 (by omega)
      clear k2' hz1 hz2 lp2 c16 c2 f2 lt2 k16
      have R12 : ∀ w', Lat V3 w' → w'.rangeAt g12 0 [.bool false, .slice A12 n12 c12] := fun w' hl => (k12.later hl).rangeAll
      have R13 : ∀ w', Lat V3 w' → w'.rangeAt g13 0 [.bool false, .slice A13 n13 c13] := fun w' hl => (k13.later hl).rangeAll
      have J85 : (Tryz.prog.info? 85).map (·.size) = some 2 := by kernel_rfl
      have HW := rw_words hx
      have HTM := rw_times (c13 := c13) (x := x) r13 m13 hp0 hqM8
      have HPL := rw_plus (c12 := c12) (x := x) (p := p) r12 m12 hv0 hp0 hqM8
      have HB := Lib.hid (And.intro m12 (And.intro m13 (And.intro hv0 (And.intro hp0 hqM8))))
      clear m12 m13 hqM8
      rename_i KN hKN
      refine wp_region_slotsL (rw18_rows A12 A13 n12 c12 n13 c13 q x v p) (rw18_base g12 g13 x _ _ _ _ _ _ _ _ _ _ _ _ _ _ _ _ _ _ _ _ _ _ _ _ _ _ _ _ _ _ _ _ _ _ _ _ _ _ _ _ _ _ _ _ _ _ _ _ _ _ _ _ _ _ _ _ _ _ _ _ _ _ _ _ _ _ _ _ _ _ _ _ _ _ _ _ _) 86 6 [[], [], [1], [], [2, 3, 2], [0, 4, 4], [5, 5, 0, 1, 2, 3, 4, 5]] (by kernel_rfl) _ rfl rfl (by kernel_rfl) (by kernel_rfl) (by kernel_rfl) (by kernel_rfl) (by kernel_rfl) (by kernel_rfl) (by rfl) rfl (base_of (base_cons rfl (base_cons rfl (base_cons rfl (base_cons rfl (base_cons rfl (base_cons rfl (base_cons rfl (base_cons rfl (base_cons rfl (base_cons rfl (base_cons rfl (base_cons rfl (base_cons rfl (base_cons rfl (base_cons rfl (base_cons rfl (base_cons rfl (base_cons rfl (base_cons rfl (base_cons rfl (base_cons rfl (base_cons rfl (base_cons rfl (base_cons rfl (base_cons rfl (base_cons rfl (base_cons rfl (base_cons rfl (base_cons rfl (base_cons rfl (base_cons rfl (base_cons rfl (base_cons rfl (base_cons rfl (base_cons rfl (base_cons rfl (base_cons rfl (base_cons rfl (base_cons rfl (base_cons rfl (base_cons rfl (base_cons rfl (base_cons rfl (base_cons rfl (base_cons rfl (base_cons rfl (base_cons rfl (base_cons rfl (base_cons rfl (base_cons rfl (base_cons rfl (base_cons rfl (base_cons rfl (base_cons rfl (base_cons rfl (base_cons rfl (base_cons rfl (base_cons rfl (base_cons rfl (base_cons rfl (base_cons rfl (base_cons rfl (base_cons rfl (base_cons rfl (base_cons rfl (base_cons rfl (base_cons rfl (base_cons rfl (base_cons rfl (base_cons rfl (base_cons rfl (base_cons rfl (base_cons rfl (base_cons rfl (base_cons rfl (base_cons rfl (base_cons rfl (base_cons rfl (base_cons rfl (base_cons rfl (base_nil _)))))))))))))))))))))))))))))))))))))))))))))))))))))))))))))))))))))))))))))))))) (rw18_steps V3 A12 A13 n12 c12 n13 c13 q v p g12 g13 x _ _ _ _ _ _ _ _ _ _ _ _ _ _ _ _ _ _ _ _ _ _ _ _ _ _ _ _ _ _ _ _ _ _ _ _ _ _ _ _ _ _ _ _ _ _ _ _ _ _ _ _ _ _ _ _ _ _ _ _ _ _ _ _ _ _ _ _ _ _ _ _ _ _ _ _ _ R12 R13 J85 HW HTM HPL) ?_
      ·intro a9 W9 hsz9 hdf9 hL9 hbs hsl
       obtain ⟨v9, h09, qv9⟩ := hsl 5 _ _ rfl rfl
       obtain ⟨A6, n6, c6, rfl, s1, s2⟩ := (show LN (v + (x : Int) * p) (22 + 131 * q) v9 W9 from qv9)
       have K9 := k12.later hL9
       refine wp_store_mid 85 (.tmp 12) (.tmp 63) rfl g12 0 #[.bool false, .slice A6 n6 c6] (hbs 12 _ rfl).ev h09.ev (K9.thereAll _ rfl) (by kernel_rfl) (by simp [Value.oneCell']) ?_
       refine hKN _ _ ?_
       obtain ⟨T9, df9⟩ := a9
       obtain rfl : df9 = [] := hdf9
       obtain ⟨f, hf, rfl⟩ := spell86 T9 hsz9
       have X9 := fun k v h => (hf k).trans (slot_getD (hbs k v h))
       clear hbs hsl hf hsz9 h09 qv9 hKN
       simp only [Act.put, X9 12 _ rfl, X9 13 _ rfl, X9 15 _ rfl, X9 0 _ rfl, X9 1 _ rfl, X9 2 _ rfl, X9 3 _ rfl, X9 4 _ rfl, X9 5 _ rfl, X9 6 _ rfl, X9 7 _ rfl, X9 8 _ rfl, X9 9 _ rfl, X9 10 _ rfl, X9 11 _ rfl, X9 14 _ rfl, X9 16 _ rfl, X9 17 _ rfl, X9 18 _ rfl, X9 19 _ rfl, X9 20 _ rfl, X9 21 _ rfl, X9 22 _ rfl, X9 23 _ rfl, X9 24 _ rfl, X9 25 _ rfl, X9 26 _ rfl, X9 27 _ rfl, X9 28 _ rfl, X9 29 _ rfl, X9 30 _ rfl, X9 31 _ rfl, X9 32 _ rfl, X9 33 _ rfl, X9 34 _ rfl, X9 35 _ rfl, X9 36 _ rfl, X9 37 _ rfl, X9 38 _ rfl, X9 39 _ rfl, X9 40 _ rfl, X9 41 _ rfl, X9 42 _ rfl, X9 43 _ rfl, X9 44 _ rfl, X9 45 _ rfl, X9 46 _ rfl, X9 47 _ rfl, X9 48 _ rfl, X9 49 _ rfl, X9 50 _ rfl, X9 51 _ rfl, X9 52 _ rfl, X9 53 _ rfl, X9 54 _ rfl, X9 55 _ rfl, X9 56 _ rfl, X9 57 _ rfl, X9 64 _ rfl, X9 65 _ rfl, X9 66 _ rfl, X9 67 _ rfl, X9 68 _ rfl, X9 69 _ rfl, X9 70 _ rfl, X9 71 _ rfl, X9 72 _ rfl, X9 73 _ rfl, X9 74 _ rfl, X9 75 _ rfl, X9 76 _ rfl, X9 77 _ rfl, X9 78 _ rfl, X9 79 _ rfl, X9 80 _ rfl, X9 81 _ rfl, X9 82 _ rfl, X9 83 _ rfl, X9 84 _ rfl, X9 85 _ rfl]
       clear X9
       refine name_long (Q := fun W => Code.wp _ _ _ _ W) K9 ?_
       intro V4 j12 lp hrg
       replace RB := (RB.later hL9).keepL hg.out h1012 lp hrg
       replace k13 := (k13.later hL9).keepP lp (by omega)
       replace r13 := hrg (r13.later hL9)
       have q12 := hrg s1
       clear K9 s1 lp hrg k12 r12 hL9 R12 R13 J85 HW HTM HPL
       have HT2 := rw_unit (c := c13) (c9 := c9) r13 HB.out.2.1 RB.r9 HM.out.2.1 HB.out.2.2.2.1 HB.out.2.2.2.2
       have y0 := k13.cell 0
       have y1 := k13.cell 1
       have z0 := RB.k9.cell 0
       have z1 := RB.k9.cell 1
       go_wp2_with fail
       refine HT2.mono ?_
       rintro e V5 ⟨A8, n8, c8, rfl, r8, m8, la⟩
       clear y0 y1 z0 z1 HT2 r13
       replace RB := RB.later la
       replace j12 := j12.later la
       replace k13 := k13.later la
       replace q12 := q12.later la
       clear la
       have y0 := k13.cell 0
       have y1 := k13.cell 1
       have f0 := k13.frozen 0
       have f1 := k13.frozen 1
       have lt13 := k13.lt
       go_upto_region 15 with (fail)
       refine name_long (Q := fun W => Code.wp _ _ _ _ W) k13 ?_
       intro V6 j13 lp hrg
       have h1013 : g10 < g13 := by omega
       replace RB := RB.keepL hg.out h1013 lp hrg
       replace j12 := j12.keepP lp (by omega)
       replace q12 := hrg q12
       replace r8 := hrg r8
       clear lp hrg y0 y1 f0 f1 lt13 k13
       obtain ⟨hv', ht1, hQ0, hqM'⟩ := HV.out
       rw [← ht1] at RB
       have hb12 := rw_bnd1 s2
       have hQ1 : Q0 + 64 = 64 * (q + 1) := by omega
       clear HV ht1 s2 hQ0
       go_wp2
       go_roundw
       case rel => exact ⟨q + 1, Q0 + 64, _, _, A6, n6, c6, A8, n8, c8, rw_int HWR.out, hQ1, hqM', hv', RB, j12, j13, q12, hb12, r8, m8⟩
       case measure => exact rw_meas HWR.out hqk
     ·have hqk := HMQ.out.2.1 q Q0 hQ0 hqM
      obtain ⟨hv0, hp0⟩ := hv.nonneg
      obtain ⟨hpk0, hcn, hcs⟩ := rw_done hv HME.out HPK.out HMQ.out.2.2 hq hqM
      have HPT := rw_parts (c12 := c12) (c10 := c10) r12 m12 hv0 RB.r10 HM.out.2.2 hpk0 hq HMQ.out.2.2
      obtain ⟨z, hz⟩ : ∃ z, v % pk = z := ⟨_, rfl⟩
      rw [hz] at hcn HPT
      rw [hcs] at RB
      have HCN := Lib.hid (And.intro hcn hqM)
      clear hv hv0 hp0 hpk0 hcn hcs hz hQ0 hq r13 m13 k13 m12 r12 hqM
      have y0 := k12.cell 0
      have y1 := k12.cell 1
      have z0 := RB.k10.cell 0
      have z1 := RB.k10.cell 1
      go_wp2_with fail
      refine HPT.mono ?_
      rintro e V1 ⟨bq, Aq, nq, cq, br, Ar, nr, cr, rfl, q1, q2, q3, q4, la⟩
      clear y0 y1 z0 z1 HPT q1 q2 k12
      replace RB := RB.later la
      clear la
      go_upto_region 21 with (fail)
      refine name2 (Q := fun W => Code.wp _ _ _ _ W) ?_
      intro V2 la hs8 k17 k18
      obtain ⟨g18, hg18⟩ : ∃ z, V1.heap.size + 1 = z := ⟨_, rfl⟩
      rw [hg18] at k18 ⊢
      replace RB := RB.later la
      replace q3 := q3.later la
      clear la hs8 hg18 k17
      have y0 := k18.cell 0
      have y1 := k18.cell 1
      have z0 := RB.k7.cell 0
      have z1 := RB.k7.cell 1
      have HO := rw_order q3 q4 RB.r7 HM.out.1 HM.out.2.2
      by_cases hlt : z < N
      ·have ho : ordR (z - N) = -1 := by unfold ordR; rw [if_pos (by omega)]
       rw [ho] at HO
       clear ho
       go_wp2_with fail
       refine HO.mono ?_
       rintro e V3 ⟨rfl, la⟩
       clear y0 y1 z0 z1 HO
       replace RB := RB.later la
       replace q3 := q3.later la
       replace k18 := k18.later la
       clear la
       have hz9 := rw_fits HCN.out.1 hlt HSN.out.2.2.2
       have HU := rw_out q3 q4 HM.out.2.2 hz9.1 hz9.2
       have y0 := k18.cell 0
       have y1 := k18.cell 1
       go_wp2_with fail
       refine HU.mono ?_
       rintro e V4 ⟨rfl, la⟩
       clear y0 y1 HU q3 q4 k18
       replace RB := RB.later la
       clear la
       have HR9 := Lib.hid (rw_take HSI.out.2 hj2 HNO.out HCN.out.1 hlt)
       obtain ⟨u, hu⟩ : ∃ u, W8.of z = u := ⟨_, rfl⟩
       obtain ⟨tt, htt⟩ : ∃ t, (chDraw k si).2 = t := ⟨_, rfl⟩
       rw [htt] at RB HR9
       rw [hu]
       have HUU := Lib.hid hu
       clear hu htt hz9 hlt
       go_upto_region 23 with (fail)
       refine name1 (Q := fun W => Code.wp _ _ _ _ W) ?_
       intro V5 la hs9 k19
       obtain ⟨g19, hg19⟩ : ∃ z, V4.heap.size = z := ⟨_, rfl⟩
       have h1019 : g10 < g19 := by rw [← hg19]; exact RB.k10.lt
       rw [hg19] at k19 ⊢
       replace RB := RB.later la
       clear la hs9 hg19
       have h5g := RwG.five hg.out
       have L0 := Lat.drew V5
       have R19 : ∀ w', LatS V5 [g4, g5] w' → w'.rangeAt g19 0 [.int .u64 u.a0, .int .u64 u.a1, .int .u64 u.a2, .int .u64 u.a3, .int .u64 u.a4, .int .u64 u.a5, .int .u64 u.a6, .int .u64 u.a7] := fun w' hl => Blk.rangeAll (l := [.int .u64 u.a0, .int .u64 u.a1, .int .u64 u.a2, .int .u64 u.a3, .int .u64 u.a4, .int .u64 u.a5, .int .u64 u.a6, .int .u64 u.a7]) (k19.keepS (by simp; omega) hl)
       have R2 : ∀ w', LatS V5 [g4, g5] w' → w'.cell? ⟨g2, 0, none⟩ = some (.int .u64 (tt : Int)) := fun w' hl => (RB.k2.keepS (by simp; omega) hl).cell 0
       refine wp_region_held_drew (S := fun w' => LatS V5 [g4, g5] w') (by kernel_rfl) (L0.s _) (fun hHeld => ?_)
       generalize V5.drew = V0 at L0 hHeld ⊢
       refine' wpAnyH_take (i := 0) rfl (by kernel_rfl) (by kernel_rfl) (by kernel_rfl) (fun _ _ _ h => h) (yieldsIf_load_mid (by rfl) 26 (.tmp 19) rfl g19 0 rfl _ _ R19 Tryz.underlying26 rfl wideInfo8) hHeld ?_
       simp only [Act.put, List.getElem_toArray, List.getElem_cons_succ, List.getElem_cons_zero, List.setIfInBounds_toArray, List.set_cons_zero, List.set_cons_succ]
       refine wpAnyH_take (i := 1) (v := .agg #[.int .u64 (tt : Int)]) rfl (by kernel_rfl) (by kernel_rfl) (by kernel_rfl) (fun _ _ _ h => h) (Or.inl ⟨by rfl, by intro w' hS; have hc := R2 w' hS; go_simp⟩) hHeld ?_
       simp only [Act.put, List.getElem_toArray, List.getElem_cons_succ, List.getElem_cons_zero, List.setIfInBounds_toArray, List.set_cons_zero, List.set_cons_succ]
       have K4 := RB.k4.later L0
       have K5 := RB.k5.later L0
       have hl0 := RB.l.trans L0
       refine wpAnyH_ready (rs := [2]) (by kernel_rfl) (by simp) (AllReadyH.cons rfl (fun K hK => ?_) AllReadyH.nil)
       rw [if_pos (by rfl)]
       refine wp_store_mid 26 (.tmp 4) (.tmp 82) rfl g4 0 #[.int .u64 u.a0, .int .u64 u.a1, .int .u64 u.a2, .int .u64 u.a3, .int .u64 u.a4, .int .u64 u.a5, .int .u64 u.a6, .int .u64 u.a7] rfl rfl (K4.thereAll _ rfl) (by kernel_rfl) (by simp [Value.oneCell']) ?_
       have KS2 := K4.setCells #[.int .u64 u.a0, .int .u64 u.a1, .int .u64 u.a2, .int .u64 u.a3, .int .u64 u.a4, .int .u64 u.a5, .int .u64 u.a6, .int .u64 u.a7] rfl
       have lp2 : LatP (· = g4) V0 (V0.setCells g4 0 (#[.int .u64 u.a0, .int .u64 u.a1, .int .u64 u.a2, .int .u64 u.a3, .int .u64 u.a4, .int .u64 u.a5, .int .u64 u.a6, .int .u64 u.a7] : Array Value).toList) := LatP.setCells _ _ _
       have M2 : LatS V5 [g4, g5] (V0.setCells g4 0 (#[.int .u64 u.a0, .int .u64 u.a1, .int .u64 u.a2, .int .u64 u.a3, .int .u64 u.a4, .int .u64 u.a5, .int .u64 u.a6, .int .u64 u.a7] : Array Value).toList) := LatS.setCells (by simp) _ _ _ (L0.s _)
       obtain ⟨V8, hV9⟩ : ∃ V, V0.setCells g4 0 (#[.int .u64 u.a0, .int .u64 u.a1, .int .u64 u.a2, .int .u64 u.a3, .int .u64 u.a4, .int .u64 u.a5, .int .u64 u.a6, .int .u64 u.a7] : Array Value).toList = V := ⟨_, rfl⟩
       rw [hV9] at KS2 M2 lp2 ⊢
       clear hV9
       have K5b := K5.keepP lp2 (by omega)
       have hl1 := lp2.narrow hl0 (by omega)
       refine hK.out _ _ M2 (fun hHeld1 => ?_)
       clear hK K
       try simp only [Act.put, List.getElem_toArray, List.getElem_cons_succ, List.getElem_cons_zero, List.setIfInBounds_toArray, List.set_cons_zero, List.set_cons_succ]
       refine wpAnyH_ready (rs := [3]) (by kernel_rfl) (by simp) (AllReadyH.cons rfl (fun K hK => ?_) AllReadyH.nil)
       rw [if_pos (by rfl)]
       refine wp_store_mid 24 (.tmp 5) (.tmp 83) rfl g5 0 #[.int .u64 (tt : Int)] rfl rfl (K5b.thereAll _ rfl) (by kernel_rfl) (by simp [Value.oneCell']) ?_
       have KS3 := K5b.setCells #[.int .u64 (tt : Int)] rfl
       have lp3 : LatP (· = g5) V8 (V8.setCells g5 0 (#[.int .u64 (tt : Int)] : Array Value).toList) := LatP.setCells _ _ _
       have M3 : LatS V5 [g4, g5] (V8.setCells g5 0 (#[.int .u64 (tt : Int)] : Array Value).toList) := LatS.setCells (by simp) _ _ _ M2
       obtain ⟨V9, hV9⟩ : ∃ V, V8.setCells g5 0 (#[.int .u64 (tt : Int)] : Array Value).toList = V := ⟨_, rfl⟩
       rw [hV9] at KS3 M3 lp3 ⊢
       clear hV9
       have K4b := KS2.keepP lp3 (by omega)
       have hl2 := lp3.narrow hl1 (by omega)
       refine hK.out _ _ M3 (fun hHeld2 => ?_)
       clear hK K
       try simp only [Act.put, List.getElem_toArray, List.getElem_cons_succ, List.getElem_cons_zero, List.setIfInBounds_toArray, List.set_cons_zero, List.set_cons_succ]
       refine wpAnyH_take (i := 4) (v := .int .i64 0) rfl (by kernel_rfl) (by kernel_rfl) (by kernel_rfl) (fun _ _ _ h => h) (Or.inl ⟨by rfl, by intro w' hS; go_simp⟩) hHeld2 ?_
       simp only [Act.put, List.getElem_toArray, List.getElem_cons_succ, List.getElem_cons_zero, List.setIfInBounds_toArray, List.set_cons_zero, List.set_cons_succ]
       refine wpAnyH_done (by kernel_rfl) ?_ _
       have c0 := K4b.cell 0
       have c1 := K4b.cell 1
       have c2 := K4b.cell 2
       have c3 := K4b.cell 3
       have c4 := K4b.cell 4
       have c5 := K4b.cell 5
       have c6 := K4b.cell 6
       have c7 := K4b.cell 7
       have c9 := KS3.cell 0
       have hMM := HM
       go_wp2
       refine bodyPost_ret (v := .tuple #[.agg #[.int .u64 u.a0, .int .u64 u.a1, .int .u64 u.a2, .int .u64 u.a3, .int .u64 u.a4, .int .u64 u.a5, .int .u64 u.a6, .int .u64 u.a7], .agg #[.int .u64 (tt : Int)], .int .i64 0]) (by simp [results, Tryz.results14, go_sem, c0, c1, c2, c3, c4, c5, c6, c7, c9]) rfl ?_
       rw [HR9.out, optI, optT, optE, HUU.out]
       exact ⟨rfl, hl2⟩
      ·have ho : ¬ ordR (z - N) < 0 := by unfold ordR; rw [if_neg (by omega)]; split <;> decide
       obtain ⟨o, hoo⟩ : ∃ o, ordR (z - N) = o := ⟨_, rfl⟩
       rw [hoo] at HO ho
       clear hoo
       go_wp2_with fail
       refine HO.mono ?_
       rintro e V3 ⟨rfl, la⟩
       clear y0 y1 z0 z1 HO
       replace RB := RB.later la
       clear la k18 q3 q4
       have HN9 := Lib.hid (rw_none (N := N) HSI.out.2 HNO.out HCN.out.1 (Int.not_lt.2 hlt))
       rw [← HN9.out.2] at RB
       clear hlt hqk
       go_wp2
       go_roundw
       case rel => exact ⟨j + 1, by go_num, by omega, HN9.out.1, RB⟩
       case measure => simp [intOf]; omega
   ·obtain rfl : j = 200 := by omega
    have HR9 := Lib.hid (chTry_none HNO.out)
    have K4 := RB.k4
    have K5 := RB.k5
    have hl := RB.l
    have h5g := RwG.five hg.out
    clear RB HNO hj hj2
    have p0 := K4.cell 0
    have p1 := K4.cell 1
    have p2 := K4.cell 2
    have p3 := K4.cell 3
    have p4 := K4.cell 4
    have p5 := K4.cell 5
    have p6 := K4.cell 6
    have p7 := K4.cell 7
    have f0 := K4.frozen 0
    have f1 := K4.frozen 1
    have f2 := K4.frozen 2
    have f3 := K4.frozen 3
    have f4 := K4.frozen 4
    have f5 := K4.frozen 5
    have f6 := K4.frozen 6
    have f7 := K4.frozen 7
    have p9 := K5.cell 0
    have f9 := K5.frozen 0
    have l4 := K4.lt
    have l5 := K5.lt
    go_wp2
    refine name_put8e (Q := fun W => bodyPost _ _ _ _ _ W) K4 K5 (by omega) ?_
    intro X1 j4 j5 lp
    have LF := lp.lat hl (fun q h => by omega)
    have c0 := j4.cell 0
    have c1 := j4.cell 1
    have c2 := j4.cell 2
    have c3 := j4.cell 3
    have c4 := j4.cell 4
    have c5 := j4.cell 5
    have c6 := j4.cell 6
    have c7 := j4.cell 7
    have c9 := j5.cell 0
    refine bodyPost_ret (v := .tuple #[.agg #[.int .u64 W8.zero.a0, .int .u64 W8.zero.a1, .int .u64 W8.zero.a2, .int .u64 W8.zero.a3, .int .u64 W8.zero.a4, .int .u64 W8.zero.a5, .int .u64 W8.zero.a6, .int .u64 W8.zero.a7], .agg #[.int .u64 0], .int .i64 9]) (by simp [results, Tryz.results14, go_sem, c0, c1, c2, c3, c4, c5, c6, c7, c9, W8.zero]) rfl ?_
    rw [HR9.out, optI, optT, optE, ← W8.zero_eq]
    exact ⟨rfl, LF⟩
end Go.Proofs.YtogkkhaepfablaaGreat
namespace Go.Proofs.YtogkkhaepfablaaGreat
open Go.RowKit
set_option linter.unusedSimpArgs false
set_option linter.unusedVariables false
set_option maxRecDepth 100000 in
set_option maxHeartbeats 4000000 in
theorem rWide_one (s : Nat) (n : W8) (N : Int) (hN : n.toInt = N) (hn : n.ok) (h1 : 1 ≤ N) (h2 : N < P511) (hk : blen (N - 1) = 0) (w : World) :
  Calls Tryz.prog 14 #[.agg #[.int .u64 (s : Nat)], .agg #[.int .u64 n.a0, .int .u64 n.a1, .int .u64 n.a2, .int .u64 n.a3, .int .u64 n.a4, .int .u64 n.a5, .int .u64 n.a6, .int .u64 n.a7]] w (WidEnd w W8.zero s 0) := by
 have HSG := Lib.hid (fun w => rSign_any n hn w)
 have HI := Lib.hid (fun w => rIn_any n hn w)
 rw [hN] at HSG HI
 have hsg : ¬ ordR N < 1 := by unfold ordR; rw [if_neg (by omega), if_neg (by omega)]; decide
 have HD := Lib.hid (fun b A n c w (h : Rg w b A n c (N - 1)) (hn : n ≤ 18) => rDigits_any b A n c (N - 1) w h (by omega) (by omega) (by omega))
 rw [hk] at HD
 have HL1 := Lib.hid (fun w => rLong1_any 1 w (by decide) (by decide))
 obtain ⟨sg, hsgv⟩ : ∃ z, ordR N = z := ⟨_, rfl⟩
 rw [hsgv] at hsg HSG
 clear hN hn h1 h2 hk hsgv
 go_enter Tryz.func14, Tryz.ntmps14
 go_upto_region 1 with (fail)
 refine name4 (Q := fun W => Code.wp _ _ _ _ W) ?_
 intro W l0 hsz k2 k3 k4 k5
 obtain ⟨g5, hg5⟩ : ∃ z, w.heap.size + 1 + 1 + 1 = z := ⟨_, rfl⟩
 obtain ⟨g4, hg4⟩ : ∃ z, w.heap.size + 1 + 1 = z := ⟨_, rfl⟩
 obtain ⟨g3, hg3⟩ : ∃ z, w.heap.size + 1 = z := ⟨_, rfl⟩
 obtain ⟨g2, hg2⟩ : ∃ z, w.heap.size = z := ⟨_, rfl⟩
 have hb : w.heap.size ≤ g2 ∧ g2 < g3 ∧ g3 < g4 ∧ g4 < g5 := by omega
 rw [hg5] at k5
 rw [hg4] at k4
 rw [hg3] at k3
 rw [hg2] at k2
 rw [hg5, hg4, hg3, hg2]
 clear hg5 hg4 hg3 hg2 hsz
 have d0 := k3.cell 0
 have d1 := k3.cell 1
 have d2 := k3.cell 2
 have d3 := k3.cell 3
 have d4 := k3.cell 4
 have d5 := k3.cell 5
 have d6 := k3.cell 6
 have d7 := k3.cell 7
 go_wp2_with fail
 refine (HSG.out W).mono ?_
 rintro e W1 ⟨rfl, la⟩
 clear d0 d1 d2 d3 d4 d5 d6 d7
 replace k2 := k2.later la
 replace k3 := k3.later la
 replace k4 := k4.later la
 replace k5 := k5.later la
 replace l0 := l0.trans la
 clear la HSG
 have d0 := k3.cell 0
 have d1 := k3.cell 1
 have d2 := k3.cell 2
 have d3 := k3.cell 3
 have d4 := k3.cell 4
 have d5 := k3.cell 5
 have d6 := k3.cell 6
 have d7 := k3.cell 7
 go_wp2_with fail
 refine (HI.out W1).mono ?_
 rintro e W2 ⟨b7, A7, n7, c7, rfl, r7, m7, la⟩
 clear d0 d1 d2 d3 d4 d5 d6 d7
 replace k2 := k2.later la
 replace k4 := k4.later la
 replace k5 := k5.later la
 replace l0 := l0.trans la
 clear la HI k3 hsg
 go_upto_region 4 with (fail)
 refine name1 (Q := fun W => Code.wp _ _ _ _ W) ?_
 intro W3 la hs3 k7
 obtain ⟨g7, hg7⟩ : ∃ z, W2.heap.size = z := ⟨_, rfl⟩
 have h57 : g5 < g7 := by rw [← hg7]; exact k5.lt
 rw [hg7] at k7 ⊢
 replace k2 := k2.later la
 replace k4 := k4.later la
 replace k5 := k5.later la
 replace r7 := r7.later la
 replace l0 := l0.trans la
 clear la hs3 hg7
 have R7 : ∀ w', Lat W3 w' → w'.rangeAt g7 0 [.bool b7, .slice A7 n7 c7] := fun w' hl => (k7.later hl).rangeAll
 have J85 : (Tryz.prog.info? 85).map (·.size) = some 2 := by kernel_rfl
 have HSB := rSub_num (c := c7) r7 m7
 rename_i KN hKN
 refine wp_region_slots (rw4_rows b7 A7 n7 c7 0 g2 g3 g4 g5 g7 N) (rw4_base b7 A7 n7 c7 0 g2 g3 g4 g5 g7 N) 86 5 [[], [], [0, 1, 1], [2, 2], [3, 3, 0, 1, 2, 3]] (by kernel_rfl) (by kernel_rfl) (by kernel_rfl) (by kernel_rfl) (by kernel_rfl) (by kernel_rfl) (by rfl) rfl (base_of (base_cons rfl (base_cons rfl (base_cons rfl (base_cons rfl (base_nil _)))))) (rw4_steps W3 b7 A7 n7 c7 0 g2 g3 g4 g5 g7 N R7 J85 HL1.out HSB HD.out) ?_
 ·intro a9 W9 hsz9 hdf9 hL9 hbs hsl
  obtain ⟨v9, h9, q9⟩ := hsl 4 _ _ rfl rfl
  obtain rfl : v9 = .int .i64 ((0 : Nat) : Int) := q9
  have w8 := slot_getD h9
  clear h9
  refine hKN _ _ ?_
  obtain ⟨T9, df9⟩ := a9
  obtain rfl : df9 = [] := hdf9
  obtain ⟨f, hf, rfl⟩ := spell86 T9 hsz9
  have X9 := fun k v h => (hf k).trans (slot_getD (hbs k v h))
  have x8 := (hf 8).trans w8
  clear hbs hsl hf hsz9 hKN w8
  simp only [X9 2 _ rfl, X9 4 _ rfl, X9 5 _ rfl, X9 7 _ rfl, x8]
  clear x8 X9
  replace k2 := k2.later hL9
  replace k4 := k4.later hL9
  replace k5 := k5.later hL9
  replace l0 := l0.trans hL9
  obtain ⟨Y1, rfl⟩ : ∃ z, z = W9 := ⟨_, rfl⟩
  clear hL9 R7 J85 HSB HD HL1 k7 r7
  have hk00 : (((0 : Nat) : Int) == 0) = true := rfl
  go_upto_region 6 with (fail)
  have L0 := Lat.drew Y1
  have R2 : ∀ w', LatS Y1 [g4, g5] w' → w'.cell? ⟨g2, 0, none⟩ = some (.int .u64 (s : Int)) := fun w' hl => (k2.keepS (by simp; omega) hl).cell 0
  refine wp_region_held_drew (S := fun w' => LatS Y1 [g4, g5] w') (by kernel_rfl) (L0.s _) (fun hHeld => ?_)
  generalize Y1.drew = V0 at L0 hHeld ⊢
  refine wpAnyH_take (i := 0) (v := .agg #[.int .u64 0, .int .u64 0, .int .u64 0, .int .u64 0, .int .u64 0, .int .u64 0, .int .u64 0, .int .u64 0]) rfl (by kernel_rfl) (by kernel_rfl) (by kernel_rfl) (fun _ _ _ h => h) (Or.inl ⟨by rfl, by intro w' hS; go_simp⟩) hHeld ?_
  simp only [Act.put, List.getElem_toArray, List.getElem_cons_succ, List.getElem_cons_zero, List.setIfInBounds_toArray, List.set_cons_zero, List.set_cons_succ]
  refine wpAnyH_take (i := 1) (v := .agg #[.int .u64 (s : Int)]) rfl (by kernel_rfl) (by kernel_rfl) (by kernel_rfl) (fun _ _ _ h => h) (Or.inl ⟨by rfl, by intro w' hS; have hc := R2 w' hS; go_simp⟩) hHeld ?_
  simp only [Act.put, List.getElem_toArray, List.getElem_cons_succ, List.getElem_cons_zero, List.setIfInBounds_toArray, List.set_cons_zero, List.set_cons_succ]
  have K4 := k4.later L0
  have K5 := k5.later L0
  have hl0 := l0.trans L0
  refine wpAnyH_ready (rs := [2]) (by kernel_rfl) (by simp) (AllReadyH.cons rfl (fun K hK => ?_) AllReadyH.nil)
  rw [if_pos (by rfl)]
  refine wp_store_mid 26 (.tmp 4) (.tmp 34) rfl g4 0 #[.int .u64 0, .int .u64 0, .int .u64 0, .int .u64 0, .int .u64 0, .int .u64 0, .int .u64 0, .int .u64 0] rfl rfl (K4.thereAll _ rfl) (by kernel_rfl) (by simp [Value.oneCell']) ?_
  have KS2 := K4.setCells #[.int .u64 0, .int .u64 0, .int .u64 0, .int .u64 0, .int .u64 0, .int .u64 0, .int .u64 0, .int .u64 0] rfl
  have lp2 : LatP (· = g4) V0 (V0.setCells g4 0 (#[.int .u64 0, .int .u64 0, .int .u64 0, .int .u64 0, .int .u64 0, .int .u64 0, .int .u64 0, .int .u64 0] : Array Value).toList) := LatP.setCells _ _ _
  have M2 : LatS Y1 [g4, g5] (V0.setCells g4 0 (#[.int .u64 0, .int .u64 0, .int .u64 0, .int .u64 0, .int .u64 0, .int .u64 0, .int .u64 0, .int .u64 0] : Array Value).toList) := LatS.setCells (by simp) _ _ _ (L0.s _)
  obtain ⟨V8, hV9⟩ : ∃ V, V0.setCells g4 0 (#[.int .u64 0, .int .u64 0, .int .u64 0, .int .u64 0, .int .u64 0, .int .u64 0, .int .u64 0, .int .u64 0] : Array Value).toList = V := ⟨_, rfl⟩
  rw [hV9] at KS2 M2 lp2 ⊢
  clear hV9
  have K5b := K5.keepP lp2 (by omega)
  have hl1 := lp2.narrow hl0 (by omega)
  refine hK.out _ _ M2 (fun hHeld1 => ?_)
  clear hK K
  try simp only [Act.put, List.getElem_toArray, List.getElem_cons_succ, List.getElem_cons_zero, List.setIfInBounds_toArray, List.set_cons_zero, List.set_cons_succ]
  refine wpAnyH_ready (rs := [3]) (by kernel_rfl) (by simp) (AllReadyH.cons rfl (fun K hK => ?_) AllReadyH.nil)
  rw [if_pos (by rfl)]
  refine wp_store_mid 24 (.tmp 5) (.tmp 35) rfl g5 0 #[.int .u64 (s : Int)] rfl rfl (K5b.thereAll _ rfl) (by kernel_rfl) (by simp [Value.oneCell']) ?_
  have KS3 := K5b.setCells #[.int .u64 (s : Int)] rfl
  have lp3 : LatP (· = g5) V8 (V8.setCells g5 0 (#[.int .u64 (s : Int)] : Array Value).toList) := LatP.setCells _ _ _
  have M3 : LatS Y1 [g4, g5] (V8.setCells g5 0 (#[.int .u64 (s : Int)] : Array Value).toList) := LatS.setCells (by simp) _ _ _ M2
  obtain ⟨V9, hV9⟩ : ∃ V, V8.setCells g5 0 (#[.int .u64 (s : Int)] : Array Value).toList = V := ⟨_, rfl⟩
  rw [hV9] at KS3 M3 lp3 ⊢
  clear hV9
  have K4b := KS2.keepP lp3 (by omega)
  have hl2 := lp3.narrow hl1 (by omega)
  refine hK.out _ _ M3 (fun hHeld2 => ?_)
  clear hK K
  try simp only [Act.put, List.getElem_toArray, List.getElem_cons_succ, List.getElem_cons_zero, List.setIfInBounds_toArray, List.set_cons_zero, List.set_cons_succ]
  refine wpAnyH_take (i := 4) (v := .int .i64 0) rfl (by kernel_rfl) (by kernel_rfl) (by kernel_rfl) (fun _ _ _ h => h) (Or.inl ⟨by rfl, by intro w' hS; go_simp⟩) hHeld2 ?_
  simp only [Act.put, List.getElem_toArray, List.getElem_cons_succ, List.getElem_cons_zero, List.setIfInBounds_toArray, List.set_cons_zero, List.set_cons_succ]
  refine wpAnyH_done (by kernel_rfl) ?_ _
  have c0 := K4b.cell 0
  have c1 := K4b.cell 1
  have c2 := K4b.cell 2
  have c3 := K4b.cell 3
  have c4 := K4b.cell 4
  have c5 := K4b.cell 5
  have c6 := K4b.cell 6
  have c7 := K4b.cell 7
  have c9 := KS3.cell 0
  go_wp2
  refine bodyPost_ret (v := .tuple #[.agg #[.int .u64 W8.zero.a0, .int .u64 W8.zero.a1, .int .u64 W8.zero.a2, .int .u64 W8.zero.a3, .int .u64 W8.zero.a4, .int .u64 W8.zero.a5, .int .u64 W8.zero.a6, .int .u64 W8.zero.a7], .agg #[.int .u64 (s : Int)], .int .i64 0]) (by simp [results, Tryz.results14, go_sem, c0, c1, c2, c3, c4, c5, c6, c7, c9, W8.zero]) rfl ?_
  exact ⟨rfl, hl2⟩
set_option maxRecDepth 100000 in
set_option maxHeartbeats 4000000 in
theorem rWide_low (s : Nat) (n : W8) (hn : n.ok) (h1 : n.toInt < 1) (w : World) :
  Calls Tryz.prog 14 #[.agg #[.int .u64 (s : Nat)], .agg #[.int .u64 n.a0, .int .u64 n.a1, .int .u64 n.a2, .int .u64 n.a3, .int .u64 n.a4, .int .u64 n.a5, .int .u64 n.a6, .int .u64 n.a7]] w (WidEnd w W8.zero 0 2) := by
 have HSG := Lib.hid (fun w => rSign_any n hn w)
 have hsg : ordR n.toInt < 1 := by unfold ordR; split; · decide
                                   ·split; · decide
                                    ·omega
 obtain ⟨sg, hsgv⟩ : ∃ z, ordR n.toInt = z := ⟨_, rfl⟩
 rw [hsgv] at hsg HSG
 clear hn h1 hsgv
 go_enter Tryz.func14, Tryz.ntmps14
 go_upto_region 1 with (fail)
 refine name4 (Q := fun W => Code.wp _ _ _ _ W) ?_
 intro W l0 hsz k2 k3 k4 k5
 have hw : W.heap.size > w.heap.size + 3 := hsz
 clear hsz
 have d0 := k3.cell 0
 have d1 := k3.cell 1
 have d2 := k3.cell 2
 have d3 := k3.cell 3
 have d4 := k3.cell 4
 have d5 := k3.cell 5
 have d6 := k3.cell 6
 have d7 := k3.cell 7
 go_wp2_with fail
 refine (HSG.out W).mono ?_
 rintro e W1 ⟨rfl, la⟩
 clear d0 d1 d2 d3 d4 d5 d6 d7
 replace k4 := k4.later la
 replace k5 := k5.later la
 replace l0 := l0.trans la
 clear la HSG k2 k3
 have p0 := k4.cell 0
 have p1 := k4.cell 1
 have p2 := k4.cell 2
 have p3 := k4.cell 3
 have p4 := k4.cell 4
 have p5 := k4.cell 5
 have p6 := k4.cell 6
 have p7 := k4.cell 7
 have f0 := k4.frozen 0
 have f1 := k4.frozen 1
 have f2 := k4.frozen 2
 have f3 := k4.frozen 3
 have f4 := k4.frozen 4
 have f5 := k4.frozen 5
 have f6 := k4.frozen 6
 have f7 := k4.frozen 7
 have p9 := k5.cell 0
 have f9 := k5.frozen 0
 have l4 := k4.lt
 have l5 := k5.lt
 go_wp2
 refine name_put8e (Q := fun W => bodyPost _ _ _ _ _ W) k4 k5 (by omega) ?_
 intro X1 j4 j5 lp
 have LF := lp.lat l0 (fun q h => by omega)
 have c0 := j4.cell 0
 have c1 := j4.cell 1
 have c2 := j4.cell 2
 have c3 := j4.cell 3
 have c4 := j4.cell 4
 have c5 := j4.cell 5
 have c6 := j4.cell 6
 have c7 := j4.cell 7
 have c9 := j5.cell 0
 refine bodyPost_ret (v := .tuple #[.agg #[.int .u64 W8.zero.a0, .int .u64 W8.zero.a1, .int .u64 W8.zero.a2, .int .u64 W8.zero.a3, .int .u64 W8.zero.a4, .int .u64 W8.zero.a5, .int .u64 W8.zero.a6, .int .u64 W8.zero.a7], .agg #[.int .u64 0], .int .i64 2]) (by simp [results, Tryz.results14, go_sem, c0, c1, c2, c3, c4, c5, c6, c7, c9, W8.zero]) rfl ?_
 exact ⟨rfl, LF⟩
theorem rWide_any (s : Nat) (hs : s < 18446744073709551616) (n : W8) (hn : n.ok) (w : World) :
  Calls Tryz.prog 14 #[.agg #[.int .u64 s], .agg #[.int .u64 n.a0, .int .u64 n.a1, .int .u64 n.a2, .int .u64 n.a3, .int .u64 n.a4, .int .u64 n.a5, .int .u64 n.a6, .int .u64 n.a7]] w (WidEnd w (W8.of (widV s n.toInt)) (widS s n.toInt) (widE s n.toInt)) := by
 by_cases h : n.toInt < 1
 ·have e0 : W8.of (widV s n.toInt) = W8.zero := by rw [widV, if_pos h, W8.zero_eq]
  rw [e0, widS, widE, if_pos h, if_pos h]
  exact rWide_low s n hn h w
 ·have h2 := (W8.toInt_bounds hn).2
  rw [widV, widS, widE, if_neg h, if_neg h, if_neg h, chWid]
  by_cases hb : blen (n.toInt - 1) = 0
  ·rw [if_pos hb, optI, optT, optE, ← W8.zero_eq]
   exact rWide_one s n n.toInt rfl hn (by omega) h2 hb w
  ·rw [if_neg hb]
   exact rWide_in s n n.toInt rfl hn (by omega) h2 _ 0 rfl hb hs w
end Go.Proofs.YtogkkhaepfablaaGreat
