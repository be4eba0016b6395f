/- Several texts in one: RdMk. -/
import Derived.Test.YtakhiomcneikkaaGreatH20
import Derived.Test.YtakhiomcneikkaaGreatH49
import Derived.Test.YtakhiomcneikkaaGreatH50
import Derived.Test.YtakhiomcneikkaaGreatH52
namespace Go.Proofs.YtakhiomcneikkaaGreat
open Go.RowKit
set_option linter.unusedSimpArgs false
set_option linter.unusedVariables false
set_option maxRecDepth 100000
theorem spell81 (T : Array Value) (h : T.size = 81) : ∃ f : Nat → Value, (∀ k, f k = T.getD k undef) ∧ T = #[f 0, f 1, f 2, f 3, f 4, f 5, f 6, f 7, f 8, f 9, f 10, f 11, f 12, f 13, f 14, f 15, f 16, f 17, f 18, f 19, f 20, f 21, f 22, f 23, f 24, f 25, f 26, f 27, f 28, f 29, f 30, f 31, f 32, f 33, f 34, f 35, f 36, f 37, f 38, f 39, f 40, f 41, f 42, f 43, f 44, f 45, f 46, f 47, f 48, f 49, f 50, f 51, f 52, f 53, f 54, f 55, f 56, f 57, f 58, f 59, f 60, f 61, f 62, f 63, f 64, f 65, f 66, f 67, f 68, f 69, f 70, f 71, f 72, f 73, f 74, f 75, f 76, f 77, f 78, f 79, f 80] := ⟨fun k => T.getD k undef, fun _ => rfl, (spell 81 T h).trans (by kernel_rfl)⟩
noncomputable def mk9_rows (AX : Option Addr) (nX cX : Nat) (AR : Option Addr) (nR cR : Nat) (Am : Option Addr) (cm : Nat) (An : Option Addr) (cn nm : Nat) (ee ck : Int) (g6 : Nat) (Ad : Option Addr) (nd cd NO : Nat) (OL : List (Int × Int)) (b1 b2 : Bool) : List SRow := [
 ⟨.move (.tmp 12), some 44, none, [], fun v _ => v = .slice Am nm cm⟩,
 ⟨.move (.tmp 14), some 45, none, [], fun v _ => v = .slice An nm cn⟩,
 ⟨.call { callee := .value (.func 10), args := #[.tmp 44, .tmp 45], argTypes := #[27, 27] }, some 46, none, [0, 1], fun v _ => v = .bool true⟩,
 ⟨.unOp .not 4 (.tmp 46), some 47, none, [2], fun v _ => v = .bool false⟩,
 ⟨.move (.tmp 47), some 48, none, [3, 2], fun v _ => v = .bool false⟩,
 ⟨.move (.tmp 13), some 49, some (4, false), [4], fun v _ => v = .int .i64 ee⟩,
 ⟨.move (.tmp 15), some 50, some (4, false), [4], fun v _ => v = .int .i64 ee⟩,
 ⟨.binOp .neq 31 (.tmp 49) (.tmp 50) 31, some 51, some (4, false), [5, 6, 4], fun v _ => v = .bool false⟩,
 ⟨.pick (.tmp 48) (.const (.bool true)) (.tmp 51), some 52, none, [4, 7], fun v _ => v = .bool false⟩,
 ⟨.move (.tmp 52), some 53, none, [8, 4], fun v _ => v = .bool false⟩,
 ⟨.move (.tmp 11), some 54, some (9, false), [9], fun v _ => v = .slice AX nX cX⟩,
 ⟨.call { callee := .value (.func 11), args := #[.tmp 54], argTypes := #[27] }, some 55, some (9, false), [10, 9, 9], fun v _ => v = .int .i64 ck⟩,
 ⟨.move (.tmp 11), some 56, some (9, false), [9], fun v _ => v = .slice AX nX cX⟩,
 ⟨.call { callee := .value (.func 12), args := #[.tmp 56], argTypes := #[27] }, some 57, some (9, false), [12, 11, 9], fun v _ => v = .int .i64 ck⟩,
 ⟨.binOp .neq 31 (.tmp 55) (.tmp 57) 31, some 58, some (9, false), [11, 13, 9], fun v _ => v = .bool false⟩,
 ⟨.pick (.tmp 53) (.const (.bool true)) (.tmp 58), some 59, none, [9, 14], fun v _ => v = .bool false⟩,
 ⟨.move (.tmp 59), some 60, none, [15, 13], fun v _ => v = .bool false⟩,
 ⟨.move (.tmp 11), some 61, some (16, false), [16], fun v _ => v = .slice AX nX cX⟩,
 ⟨.move (.tmp 9), some 62, some (16, false), [16], fun v _ => v = .slice AR nR cR⟩,
 ⟨.call { callee := .value (.func 13), args := #[.tmp 61, .tmp 62], argTypes := #[27, 27] }, some 63, some (16, false), [17, 18, 16, 16], fun v _ => v = .bool b1⟩,
 ⟨.move (.tmp 11), some 64, some (16, false), [16], fun v _ => v = .slice AX nX cX⟩,
 ⟨.move (.tmp 9), some 65, some (16, false), [16], fun v _ => v = .slice AR nR cR⟩,
 ⟨.call { callee := .value (.func 10), args := #[.tmp 64, .tmp 65], argTypes := #[27, 27] }, some 66, some (16, false), [20, 21, 19, 16], fun v _ => v = .bool b1⟩,
 ⟨.binOp .neq 4 (.tmp 63) (.tmp 66) 4, some 67, some (16, false), [19, 22, 16], fun v _ => v = .bool false⟩,
 ⟨.pick (.tmp 60) (.const (.bool true)) (.tmp 67), some 68, none, [16, 23], fun v _ => v = .bool false⟩,
 ⟨.move (.tmp 68), some 69, none, [24, 22], fun v _ => v = .bool false⟩,
 ⟨.move (.tmp 9), some 70, some (25, false), [25], fun v _ => v = .slice AR nR cR⟩,
 ⟨.load 25 (.tmp 6), some 71, some (25, false), [25], fun v _ => v = .agg #[.slice Ad nd cd]⟩,
 ⟨.call { callee := .value (.func 6), args := #[.tmp 71], argTypes := #[25] }, some 72, some (25, false), [27, 25, 25], RadV NO OL⟩,
 ⟨.call { callee := .value (.func 13), args := #[.tmp 70, .tmp 72], argTypes := #[27, 27] }, some 73, some (25, false), [26, 28, 28, 25], fun v _ => v = .bool b2⟩,
 ⟨.move (.tmp 9), some 74, some (25, false), [25], fun v _ => v = .slice AR nR cR⟩,
 ⟨.load 25 (.tmp 6), some 75, some (25, false), [25], fun v _ => v = .agg #[.slice Ad nd cd]⟩,
 ⟨.call { callee := .value (.func 6), args := #[.tmp 75], argTypes := #[25] }, some 76, some (25, false), [31, 29, 25], RadV NO OL⟩,
 ⟨.call { callee := .value (.func 10), args := #[.tmp 74, .tmp 76], argTypes := #[27, 27] }, some 77, some (25, false), [30, 32, 32, 25], fun v _ => v = .bool b2⟩,
 ⟨.binOp .neq 4 (.tmp 73) (.tmp 77) 4, some 78, some (25, false), [29, 33, 25], fun v _ => v = .bool false⟩,
 ⟨.pick (.tmp 69) (.const (.bool true)) (.tmp 78), some 79, none, [25, 34], fun v _ => v = .bool false⟩]
noncomputable def mk9_base (AX : Option Addr) (nX cX : Nat) (AR : Option Addr) (nR cR : Nat) (Am : Option Addr) (cm : Nat) (An : Option Addr) (cn nm : Nat) (ee ck : Int) (g6 : Nat) (Ad : Option Addr) (nd cd NO : Nat) (OL : List (Int × Int)) (b1 b2 : Bool) (v0 v1 v2 v3 v4 v5 v7 v8 v10 v16 v17 v18 v19 v20 v21 v22 v23 v24 v25 v26 v27 v28 v29 v30 v31 v32 v33 v34 v35 v36 v37 v38 v39 v40 v41 v42 v43 v80 : Value) : List (Nat × Value) := [(6, .pointer (some ⟨g6, 0, none⟩)), (9, .slice AR nR cR), (11, .slice AX nX cX), (12, .slice Am nm cm), (13, .int .i64 ee), (14, .slice An nm cn), (15, .int .i64 ee), (0, v0), (1, v1), (2, v2), (3, v3), (4, v4), (5, v5), (7, v7), (8, v8), (10, v10), (16, v16), (17, v17), (18, v18), (19, v19), (20, v20), (21, v21), (22, v22), (23, v23), (24, v24), (25, v25), (26, v26), (27, v27), (28, v28), (29, v29), (30, v30), (31, v31), (32, v32), (33, v33), (34, v34), (35, v35), (36, v36), (37, v37), (38, v38), (39, v39), (40, v40), (41, v41), (42, v42), (43, v43), (80, v80)]
set_option maxRecDepth 100000 in
set_option maxHeartbeats 4000000 in
theorem mk9_steps (V : World) (AX : Option Addr) (nX cX : Nat) (AR : Option Addr) (nR cR : Nat) (Am : Option Addr) (cm : Nat) (An : Option Addr) (cn nm : Nat) (ee ck : Int) (g6 : Nat) (Ad : Option Addr) (nd cd NO : Nat) (OL : List (Int × Int)) (b1 b2 : Bool) (v0 v1 v2 v3 v4 v5 v7 v8 v10 v16 v17 v18 v19 v20 v21 v22 v23 v24 v25 v26 v27 v28 v29 v30 v31 v32 v33 v34 v35 v36 v37 v38 v39 v40 v41 v42 v43 v80 : Value) (HS1 : ∀ w, Lat V w → Calls Tryz.prog 10 #[.slice Am nm cm, .slice An nm cn] w (fun e w' => e = .returned (.bool true) ∧ Lat w w')) (HC1 : ∀ w, Lat V w → Calls Tryz.prog 11 #[.slice AX nX cX] w (fun e w' => e = .returned (.int .i64 ck) ∧ Lat w w')) (HC2 : ∀ w, Lat V w → Calls Tryz.prog 12 #[.slice AX nX cX] w (fun e w' => e = .returned (.int .i64 ck) ∧ Lat w w')) (HP1 : ∀ w, Lat V w → Calls Tryz.prog 13 #[.slice AX nX cX, .slice AR nR cR] w (fun e w' => e = .returned (.bool b1) ∧ Lat w w')) (HP2 : ∀ w, Lat V w → Calls Tryz.prog 10 #[.slice AX nX cX, .slice AR nR cR] w (fun e w' => e = .returned (.bool b1) ∧ Lat w w')) (HL6 : ∀ w', Lat V w' → w'.cell? ⟨g6, 0, none⟩ = some (.slice Ad nd cd)) (HD : ∀ w, Lat V w → Calls Tryz.prog 6 #[.agg #[.slice Ad nd cd]] w (Out4 w (RadV NO OL))) (HQ1 : ∀ w A c, Lat V w → RowM w A 2 NO (tRows OL) → Calls Tryz.prog 13 #[.slice AR nR cR, .slice A NO c] w (fun e w' => e = .returned (.bool b2) ∧ Lat w w')) (HQ2 : ∀ w A c, Lat V w → RowM w A 2 NO (tRows OL) → Calls Tryz.prog 10 #[.slice AR nR cR, .slice A NO c] w (fun e w' => e = .returned (.bool b2) ∧ Lat w w')) :
  AllStepsN Tryz.prog (mk9_rows AX nX cX AR nR cR Am cm An cn nm ee ck g6 Ad nd cd NO OL b1 b2) (mk9_base AX nX cX AR nR cR Am cm An cn nm ee ck g6 Ad nd cd NO OL b1 b2 v0 v1 v2 v3 v4 v5 v7 v8 v10 v16 v17 v18 v19 v20 v21 v22 v23 v24 v25 v26 v27 v28 v29 v30 v31 v32 v33 v34 v35 v36 v37 v38 v39 v40 v41 v42 v43 v80) V (mk9_rows AX nX cX AR nR cR Am cm An cn nm ee ck g6 Ad nd cd NO OL b1 b2) := by
 refine n1 ?_ (eb 12) (fun ev w hl ec e1 d ty p af g => ?_)
 refine n1 ?_ (eb 14) (fun ev w hl ec e1 d ty p af g => ?_)
 refine nG ?_ fun a w hl hb hd o ho => by obtain ⟨_, e1, rfl⟩ := hd 0 _ _ (by simp) rfl rfl; obtain ⟨_, e2, rfl⟩ := hd 1 _ _ (by simp) rfl rfl; exact rcC o ho (HS1 w hl)
 refine n1 ?_ (ed 2) (fun ev w hl ec e1 d ty p af g => ?_)
 refine n1 ?_ (ed 3) (fun ev w hl ec e1 d ty p af g => ?_)
 refine n1 ?_ (eb 13) (fun ev w hl ec e1 d ty p af g => ?_)
 refine n1 ?_ (eb 15) (fun ev w hl ec e1 d ty p af g => ?_)
 refine n2 ?_ (ed 5) (ed 6) (fun ev w hl ec e1 e2 d ty p af g => ?_)
 refine n2 ?_ (ed 4) (ed 7) (fun ev w hl ec e1 e2 d ty p af g => ?_)
 refine n1 ?_ (ed 8) (fun ev w hl ec e1 d ty p af g => ?_)
 refine n1 ?_ (eb 11) (fun ev w hl ec e1 d ty p af g => ?_)
 refine nG ?_ fun a w hl hb hd o ho => by obtain ⟨_, e1, rfl⟩ := hd 10 _ _ (by simp) rfl rfl; exact rcC o ho (HC1 w hl)
 refine n1 ?_ (eb 11) (fun ev w hl ec e1 d ty p af g => ?_)
 refine nG ?_ fun a w hl hb hd o ho => by obtain ⟨_, e1, rfl⟩ := hd 12 _ _ (by simp) rfl rfl; exact rcC o ho (HC2 w hl)
 refine n2 ?_ (ed 11) (ed 13) (fun ev w hl ec e1 e2 d ty p af g => ?_)
 refine n2 ?_ (ed 9) (ed 14) (fun ev w hl ec e1 e2 d ty p af g => ?_)
 refine n1 ?_ (ed 15) (fun ev w hl ec e1 d ty p af g => ?_)
 refine n1 ?_ (eb 11) (fun ev w hl ec e1 d ty p af g => ?_)
 refine n1 ?_ (eb 9) (fun ev w hl ec e1 d ty p af g => ?_)
 refine nG ?_ fun a w hl hb hd o ho => by obtain ⟨_, e1, rfl⟩ := hd 17 _ _ (by simp) rfl rfl; obtain ⟨_, e2, rfl⟩ := hd 18 _ _ (by simp) rfl rfl; exact rcC o ho (HP1 w hl)
 refine n1 ?_ (eb 11) (fun ev w hl ec e1 d ty p af g => ?_)
 refine n1 ?_ (eb 9) (fun ev w hl ec e1 d ty p af g => ?_)
 refine nG ?_ fun a w hl hb hd o ho => by obtain ⟨_, e1, rfl⟩ := hd 20 _ _ (by simp) rfl rfl; obtain ⟨_, e2, rfl⟩ := hd 21 _ _ (by simp) rfl rfl; exact rcC o ho (HP2 w hl)
 refine n2 ?_ (ed 19) (ed 22) (fun ev w hl ec e1 e2 d ty p af g => ?_)
 refine n2 ?_ (ed 16) (ed 23) (fun ev w hl ec e1 e2 d ty p af g => ?_)
 refine n1 ?_ (ed 24) (fun ev w hl ec e1 d ty p af g => ?_)
 refine n1 ?_ (eb 9) (fun ev w hl ec e1 d ty p af g => ?_)
 refine n1 ?_ (eb 6) (fun ev w hl ec e1 d ty p af g => by unfold execOp; simp only [e1, ec]; have hc := HL6 w hl; go_simp)
 refine nG ?_ fun a w hl hb hd o ho => by obtain ⟨_, e1, rfl⟩ := hd 27 _ _ (by simp) rfl rfl; exact rcO o ho (HD w hl)
 refine nG ?_ fun a w hl hb hd o ho => by obtain ⟨_, e1, rfl⟩ := hd 26 _ _ (by simp) rfl rfl; obtain ⟨_, e2, A7, c7, rfl, r7⟩ := hd 28 _ _ (by simp) rfl rfl; exact rcC o ho (HQ1 w A7 c7 hl r7)
 refine n1 ?_ (eb 9) (fun ev w hl ec e1 d ty p af g => ?_)
 refine n1 ?_ (eb 6) (fun ev w hl ec e1 d ty p af g => by unfold execOp; simp only [e1, ec]; have hc := HL6 w hl; go_simp)
 refine nG ?_ fun a w hl hb hd o ho => by obtain ⟨_, e1, rfl⟩ := hd 31 _ _ (by simp) rfl rfl; exact rcO o ho (HD w hl)
 refine nG ?_ fun a w hl hb hd o ho => by obtain ⟨_, e1, rfl⟩ := hd 30 _ _ (by simp) rfl rfl; obtain ⟨_, e2, A7, c7, rfl, r7⟩ := hd 32 _ _ (by simp) rfl rfl; exact rcC o ho (HQ2 w A7 c7 hl r7)
 refine n2 ?_ (ed 29) (ed 33) (fun ev w hl ec e1 e2 d ty p af g => ?_)
 refine n2 ?_ (ed 25) (ed 34) (fun ev w hl ec e1 e2 d ty p af g => ?_)
 ·exact AllStepsN.none
 all_goals (unfold execOp; first | simp only [e1, e2, ec] | simp only [e1, ec] | simp only [ec])
 all_goals go_simp
def eqR (a b : List (Int × Int)) : Bool := decide (a = b)
theorem mk_facts (cX cR cm cn : Nat) {AX AR Am An Ad : Option Addr} {nX nR nm nd cd NO g6 : Nat} {LX RL OL : List (Int × Int)} {ck : Int} {b1 b2 : Bool} {V9 : World} (HX : RowM V9 AX 2 nX (tRows LX)) (HR : RowM V9 AR 2 nR (tRows RL)) (rm : RowM V9 Am 2 nm (tRows (makeR LX))) (rn : RowM V9 An 2 nm (tRows (makeR LX)))
  (hX : nX ≤ 1000000) (hR : nR ≤ 1000000) (hm : nm ≤ 1000000) (hck : ckE LX = ck) (hb1 : eqR LX RL = b1) (hb2 : eqR RL OL = b2) (HG : ∀ w', Lat V9 w' → w'.cell? ⟨g6, 0, none⟩ = some (.slice Ad nd cd)) (HD : ∀ w, Lat V9 w → Calls Tryz.prog 6 #[.agg #[.slice Ad nd cd]] w (RadPost1 w NO OL)) :
  (∀ w, Lat V9 w → Calls Tryz.prog 10 #[.slice Am nm cm, .slice An nm cn] w (fun e w' => e = .returned (.bool true) ∧ Lat w w')) ∧ (∀ w, Lat V9 w → Calls Tryz.prog 11 #[.slice AX nX cX] w (fun e w' => e = .returned (.int .i64 ck) ∧ Lat w w')) ∧ (∀ w, Lat V9 w → Calls Tryz.prog 12 #[.slice AX nX cX] w (fun e w' => e = .returned (.int .i64 ck) ∧ Lat w w')) ∧ (∀ w, Lat V9 w → Calls Tryz.prog 13 #[.slice AX nX cX, .slice AR nR cR] w (fun e w' => e = .returned (.bool b1) ∧ Lat w w')) ∧ (∀ w, Lat V9 w → Calls Tryz.prog 10 #[.slice AX nX cX, .slice AR nR cR] w (fun e w' => e = .returned (.bool b1) ∧ Lat w w')) ∧ (∀ w', Lat V9 w' → w'.cell? ⟨g6, 0, none⟩ = some (.slice Ad nd cd)) ∧ (∀ w, Lat V9 w → Calls Tryz.prog 6 #[.agg #[.slice Ad nd cd]] w (Out4 w (RadV NO OL))) ∧ (∀ w A c, Lat V9 w → RowM w A 2 NO (tRows OL) → Calls Tryz.prog 13 #[.slice AR nR cR, .slice A NO c] w (fun e w' => e = .returned (.bool b2) ∧ Lat w w')) ∧ (∀ w A c, Lat V9 w → RowM w A 2 NO (tRows OL) → Calls Tryz.prog 10 #[.slice AR nR cR, .slice A NO c] w (fun e w' => e = .returned (.bool b2) ∧ Lat w w')) := by
 subst hck hb1 hb2
 refine ⟨fun w h => ?_, fun w h => check_any AX nX cX LX w (HX.later h) hX, fun w h => rCheckR_any AX nX cX LX w (HX.later h) hX, fun w h => same_rad AX nX cX LX AR nR cR RL w (HX.later h) (HR.later h) hX, fun w h => rSameR_any AX nX cX LX AR nR cR RL w (HX.later h) (HR.later h) hX, HG, fun w h => ?_, fun w A c h r => same_rad AR nR cR RL A NO c OL w (HR.later h) r hR, fun w A c h r => rSameR_any AR nR cR RL A NO c OL w (HR.later h) r hR⟩
 ·have := rSameR_any Am nm cm (makeR LX) An nm cn (makeR LX) w (rm.later h) (rn.later h) hm
  rwa [decide_eq_true rfl] at this
 ·refine (HD w h).mono ?_
  rintro e w' ⟨A', c', rfl, r, l'⟩
  exact ⟨_, rfl, l', A', c', rfl, r⟩
theorem makeR_len (l : List (Int × Int)) : (makeR l).length ≤ 200 := by
 unfold makeR
 split
 ·rename_i h; exact (makeErr_parts h).2.2.2
 ·exact Nat.zero_le _
theorem idx4 (A0 : Option Addr) (n0 c0 : Nat) (A1 : Option Addr) (n1 c1 : Nat) (A2 : Option Addr) (n2' c2 : Nat) (A3 : Option Addr) (n3 c3 : Nat) : (∀ w, (Instr.index 30 (.agg #[.slice A0 n0 c0, .slice A1 n1 c1, .slice A2 n2' c2, .slice A3 n3 c3]) (.int .i64 0)).run Tryz.prog w = .ok (.slice A0 n0 c0) w) ∧ (∀ w, (Instr.index 30 (.agg #[.slice A0 n0 c0, .slice A1 n1 c1, .slice A2 n2' c2, .slice A3 n3 c3]) (.int .i64 1)).run Tryz.prog w = .ok (.slice A1 n1 c1) w) ∧ (∀ w, (Instr.index 30 (.agg #[.slice A0 n0 c0, .slice A1 n1 c1, .slice A2 n2' c2, .slice A3 n3 c3]) (.int .i64 2)).run Tryz.prog w = .ok (.slice A2 n2' c2) w) ∧ (∀ w, (Instr.index 30 (.agg #[.slice A0 n0 c0, .slice A1 n1 c1, .slice A2 n2' c2, .slice A3 n3 c3]) (.int .i64 3)).run Tryz.prog w = .ok (.slice A3 n3 c3) w) := by
 refine ⟨fun w => ?_, fun w => ?_, fun w => ?_, fun w => ?_⟩
 all_goals (unfold Instr.index; go_simp)
set_option maxHeartbeats 16000000 in
theorem makes_walk (A : Option Addr) (n c : Nat) (l : List (Int × Int)) (A1 : Option Addr) (nb cb : Nat) (ds1 : List (Int × Int)) (Ad : Option Addr) (nd cd : Nat) (ds2 : List (Int × Int)) (b : Bool) (w : World)
  (hs : RowM w A 2 n (tRows l)) (hc : n ≤ c) (h1 : RowM w A1 2 nb (ds1.map dRow)) (h2 : RowM w Ad 2 nd (ds2.map dRow)) (h16a : ∀ x ∈ ds1, In16 x) (h16b : ∀ x ∈ ds2, In16 x) :
  Calls Tryz.prog 3 #[.slice A n c, .agg #[.slice A1 nb cb], .agg #[.slice Ad nd cd], .bool b] w (fun e w' => e = .returned (.bool true) ∧ Lat w w') := by
 have da := draft_make (l := draftL 6 ds1) (by unfold draftL; rw [List.length_map, List.length_take]; omega) (fun x hx => by obtain ⟨y, _, rfl⟩ := List.mem_map.1 hx; exact dT_in y)
 obtain ⟨RL, hRL⟩ : ∃ a, makeL (draftL 6 ds1) = a := ⟨_, rfl⟩
 obtain ⟨OL, hOL⟩ : ∃ a, makeL (draftL 6 ds2) = a := ⟨_, rfl⟩
 rw [hRL] at da
 obtain ⟨_, va, _, _⟩ := da
 have hr2 := va.len
 obtain ⟨nR, hnR⟩ : ∃ n, RL.length = n := ⟨_, rfl⟩
 obtain ⟨NO, hNO⟩ : ∃ n, OL.length = n := ⟨_, rfl⟩
 obtain ⟨LA, hLA⟩ : ∃ L, ownL l false = L := ⟨_, rfl⟩
 obtain ⟨LB, hLB⟩ : ∃ L, ownL l b = L := ⟨_, rfl⟩
 have ha1 := ownL_len l false
 have hb1 := ownL_len l b
 rw [hLA] at ha1
 rw [hLB] at hb1
 obtain ⟨N4, hN4⟩ : ∃ n, LA.length = n := ⟨_, rfl⟩
 obtain ⟨N5, hN5⟩ : ∃ n, LB.length = n := ⟨_, rfl⟩
 obtain ⟨LC, hLC⟩ : ∃ L, LA ++ RL = L := ⟨_, rfl⟩
 obtain ⟨N7, hN7⟩ : ∃ n, LC.length = n := ⟨_, rfl⟩
 have h7 : N7 = N4 + nR := by rw [← hN7, ← hLC, List.length_append, hN4, hnR]
 have HD1 := Lib.hid (fun w' (l : Lat w w') => draft_rad (c := cb) (h1.later l) h16a hRL hnR)
 have HD2 := Lib.hid (fun w' (l : Lat w w') => draft_rad (c := cd) (h2.later l) h16b hOL hNO)
 have HOA := Lib.hid (fun w' (q : Lat w w') => hLA ▸ own_any A n c l false w' (hs.later q) hc)
 have HOB := Lib.hid (fun w' (q : Lat w w') => hLB ▸ own_any A n c l b w' (hs.later q) hc)
 have HBD : Hid (nR ≤ 200 ∧ N4 ≤ 401 ∧ N5 ≤ 401 ∧ N7 ≤ 601) := ⟨by omega, by omega, by omega, by omega⟩
 have HEQ : Hid (RL.length = nR ∧ LA.length = N4 ∧ LB.length = N5 ∧ LC.length = N7 ∧ LA ++ RL = LC) := ⟨hnR, hN4, hN5, hN7, hLC⟩
 clear hs hc h1 h2 h16a h16b va hr2 hRL hOL hnR hNO hLA hLB ha1 hb1 hN4 hN5 hLC hN7 h7
 go_enter Tryz.func3, Tryz.ntmps3
 go_upto_region 1 with (fail)
 refine name2 (Q := fun W => Code.wp _ _ _ _ W) ?_
 intro W hl hsz k3 k4
 have HG5 := Lib.hid (k3.ever 0 rfl)
 have HG6' := Lib.hid (k4.ever 0 rfl)
 clear k3 k4 hsz
 obtain ⟨g5, hg5⟩ : ∃ z, w.heap.size = z := ⟨_, rfl⟩
 simp only [hg5] at HG5 HG6' ⊢
 clear hg5
 obtain ⟨g6, hg6⟩ : ∃ z, g5 + 1 = z := ⟨_, rfl⟩
 simp only [hg6] at HG6' ⊢
 clear hg6
 go_wp2_with fail
 refine (works3_any W).mono ?_
 rintro e w1 ⟨rfl, m1⟩
 have d1 := HG5.out w1 m1
 go_wp2_with fail
 refine (HD1.out _ (hl.trans m1)).mono ?_
 rintro e w3 ⟨AR, cR, rfl, rR, m3⟩
 have K3 := m1.trans m3
 clear d1 m1
 go_wp2_with fail
 refine (HOA.out w3 (hl.trans K3)).mono ?_
 rintro e w4 ⟨v4, rfl, o4, m4⟩
 obtain ⟨A4, c4, rfl, r4⟩ := own_row o4 HEQ.out.2.1
 have K4 := K3.trans m4
 clear o4
 go_wp2_with fail
 refine (HOB.out w4 (hl.trans K4)).mono ?_
 rintro e w5 ⟨v5, rfl, o5, m5⟩
 obtain ⟨A5, c5, rfl, r5⟩ := own_row o5 HEQ.out.2.2.1
 have K5 := K4.trans m5
 clear o5
 go_wp2_with fail
 refine (HOA.out w5 (hl.trans K5)).mono ?_
 rintro e w6 ⟨v6, rfl, o6, m6⟩
 have O6 := Lib.hid o6
 have RR6 := Lib.hid (rR.later ((m4.trans m5).trans m6))
 have hle := m6.size
 have hbd : (tRows LA).length + nR ≤ 100000000 := by rw [tRows_len, HEQ.out.2.1]; have := HBD.out; omega
 clear o6
 go_wp2_with (at_builtin; refine wpList_glueM2 rfl _ _ 22 27 (by rfl) w5.heap.size 68 (.agg #[.int .i64 0, .int .i64 0]) 2 16 Tryz.underlying22 Tryz.underlying27 termInfo rfl (by decide) (by decide) _ (tRows LA) (tRows RL) (tRows_one _) _ (by rfl) O6.out AR nR cR (by rfl) RR6.out hbd hle ?_; intro v7 V g1 g2 g3; rw [← tRows_app, HEQ.out.2.2.2.2] at g1; obtain ⟨A7, c7, rfl, r7⟩ := own_row g1 HEQ.out.2.2.2.1)
 have M7 := g3 w5 m6 (Nat.le_refl _)
 have HX0 := Lib.hid (r4.later (m5.trans M7))
 have HX1 := Lib.hid (r5.later M7)
 have HRR := Lib.hid (rR.later ((m4.trans m5).trans M7))
 have HX3 := Lib.hid r7
 have KV := K5.trans M7
 have HG6 := Lib.hid (fun w' (q : Lat V w') => HG6'.out w' (KV.trans q))
 have HDO := Lib.hid (fun w' (q : Lat V w') => HD2.out w' (hl.trans (KV.trans q)))
 have HKV := Lib.hid (hl.trans KV)
 clear r4 r5 rR r7 g1 g2 g3 M7 m3 m4 m5 m6 K3 K4 K5 KV O6 RR6 hle hbd hl HD1 HD2 HOA HOB HEQ HG5 HG6'
 go_loopw [31] (fun iv wr => ∃ k : Nat, k ≤ 4 ∧ iv = .int .i64 (k : Nat) ∧ Lat V wr) (fun iv _ => 4 - (intOf iv).toNat)
 case atStart => exact ⟨0, by omega, rfl, Lat.refl _⟩
 case round =>
  obtain ⟨k, hk, rfl, hq⟩ := hrel
  rcases (show k = 0 ∨ k = 1 ∨ k = 2 ∨ k = 3 ∨ k = 4 by omega) with rfl | rfl | rfl | rfl | rfl
  ·have HIX := (idx4 A4 N4 c4 A5 N5 c5 AR nR cR A7 N7 c7).1
   go_upto_region 7 with (fail)
   go_wp2_with fail
   clear HIX
   refine (make_any A4 N4 c4 LA _ (HX0.out.later hq)).mono ?_
   rintro e w8 ⟨v8, rfl, o8, m8⟩
   have q8 := hq.trans m8
   obtain ⟨nm, hnm⟩ : ∃ N, (makeR LA).length = N := ⟨_, rfl⟩
   obtain ⟨ee, hee⟩ : ∃ z, makeErr LA = z := ⟨_, rfl⟩
   obtain ⟨ck, hck⟩ : ∃ z, ckE LA = z := ⟨_, rfl⟩
   obtain ⟨b1, hb1⟩ : ∃ z, eqR LA RL = z := ⟨_, rfl⟩
   obtain ⟨b2, hb2⟩ : ∃ z, eqR RL OL = z := ⟨_, rfl⟩
   obtain ⟨Am, cm, rfl, rm⟩ := own_row o8 hnm
   have HRM := Lib.hid rm
   simp only [hee]
   clear o8 rm
   go_wp2_with fail
   refine (rMakeR_any A4 N4 c4 LA w8 (HX0.out.later q8)).mono ?_
   rintro e w9 ⟨v9, rfl, o9, m9⟩
   have q9 := q8.trans m9
   obtain ⟨An, cn, rfl, rn⟩ := own_row o9 hnm
   have HRN := Lib.hid rn
   have hML := makeR_len LA
   simp only [hee]
   clear o9 rn
   go_upto_region 9 with (fail)
   obtain ⟨V9, rfl⟩ : ∃ z, z = w9 := ⟨_, rfl⟩
   obtain ⟨HS1, HC1, HC2, HP1, HP2, HL6, HD, HQ1, HQ2⟩ := mk_facts c4 cR cm cn (HX0.out.later q9) (HRR.out.later q9) (HRM.out.later m9) HRN.out (by have := HBD.out; omega) (by have := HBD.out; omega) (by omega) hck hb1 hb2 (fun w' h => HG6.out w' (q9.trans h)) (fun w h => HDO.out w (q9.trans h))
   have Q9 := Lib.hid q9
   clear hq m8 q8 m9 q9 hnm hee hck hb1 hb2 HRM HRN hML
   as_aux_lemma =>
   rename_i KN hKN
   refine wp_region_slotsN (mk9_rows A4 N4 c4 AR nR cR Am cm An cn nm ee ck g6 Ad nd cd NO OL b1 b2) (mk9_base A4 N4 c4 AR nR cR Am cm An cn nm ee ck g6 Ad nd cd NO OL b1 b2 _ _ _ _ _ _ _ _ _ _ _ _ _ _ _ _ _ _ _ _ _ _ _ _ _ _ _ _ _ _ _ _ _ _ _ _ _ _) 81 36 [[], [], [0, 1], [2], [3, 2], [4], [4], [5, 6, 4], [4, 7], [8, 4], [9], [10, 9, 9], [9], [12, 11, 9], [11, 13, 9], [9, 14], [15, 13], [16], [16], [17, 18, 16, 16], [16], [16], [20, 21, 19, 16], [19, 22, 16], [16, 23], [24, 22], [25], [25], [27, 25, 25], [26, 28, 28, 25], [25], [25], [31, 29, 25], [30, 32, 32, 25], [29, 33, 25], [25, 34]] (by kernel_rfl) (by kernel_rfl) (by kernel_rfl) (by kernel_rfl) (by kernel_rfl) (by kernel_rfl) (by rfl) rfl (base_of (by repeat (first | exact base_nil _ | refine base_consL rfl ?_))) (mk9_steps V9 A4 N4 c4 AR nR cR Am cm An cn nm ee ck g6 Ad nd cd NO OL b1 b2 _ _ _ _ _ _ _ _ _ _ _ _ _ _ _ _ _ _ _ _ _ _ _ _ _ _ _ _ _ _ _ _ _ _ _ _ _ _ HS1 HC1 HC2 HP1 HP2 HL6 HD HQ1 HQ2) ?_
   ·intro a9 W9 hsz9 hdf9 hL9 hbs hsl
    obtain ⟨v9, h9, q9⟩ := hsl 35 _ _ rfl rfl
    obtain rfl : v9 = .bool false := q9
    have w79 := slot_getD h9
    clear h9
    refine hKN _ _ ?_
    obtain ⟨T9, df9⟩ := a9
    obtain rfl : df9 = [] := hdf9
    obtain ⟨f, hf, rfl⟩ := spell81 T9 hsz9
    have XX := fun k v h => (hf k).trans (slot_getD (hbs k v h))
    have x6 : f 6 = .pointer (some ⟨g6, 0, none⟩) := XX 6 _ rfl
    have x9 : f 9 = .slice AR nR cR := XX 9 _ rfl
    have x11 : f 11 = .slice A4 N4 c4 := XX 11 _ rfl
    have x12 : f 12 = .slice Am nm cm := XX 12 _ rfl
    have x13 : f 13 = .int .i64 ee := XX 13 _ rfl
    have x14 : f 14 = .slice An nm cn := XX 14 _ rfl
    have x15 : f 15 = .int .i64 ee := XX 15 _ rfl
    have x79 := (hf 79).trans w79
    clear hbs hsl hf hsz9 hKN w79
    simp only [x6, x9, x11, x12, x13, x14, x15, XX 0 _ rfl, XX 1 _ rfl, XX 2 _ rfl, XX 3 _ rfl, XX 4 _ rfl, XX 5 _ rfl, XX 7 _ rfl, XX 8 _ rfl, XX 10 _ rfl, XX 16 _ rfl, XX 17 _ rfl, XX 18 _ rfl, XX 19 _ rfl, XX 20 _ rfl, XX 21 _ rfl, XX 22 _ rfl, XX 23 _ rfl, XX 24 _ rfl, XX 25 _ rfl, XX 26 _ rfl, XX 27 _ rfl, XX 28 _ rfl, XX 29 _ rfl, XX 30 _ rfl, XX 31 _ rfl, XX 32 _ rfl, XX 33 _ rfl, XX 34 _ rfl, XX 35 _ rfl, XX 36 _ rfl, XX 37 _ rfl, XX 38 _ rfl, XX 39 _ rfl, XX 40 _ rfl, XX 41 _ rfl, XX 42 _ rfl, XX 43 _ rfl, XX 80 _ rfl, x79]
    clear XX x6 x9 x11 x12 x13 x14 x15 x79
    have Q10 := Lib.hid (Q9.out.trans hL9)
    clear hL9 Q9 HS1 HC1 HC2 HP1 HP2 HL6 HD HQ1 HQ2
    obtain ⟨W8, rfl⟩ : ∃ z, z = W9 := ⟨_, rfl⟩
    have HRel : ∃ q : Nat, q ≤ 4 ∧ (Value.int .i64 1) = .int .i64 (q : Nat) ∧ Lat V W8 := ⟨1, by decide, rfl, Q10.out⟩
    go_wp2
    go_roundw
    case rel => first | exact HRel | exact ⟨_, HRel, rfl⟩ | exact ⟨_, _, HRel, rfl⟩ | exact ⟨_, _, _, HRel, rfl⟩ | exact ⟨_, _, _, _, HRel, rfl⟩ | exact ⟨_, _, _, _, _, HRel, rfl⟩ | exact ⟨_, _, _, _, _, _, HRel, rfl⟩ | exact ⟨_, _, _, _, _, _, _, HRel, rfl⟩ | exact ⟨_, _, _, _, _, _, _, _, HRel, rfl⟩ | exact ⟨_, _, _, _, _, _, _, _, _, HRel, rfl⟩ | exact ⟨_, _, _, _, _, _, _, _, _, _, HRel, rfl⟩ | exact ⟨_, _, _, _, _, _, _, _, _, _, _, HRel, rfl⟩ | exact ⟨_, _, _, _, _, _, _, _, _, _, _, _, HRel, rfl⟩ | exact ⟨_, _, _, _, _, _, _, _, _, _, _, _, _, HRel, rfl⟩ | exact ⟨_, _, _, _, _, _, _, _, _, _, _, _, _, _, HRel, rfl⟩
    case measure => decide
  ·have HIX := (idx4 A4 N4 c4 A5 N5 c5 AR nR cR A7 N7 c7).2.1
   go_upto_region 7 with (fail)
   go_wp2_with fail
   clear HIX
   refine (make_any A5 N5 c5 LB _ (HX1.out.later hq)).mono ?_
   rintro e w8 ⟨v8, rfl, o8, m8⟩
   have q8 := hq.trans m8
   obtain ⟨nm, hnm⟩ : ∃ N, (makeR LB).length = N := ⟨_, rfl⟩
   obtain ⟨ee, hee⟩ : ∃ z, makeErr LB = z := ⟨_, rfl⟩
   obtain ⟨ck, hck⟩ : ∃ z, ckE LB = z := ⟨_, rfl⟩
   obtain ⟨b1, hb1⟩ : ∃ z, eqR LB RL = z := ⟨_, rfl⟩
   obtain ⟨b2, hb2⟩ : ∃ z, eqR RL OL = z := ⟨_, rfl⟩
   obtain ⟨Am, cm, rfl, rm⟩ := own_row o8 hnm
   have HRM := Lib.hid rm
   simp only [hee]
   clear o8 rm
   go_wp2_with fail
   refine (rMakeR_any A5 N5 c5 LB w8 (HX1.out.later q8)).mono ?_
   rintro e w9 ⟨v9, rfl, o9, m9⟩
   have q9 := q8.trans m9
   obtain ⟨An, cn, rfl, rn⟩ := own_row o9 hnm
   have HRN := Lib.hid rn
   have hML := makeR_len LB
   simp only [hee]
   clear o9 rn
   go_upto_region 9 with (fail)
   obtain ⟨V9, rfl⟩ : ∃ z, z = w9 := ⟨_, rfl⟩
   obtain ⟨HS1, HC1, HC2, HP1, HP2, HL6, HD, HQ1, HQ2⟩ := mk_facts c5 cR cm cn (HX1.out.later q9) (HRR.out.later q9) (HRM.out.later m9) HRN.out (by have := HBD.out; omega) (by have := HBD.out; omega) (by omega) hck hb1 hb2 (fun w' h => HG6.out w' (q9.trans h)) (fun w h => HDO.out w (q9.trans h))
   have Q9 := Lib.hid q9
   clear hq m8 q8 m9 q9 hnm hee hck hb1 hb2 HRM HRN hML
   as_aux_lemma =>
   rename_i KN hKN
   refine wp_region_slotsN (mk9_rows A5 N5 c5 AR nR cR Am cm An cn nm ee ck g6 Ad nd cd NO OL b1 b2) (mk9_base A5 N5 c5 AR nR cR Am cm An cn nm ee ck g6 Ad nd cd NO OL b1 b2 _ _ _ _ _ _ _ _ _ _ _ _ _ _ _ _ _ _ _ _ _ _ _ _ _ _ _ _ _ _ _ _ _ _ _ _ _ _) 81 36 [[], [], [0, 1], [2], [3, 2], [4], [4], [5, 6, 4], [4, 7], [8, 4], [9], [10, 9, 9], [9], [12, 11, 9], [11, 13, 9], [9, 14], [15, 13], [16], [16], [17, 18, 16, 16], [16], [16], [20, 21, 19, 16], [19, 22, 16], [16, 23], [24, 22], [25], [25], [27, 25, 25], [26, 28, 28, 25], [25], [25], [31, 29, 25], [30, 32, 32, 25], [29, 33, 25], [25, 34]] (by kernel_rfl) (by kernel_rfl) (by kernel_rfl) (by kernel_rfl) (by kernel_rfl) (by kernel_rfl) (by rfl) rfl (base_of (by repeat (first | exact base_nil _ | refine base_consL rfl ?_))) (mk9_steps V9 A5 N5 c5 AR nR cR Am cm An cn nm ee ck g6 Ad nd cd NO OL b1 b2 _ _ _ _ _ _ _ _ _ _ _ _ _ _ _ _ _ _ _ _ _ _ _ _ _ _ _ _ _ _ _ _ _ _ _ _ _ _ HS1 HC1 HC2 HP1 HP2 HL6 HD HQ1 HQ2) ?_
   ·intro a9 W9 hsz9 hdf9 hL9 hbs hsl
    obtain ⟨v9, h9, q9⟩ := hsl 35 _ _ rfl rfl
    obtain rfl : v9 = .bool false := q9
    have w79 := slot_getD h9
    clear h9
    refine hKN _ _ ?_
    obtain ⟨T9, df9⟩ := a9
    obtain rfl : df9 = [] := hdf9
    obtain ⟨f, hf, rfl⟩ := spell81 T9 hsz9
    have XX := fun k v h => (hf k).trans (slot_getD (hbs k v h))
    have x6 : f 6 = .pointer (some ⟨g6, 0, none⟩) := XX 6 _ rfl
    have x9 : f 9 = .slice AR nR cR := XX 9 _ rfl
    have x11 : f 11 = .slice A5 N5 c5 := XX 11 _ rfl
    have x12 : f 12 = .slice Am nm cm := XX 12 _ rfl
    have x13 : f 13 = .int .i64 ee := XX 13 _ rfl
    have x14 : f 14 = .slice An nm cn := XX 14 _ rfl
    have x15 : f 15 = .int .i64 ee := XX 15 _ rfl
    have x79 := (hf 79).trans w79
    clear hbs hsl hf hsz9 hKN w79
    simp only [x6, x9, x11, x12, x13, x14, x15, XX 0 _ rfl, XX 1 _ rfl, XX 2 _ rfl, XX 3 _ rfl, XX 4 _ rfl, XX 5 _ rfl, XX 7 _ rfl, XX 8 _ rfl, XX 10 _ rfl, XX 16 _ rfl, XX 17 _ rfl, XX 18 _ rfl, XX 19 _ rfl, XX 20 _ rfl, XX 21 _ rfl, XX 22 _ rfl, XX 23 _ rfl, XX 24 _ rfl, XX 25 _ rfl, XX 26 _ rfl, XX 27 _ rfl, XX 28 _ rfl, XX 29 _ rfl, XX 30 _ rfl, XX 31 _ rfl, XX 32 _ rfl, XX 33 _ rfl, XX 34 _ rfl, XX 35 _ rfl, XX 36 _ rfl, XX 37 _ rfl, XX 38 _ rfl, XX 39 _ rfl, XX 40 _ rfl, XX 41 _ rfl, XX 42 _ rfl, XX 43 _ rfl, XX 80 _ rfl, x79]
    clear XX x6 x9 x11 x12 x13 x14 x15 x79
    have Q10 := Lib.hid (Q9.out.trans hL9)
    clear hL9 Q9 HS1 HC1 HC2 HP1 HP2 HL6 HD HQ1 HQ2
    obtain ⟨W8, rfl⟩ : ∃ z, z = W9 := ⟨_, rfl⟩
    have HRel : ∃ q : Nat, q ≤ 4 ∧ (Value.int .i64 2) = .int .i64 (q : Nat) ∧ Lat V W8 := ⟨2, by decide, rfl, Q10.out⟩
    go_wp2
    go_roundw
    case rel => first | exact HRel | exact ⟨_, HRel, rfl⟩ | exact ⟨_, _, HRel, rfl⟩ | exact ⟨_, _, _, HRel, rfl⟩ | exact ⟨_, _, _, _, HRel, rfl⟩ | exact ⟨_, _, _, _, _, HRel, rfl⟩ | exact ⟨_, _, _, _, _, _, HRel, rfl⟩ | exact ⟨_, _, _, _, _, _, _, HRel, rfl⟩ | exact ⟨_, _, _, _, _, _, _, _, HRel, rfl⟩ | exact ⟨_, _, _, _, _, _, _, _, _, HRel, rfl⟩ | exact ⟨_, _, _, _, _, _, _, _, _, _, HRel, rfl⟩ | exact ⟨_, _, _, _, _, _, _, _, _, _, _, HRel, rfl⟩ | exact ⟨_, _, _, _, _, _, _, _, _, _, _, _, HRel, rfl⟩ | exact ⟨_, _, _, _, _, _, _, _, _, _, _, _, _, HRel, rfl⟩ | exact ⟨_, _, _, _, _, _, _, _, _, _, _, _, _, _, HRel, rfl⟩
    case measure => decide
  ·have HIX := (idx4 A4 N4 c4 A5 N5 c5 AR nR cR A7 N7 c7).2.2.1
   go_upto_region 7 with (fail)
   go_wp2_with fail
   clear HIX
   refine (make_any AR nR cR RL _ (HRR.out.later hq)).mono ?_
   rintro e w8 ⟨v8, rfl, o8, m8⟩
   have q8 := hq.trans m8
   obtain ⟨nm, hnm⟩ : ∃ N, (makeR RL).length = N := ⟨_, rfl⟩
   obtain ⟨ee, hee⟩ : ∃ z, makeErr RL = z := ⟨_, rfl⟩
   obtain ⟨ck, hck⟩ : ∃ z, ckE RL = z := ⟨_, rfl⟩
   obtain ⟨b1, hb1⟩ : ∃ z, eqR RL RL = z := ⟨_, rfl⟩
   obtain ⟨b2, hb2⟩ : ∃ z, eqR RL OL = z := ⟨_, rfl⟩
   obtain ⟨Am, cm, rfl, rm⟩ := own_row o8 hnm
   have HRM := Lib.hid rm
   simp only [hee]
   clear o8 rm
   go_wp2_with fail
   refine (rMakeR_any AR nR cR RL w8 (HRR.out.later q8)).mono ?_
   rintro e w9 ⟨v9, rfl, o9, m9⟩
   have q9 := q8.trans m9
   obtain ⟨An, cn, rfl, rn⟩ := own_row o9 hnm
   have HRN := Lib.hid rn
   have hML := makeR_len RL
   simp only [hee]
   clear o9 rn
   go_upto_region 9 with (fail)
   obtain ⟨V9, rfl⟩ : ∃ z, z = w9 := ⟨_, rfl⟩
   obtain ⟨HS1, HC1, HC2, HP1, HP2, HL6, HD, HQ1, HQ2⟩ := mk_facts cR cR cm cn (HRR.out.later q9) (HRR.out.later q9) (HRM.out.later m9) HRN.out (by have := HBD.out; omega) (by have := HBD.out; omega) (by omega) hck hb1 hb2 (fun w' h => HG6.out w' (q9.trans h)) (fun w h => HDO.out w (q9.trans h))
   have Q9 := Lib.hid q9
   clear hq m8 q8 m9 q9 hnm hee hck hb1 hb2 HRM HRN hML
   as_aux_lemma =>
   rename_i KN hKN
   refine wp_region_slotsN (mk9_rows AR nR cR AR nR cR Am cm An cn nm ee ck g6 Ad nd cd NO OL b1 b2) (mk9_base AR nR cR AR nR cR Am cm An cn nm ee ck g6 Ad nd cd NO OL b1 b2 _ _ _ _ _ _ _ _ _ _ _ _ _ _ _ _ _ _ _ _ _ _ _ _ _ _ _ _ _ _ _ _ _ _ _ _ _ _) 81 36 [[], [], [0, 1], [2], [3, 2], [4], [4], [5, 6, 4], [4, 7], [8, 4], [9], [10, 9, 9], [9], [12, 11, 9], [11, 13, 9], [9, 14], [15, 13], [16], [16], [17, 18, 16, 16], [16], [16], [20, 21, 19, 16], [19, 22, 16], [16, 23], [24, 22], [25], [25], [27, 25, 25], [26, 28, 28, 25], [25], [25], [31, 29, 25], [30, 32, 32, 25], [29, 33, 25], [25, 34]] (by kernel_rfl) (by kernel_rfl) (by kernel_rfl) (by kernel_rfl) (by kernel_rfl) (by kernel_rfl) (by rfl) rfl (base_of (by repeat (first | exact base_nil _ | refine base_consL rfl ?_))) (mk9_steps V9 AR nR cR AR nR cR Am cm An cn nm ee ck g6 Ad nd cd NO OL b1 b2 _ _ _ _ _ _ _ _ _ _ _ _ _ _ _ _ _ _ _ _ _ _ _ _ _ _ _ _ _ _ _ _ _ _ _ _ _ _ HS1 HC1 HC2 HP1 HP2 HL6 HD HQ1 HQ2) ?_
   ·intro a9 W9 hsz9 hdf9 hL9 hbs hsl
    obtain ⟨v9, h9, q9⟩ := hsl 35 _ _ rfl rfl
    obtain rfl : v9 = .bool false := q9
    have w79 := slot_getD h9
    clear h9
    refine hKN _ _ ?_
    obtain ⟨T9, df9⟩ := a9
    obtain rfl : df9 = [] := hdf9
    obtain ⟨f, hf, rfl⟩ := spell81 T9 hsz9
    have XX := fun k v h => (hf k).trans (slot_getD (hbs k v h))
    have x6 : f 6 = .pointer (some ⟨g6, 0, none⟩) := XX 6 _ rfl
    have x9 : f 9 = .slice AR nR cR := XX 9 _ rfl
    have x11 : f 11 = .slice AR nR cR := XX 11 _ rfl
    have x12 : f 12 = .slice Am nm cm := XX 12 _ rfl
    have x13 : f 13 = .int .i64 ee := XX 13 _ rfl
    have x14 : f 14 = .slice An nm cn := XX 14 _ rfl
    have x15 : f 15 = .int .i64 ee := XX 15 _ rfl
    have x79 := (hf 79).trans w79
    clear hbs hsl hf hsz9 hKN w79
    simp only [x6, x9, x11, x12, x13, x14, x15, XX 0 _ rfl, XX 1 _ rfl, XX 2 _ rfl, XX 3 _ rfl, XX 4 _ rfl, XX 5 _ rfl, XX 7 _ rfl, XX 8 _ rfl, XX 10 _ rfl, XX 16 _ rfl, XX 17 _ rfl, XX 18 _ rfl, XX 19 _ rfl, XX 20 _ rfl, XX 21 _ rfl, XX 22 _ rfl, XX 23 _ rfl, XX 24 _ rfl, XX 25 _ rfl, XX 26 _ rfl, XX 27 _ rfl, XX 28 _ rfl, XX 29 _ rfl, XX 30 _ rfl, XX 31 _ rfl, XX 32 _ rfl, XX 33 _ rfl, XX 34 _ rfl, XX 35 _ rfl, XX 36 _ rfl, XX 37 _ rfl, XX 38 _ rfl, XX 39 _ rfl, XX 40 _ rfl, XX 41 _ rfl, XX 42 _ rfl, XX 43 _ rfl, XX 80 _ rfl, x79]
    clear XX x6 x9 x11 x12 x13 x14 x15 x79
    have Q10 := Lib.hid (Q9.out.trans hL9)
    clear hL9 Q9 HS1 HC1 HC2 HP1 HP2 HL6 HD HQ1 HQ2
    obtain ⟨W8, rfl⟩ : ∃ z, z = W9 := ⟨_, rfl⟩
    have HRel : ∃ q : Nat, q ≤ 4 ∧ (Value.int .i64 3) = .int .i64 (q : Nat) ∧ Lat V W8 := ⟨3, by decide, rfl, Q10.out⟩
    go_wp2
    go_roundw
    case rel => first | exact HRel | exact ⟨_, HRel, rfl⟩ | exact ⟨_, _, HRel, rfl⟩ | exact ⟨_, _, _, HRel, rfl⟩ | exact ⟨_, _, _, _, HRel, rfl⟩ | exact ⟨_, _, _, _, _, HRel, rfl⟩ | exact ⟨_, _, _, _, _, _, HRel, rfl⟩ | exact ⟨_, _, _, _, _, _, _, HRel, rfl⟩ | exact ⟨_, _, _, _, _, _, _, _, HRel, rfl⟩ | exact ⟨_, _, _, _, _, _, _, _, _, HRel, rfl⟩ | exact ⟨_, _, _, _, _, _, _, _, _, _, HRel, rfl⟩ | exact ⟨_, _, _, _, _, _, _, _, _, _, _, HRel, rfl⟩ | exact ⟨_, _, _, _, _, _, _, _, _, _, _, _, HRel, rfl⟩ | exact ⟨_, _, _, _, _, _, _, _, _, _, _, _, _, HRel, rfl⟩ | exact ⟨_, _, _, _, _, _, _, _, _, _, _, _, _, _, HRel, rfl⟩
    case measure => decide
  ·have HIX := (idx4 A4 N4 c4 A5 N5 c5 AR nR cR A7 N7 c7).2.2.2
   go_upto_region 7 with (fail)
   go_wp2_with fail
   clear HIX
   refine (make_any A7 N7 c7 LC _ (HX3.out.later hq)).mono ?_
   rintro e w8 ⟨v8, rfl, o8, m8⟩
   have q8 := hq.trans m8
   obtain ⟨nm, hnm⟩ : ∃ N, (makeR LC).length = N := ⟨_, rfl⟩
   obtain ⟨ee, hee⟩ : ∃ z, makeErr LC = z := ⟨_, rfl⟩
   obtain ⟨ck, hck⟩ : ∃ z, ckE LC = z := ⟨_, rfl⟩
   obtain ⟨b1, hb1⟩ : ∃ z, eqR LC RL = z := ⟨_, rfl⟩
   obtain ⟨b2, hb2⟩ : ∃ z, eqR RL OL = z := ⟨_, rfl⟩
   obtain ⟨Am, cm, rfl, rm⟩ := own_row o8 hnm
   have HRM := Lib.hid rm
   simp only [hee]
   clear o8 rm
   go_wp2_with fail
   refine (rMakeR_any A7 N7 c7 LC w8 (HX3.out.later q8)).mono ?_
   rintro e w9 ⟨v9, rfl, o9, m9⟩
   have q9 := q8.trans m9
   obtain ⟨An, cn, rfl, rn⟩ := own_row o9 hnm
   have HRN := Lib.hid rn
   have hML := makeR_len LC
   simp only [hee]
   clear o9 rn
   go_upto_region 9 with (fail)
   obtain ⟨V9, rfl⟩ : ∃ z, z = w9 := ⟨_, rfl⟩
   obtain ⟨HS1, HC1, HC2, HP1, HP2, HL6, HD, HQ1, HQ2⟩ := mk_facts c7 cR cm cn (HX3.out.later q9) (HRR.out.later q9) (HRM.out.later m9) HRN.out (by have := HBD.out; omega) (by have := HBD.out; omega) (by omega) hck hb1 hb2 (fun w' h => HG6.out w' (q9.trans h)) (fun w h => HDO.out w (q9.trans h))
   have Q9 := Lib.hid q9
   clear hq m8 q8 m9 q9 hnm hee hck hb1 hb2 HRM HRN hML
   as_aux_lemma =>
   rename_i KN hKN
   refine wp_region_slotsN (mk9_rows A7 N7 c7 AR nR cR Am cm An cn nm ee ck g6 Ad nd cd NO OL b1 b2) (mk9_base A7 N7 c7 AR nR cR Am cm An cn nm ee ck g6 Ad nd cd NO OL b1 b2 _ _ _ _ _ _ _ _ _ _ _ _ _ _ _ _ _ _ _ _ _ _ _ _ _ _ _ _ _ _ _ _ _ _ _ _ _ _) 81 36 [[], [], [0, 1], [2], [3, 2], [4], [4], [5, 6, 4], [4, 7], [8, 4], [9], [10, 9, 9], [9], [12, 11, 9], [11, 13, 9], [9, 14], [15, 13], [16], [16], [17, 18, 16, 16], [16], [16], [20, 21, 19, 16], [19, 22, 16], [16, 23], [24, 22], [25], [25], [27, 25, 25], [26, 28, 28, 25], [25], [25], [31, 29, 25], [30, 32, 32, 25], [29, 33, 25], [25, 34]] (by kernel_rfl) (by kernel_rfl) (by kernel_rfl) (by kernel_rfl) (by kernel_rfl) (by kernel_rfl) (by rfl) rfl (base_of (by repeat (first | exact base_nil _ | refine base_consL rfl ?_))) (mk9_steps V9 A7 N7 c7 AR nR cR Am cm An cn nm ee ck g6 Ad nd cd NO OL b1 b2 _ _ _ _ _ _ _ _ _ _ _ _ _ _ _ _ _ _ _ _ _ _ _ _ _ _ _ _ _ _ _ _ _ _ _ _ _ _ HS1 HC1 HC2 HP1 HP2 HL6 HD HQ1 HQ2) ?_
   ·intro a9 W9 hsz9 hdf9 hL9 hbs hsl
    obtain ⟨v9, h9, q9⟩ := hsl 35 _ _ rfl rfl
    obtain rfl : v9 = .bool false := q9
    have w79 := slot_getD h9
    clear h9
    refine hKN _ _ ?_
    obtain ⟨T9, df9⟩ := a9
    obtain rfl : df9 = [] := hdf9
    obtain ⟨f, hf, rfl⟩ := spell81 T9 hsz9
    have XX := fun k v h => (hf k).trans (slot_getD (hbs k v h))
    have x6 : f 6 = .pointer (some ⟨g6, 0, none⟩) := XX 6 _ rfl
    have x9 : f 9 = .slice AR nR cR := XX 9 _ rfl
    have x11 : f 11 = .slice A7 N7 c7 := XX 11 _ rfl
    have x12 : f 12 = .slice Am nm cm := XX 12 _ rfl
    have x13 : f 13 = .int .i64 ee := XX 13 _ rfl
    have x14 : f 14 = .slice An nm cn := XX 14 _ rfl
    have x15 : f 15 = .int .i64 ee := XX 15 _ rfl
    have x79 := (hf 79).trans w79
    clear hbs hsl hf hsz9 hKN w79
    simp only [x6, x9, x11, x12, x13, x14, x15, XX 0 _ rfl, XX 1 _ rfl, XX 2 _ rfl, XX 3 _ rfl, XX 4 _ rfl, XX 5 _ rfl, XX 7 _ rfl, XX 8 _ rfl, XX 10 _ rfl, XX 16 _ rfl, XX 17 _ rfl, XX 18 _ rfl, XX 19 _ rfl, XX 20 _ rfl, XX 21 _ rfl, XX 22 _ rfl, XX 23 _ rfl, XX 24 _ rfl, XX 25 _ rfl, XX 26 _ rfl, XX 27 _ rfl, XX 28 _ rfl, XX 29 _ rfl, XX 30 _ rfl, XX 31 _ rfl, XX 32 _ rfl, XX 33 _ rfl, XX 34 _ rfl, XX 35 _ rfl, XX 36 _ rfl, XX 37 _ rfl, XX 38 _ rfl, XX 39 _ rfl, XX 40 _ rfl, XX 41 _ rfl, XX 42 _ rfl, XX 43 _ rfl, XX 80 _ rfl, x79]
    clear XX x6 x9 x11 x12 x13 x14 x15 x79
    have Q10 := Lib.hid (Q9.out.trans hL9)
    clear hL9 Q9 HS1 HC1 HC2 HP1 HP2 HL6 HD HQ1 HQ2
    obtain ⟨W8, rfl⟩ : ∃ z, z = W9 := ⟨_, rfl⟩
    have HRel : ∃ q : Nat, q ≤ 4 ∧ (Value.int .i64 4) = .int .i64 (q : Nat) ∧ Lat V W8 := ⟨4, by decide, rfl, Q10.out⟩
    go_wp2
    go_roundw
    case rel => first | exact HRel | exact ⟨_, HRel, rfl⟩ | exact ⟨_, _, HRel, rfl⟩ | exact ⟨_, _, _, HRel, rfl⟩ | exact ⟨_, _, _, _, HRel, rfl⟩ | exact ⟨_, _, _, _, _, HRel, rfl⟩ | exact ⟨_, _, _, _, _, _, HRel, rfl⟩ | exact ⟨_, _, _, _, _, _, _, HRel, rfl⟩ | exact ⟨_, _, _, _, _, _, _, _, HRel, rfl⟩ | exact ⟨_, _, _, _, _, _, _, _, _, HRel, rfl⟩ | exact ⟨_, _, _, _, _, _, _, _, _, _, HRel, rfl⟩ | exact ⟨_, _, _, _, _, _, _, _, _, _, _, HRel, rfl⟩ | exact ⟨_, _, _, _, _, _, _, _, _, _, _, _, HRel, rfl⟩ | exact ⟨_, _, _, _, _, _, _, _, _, _, _, _, _, HRel, rfl⟩ | exact ⟨_, _, _, _, _, _, _, _, _, _, _, _, _, _, HRel, rfl⟩
    case measure => decide
  ·have LF := Lib.hid (HKV.out.trans hq)
   clear hq hk
   go_wp2
   go_ret
   exact ⟨rfl, LF.out⟩
end Go.Proofs.YtakhiomcneikkaaGreat
