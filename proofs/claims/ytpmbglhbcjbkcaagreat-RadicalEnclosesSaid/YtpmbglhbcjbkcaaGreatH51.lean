/- Several texts in one: RdRr. -/
import Derived.Test.YtpmbglhbcjbkcaaGreatH42
namespace Go.Proofs.YtpmbglhbcjbkcaaGreat
set_option maxHeartbeats 16000000
set_option maxRecDepth 100000
open Go.RowKit
set_option linter.unusedSimpArgs false
set_option linter.unusedVariables false
theorem zcT (T : Array Value) (h : T.size = 62) : ∃ f : Nat → Value, (∀ k, f k = T.getD k undef) ∧ T = #[f 0, f 1, f 2, f 3, f 4, f 5, f 6, f 7, f 8, f 9, f 10, f 11, f 12, f 13, f 14, f 15, f 16, f 17, f 18, f 19, f 20, f 21, f 22, f 23, f 24, f 25, f 26, f 27, f 28, f 29, f 30, f 31, f 32, f 33, f 34, f 35, f 36, f 37, f 38, f 39, f 40, f 41, f 42, f 43, f 44, f 45, f 46, f 47, f 48, f 49, f 50, f 51, f 52, f 53, f 54, f 55, f 56, f 57, f 58, f 59, f 60, f 61] := ⟨fun k => T.getD k undef, fun _ => rfl, (spell 62 T h).trans (by kernel_rfl)⟩
noncomputable def zcd (g o n c g4 : Nat) (t u : Int) (k k2 : Nat) (pu : Int) (x2 x3 x4 x5 x6 x7 x8 x9 x10 x11 x12 x13 x14 x15 x16 x17 x18 x19 x20 x21 x22 x23 x24 x25 x26 x27 x28 x29 x30 x31 x32 x33 : Value) : List SRow := [
 ⟨.fieldAddr 72 (.tmp 4) 1, some 20, none, [], fun v _ => v = .pointer (some ⟨g4, 1, none⟩)⟩,
 ⟨.load 3 (.tmp 20), some 21, none, [0], fun v _ => v = .int .i64 u⟩,
 ⟨.binOp .lss 3 (.tmp 21) (.const (.int .i64 1)) 3, some 22, none, [1], fun v _ => v = x2⟩,
 ⟨.move (.tmp 22), some 23, none, [2], fun v _ => v = x3⟩,
 ⟨.fieldAddr 72 (.tmp 4) 1, some 24, some (3, false), [3], fun v _ => v = x4⟩,
 ⟨.load 3 (.tmp 24), some 25, some (3, false), [4, 3], fun v _ => v = x5⟩,
 ⟨.binOp .gtr 3 (.tmp 25) (.const (.int .i64 10000000000000)) 3, some 26, some (3, false), [5, 3], fun v _ => v = x6⟩,
 ⟨.pick (.tmp 23) (.const (.bool true)) (.tmp 26), some 27, none, [3, 6], fun v _ => v = x7⟩,
 ⟨.move (.tmp 27), some 28, none, [7, 3], fun v _ => v = x8⟩,
 ⟨.fieldAddr 72 (.tmp 4) 0, some 29, some (8, false), [8], fun v _ => v = x9⟩,
 ⟨.load 3 (.tmp 29), some 30, some (8, false), [9, 8], fun v _ => v = x10⟩,
 ⟨.binOp .eql 3 (.tmp 30) (.const (.int .i64 0)) 3, some 31, some (8, false), [10, 8], fun v _ => v = x11⟩,
 ⟨.pick (.tmp 28) (.const (.bool true)) (.tmp 31), some 32, none, [8, 11], fun v _ => v = x12⟩,
 ⟨.move (.tmp 32), some 33, none, [12, 8], fun v _ => v = x13⟩,
 ⟨.fieldAddr 72 (.tmp 4) 0, some 34, some (13, false), [13], fun v _ => v = x14⟩,
 ⟨.load 3 (.tmp 34), some 35, some (13, false), [14, 13], fun v _ => v = x15⟩,
 ⟨.call { callee := .value (.func 26), args := #[.tmp 35], argTypes := #[3] }, some 36, some (13, false), [15, 13, 13], fun v _ => v = x16⟩,
 ⟨.unOp .not 4 (.tmp 36), some 37, some (13, false), [16, 13], fun v _ => v = x17⟩,
 ⟨.pick (.tmp 33) (.const (.bool true)) (.tmp 37), some 38, none, [13, 17], fun v _ => v = x18⟩,
 ⟨.move (.tmp 38), some 39, none, [18, 16], fun v _ => v = x19⟩,
 ⟨.move (.tmp 3), some 40, some (19, false), [19], fun v _ => v = x20⟩,
 ⟨.binOp .gtr 3 (.tmp 40) (.const (.int .i64 0)) 3, some 41, some (19, false), [20, 19], fun v _ => v = x21⟩,
 ⟨.move (.tmp 41), some 42, some (19, false), [21, 19, 19], fun v _ => v = x22⟩,
 ⟨.move (.tmp 0), some 43, some (22, true), [22], fun v _ => v = x23⟩,
 ⟨.move (.tmp 3), some 44, some (22, true), [22], fun v _ => v = x24⟩,
 ⟨.binOp .sub 3 (.tmp 44) (.const (.int .i64 1)) 3, some 45, some (22, true), [24, 22], fun v _ => v = x25⟩,
 ⟨.indexAddr 27 (.tmp 43) (.tmp 45), some 46, some (22, true), [23, 25, 22], fun v _ => v = x26⟩,
 ⟨.fieldAddr 72 (.tmp 46) 1, some 47, some (22, true), [26, 22], fun v _ => v = x27⟩,
 ⟨.load 3 (.tmp 47), some 48, some (22, true), [27, 22], fun v _ => v = x28⟩,
 ⟨.fieldAddr 72 (.tmp 4) 1, some 49, some (22, true), [22], fun v _ => v = x29⟩,
 ⟨.load 3 (.tmp 49), some 50, some (22, true), [29, 22], fun v _ => v = x30⟩,
 ⟨.binOp .geq 3 (.tmp 48) (.tmp 50) 3, some 51, some (22, true), [28, 30, 22], fun v _ => v = x31⟩,
 ⟨.pick (.tmp 42) (.tmp 51) (.const (.bool false)), some 52, some (19, false), [22, 31, 19], fun v _ => v = x32⟩,
 ⟨.pick (.tmp 39) (.const (.bool true)) (.tmp 52), some 53, none, [19, 32], fun v _ => v = x33⟩]
noncomputable def zeH (g o n c g4 : Nat) (t u : Int) (k k2 : Nat) (pu : Int) : List SRow := zcd g o n c g4 t u k k2 pu (.bool true) (.bool true) undef undef undef (.bool true) (.bool true) undef undef undef (.bool true) (.bool true) undef undef undef undef (.bool true) (.bool true) undef undef undef undef undef undef undef undef undef undef undef undef undef (.bool true)
noncomputable def zaZ (g o n c g4 : Nat) (t u : Int) (k k2 : Nat) (pu : Int) (v1 v2 v5 v6 v7 v8 v9 v10 v11 v12 v13 v14 v15 v16 v17 v18 v19 v54 v55 v56 v57 v58 v59 v60 v61 : Value) : List (Nat × Value) := [(0, .slice (some ⟨g, o, none⟩) n c), (3, .int .i64 (k : Int)), (4, .pointer (some ⟨g4, 0, none⟩)), (1, v1), (2, v2), (5, v5), (6, v6), (7, v7), (8, v8), (9, v9), (10, v10), (11, v11), (12, v12), (13, v13), (14, v14), (15, v15), (16, v16), (17, v17), (18, v18), (19, v19), (54, v54), (55, v55), (56, v56), (57, v57), (58, v58), (59, v59), (60, v60), (61, v61)]
theorem zjD (V : World) (g o n c g4 : Nat) (t u : Int) (k k2 : Nat) (pu : Int) (v1 v2 v5 v6 v7 v8 v9 v10 v11 v12 v13 v14 v15 v16 v17 v18 v19 v54 v55 v56 v57 v58 v59 v60 v61 : Value) (HC0 : ∀ w', Lat V w' → w'.cell? ⟨g4, 0, none⟩ = some (.int .i64 t)) (HC1 : ∀ w', Lat V w' → w'.cell? ⟨g4, 1, none⟩ = some (.int .i64 u)) (h1 : u < 1) (h1b : ¬ 1 ≤ u) :
  AllStepsN Tryz.prog (zeH g o n c g4 t u k k2 pu) (zaZ g o n c g4 t u k k2 pu v1 v2 v5 v6 v7 v8 v9 v10 v11 v12 v13 v14 v15 v16 v17 v18 v19 v54 v55 v56 v57 v58 v59 v60 v61) V (zeH g o n c g4 t u k k2 pu) := by
 refine n1 ?_ (eb 4) (fun ev w hl ec e1 d ty p af g => ?_)
 refine n1 ?_ (ed 0) (fun ev w hl ec e1 d ty p af g => by unfold execOp; simp only [e1, ec]; have hc := HC1 w hl; go_simp)
 refine n1 ?_ (ed 1) (fun ev w hl ec e1 d ty p af g => ?_)
 refine n1 ?_ (ed 2) (fun ev w hl ec e1 d ty p af g => ?_)
 refine nk ?_
 refine nk ?_
 refine nk ?_
 refine n1 ?_ (ed 3) (fun ev w hl ec e1 d ty p af g => ?_)
 refine n1 ?_ (ed 7) (fun ev w hl ec e1 d ty p af g => ?_)
 refine nk ?_
 refine nk ?_
 refine nk ?_
 refine n1 ?_ (ed 8) (fun ev w hl ec e1 d ty p af g => ?_)
 refine n1 ?_ (ed 12) (fun ev w hl ec e1 d ty p af g => ?_)
 refine nk ?_
 refine nk ?_
 refine nk ?_
 refine nk ?_
 refine n1 ?_ (ed 13) (fun ev w hl ec e1 d ty p af g => ?_)
 refine n1 ?_ (ed 18) (fun ev w hl ec e1 d ty p af g => ?_)
 refine nk ?_
 refine nk ?_
 refine nk ?_
 refine nk ?_
 refine nk ?_
 refine nk ?_
 refine nk ?_
 refine nk ?_
 refine nk ?_
 refine nk ?_
 refine nk ?_
 refine nk ?_
 refine nk ?_
 refine n1 ?_ (ed 19) (fun ev w hl ec e1 d ty p af g => ?_)
 ·exact AllStepsN.none
 all_goals (unfold execOp; first | simp only [e1, e2, ec] | simp only [e1, ec] | simp only [ec])
 all_goals go_simp
noncomputable def zeI (g o n c g4 : Nat) (t u : Int) (k k2 : Nat) (pu : Int) : List SRow := zcd g o n c g4 t u k k2 pu (.bool false) (.bool false) (.pointer (some ⟨g4, 1, none⟩)) (.int .i64 u) (.bool true) (.bool true) (.bool true) undef undef undef (.bool true) (.bool true) undef undef undef undef (.bool true) (.bool true) undef undef undef undef undef undef undef undef undef undef undef undef undef (.bool true)
theorem zjE (V : World) (g o n c g4 : Nat) (t u : Int) (k k2 : Nat) (pu : Int) (v1 v2 v5 v6 v7 v8 v9 v10 v11 v12 v13 v14 v15 v16 v17 v18 v19 v54 v55 v56 v57 v58 v59 v60 v61 : Value) (HC0 : ∀ w', Lat V w' → w'.cell? ⟨g4, 0, none⟩ = some (.int .i64 t)) (HC1 : ∀ w', Lat V w' → w'.cell? ⟨g4, 1, none⟩ = some (.int .i64 u)) (h1 : ¬ u < 1) (h1b : 1 ≤ u) (h2 : (10000000000000 : Int) < u) (h2b : ¬ u ≤ 10000000000000) :
  AllStepsN Tryz.prog (zeI g o n c g4 t u k k2 pu) (zaZ g o n c g4 t u k k2 pu v1 v2 v5 v6 v7 v8 v9 v10 v11 v12 v13 v14 v15 v16 v17 v18 v19 v54 v55 v56 v57 v58 v59 v60 v61) V (zeI g o n c g4 t u k k2 pu) := by
 refine n1 ?_ (eb 4) (fun ev w hl ec e1 d ty p af g => ?_)
 refine n1 ?_ (ed 0) (fun ev w hl ec e1 d ty p af g => by unfold execOp; simp only [e1, ec]; have hc := HC1 w hl; go_simp)
 refine n1 ?_ (ed 1) (fun ev w hl ec e1 d ty p af g => ?_)
 refine n1 ?_ (ed 2) (fun ev w hl ec e1 d ty p af g => ?_)
 refine n1 ?_ (eb 4) (fun ev w hl ec e1 d ty p af g => ?_)
 refine n1 ?_ (ed 4) (fun ev w hl ec e1 d ty p af g => by unfold execOp; simp only [e1, ec]; have hc := HC1 w hl; go_simp)
 refine n1 ?_ (ed 5) (fun ev w hl ec e1 d ty p af g => ?_)
 refine n2 ?_ (ed 3) (ed 6) (fun ev w hl ec e1 e2 d ty p af g => ?_)
 refine n1 ?_ (ed 7) (fun ev w hl ec e1 d ty p af g => ?_)
 refine nk ?_
 refine nk ?_
 refine nk ?_
 refine n1 ?_ (ed 8) (fun ev w hl ec e1 d ty p af g => ?_)
 refine n1 ?_ (ed 12) (fun ev w hl ec e1 d ty p af g => ?_)
 refine nk ?_
 refine nk ?_
 refine nk ?_
 refine nk ?_
 refine n1 ?_ (ed 13) (fun ev w hl ec e1 d ty p af g => ?_)
 refine n1 ?_ (ed 18) (fun ev w hl ec e1 d ty p af g => ?_)
 refine nk ?_
 refine nk ?_
 refine nk ?_
 refine nk ?_
 refine nk ?_
 refine nk ?_
 refine nk ?_
 refine nk ?_
 refine nk ?_
 refine nk ?_
 refine nk ?_
 refine nk ?_
 refine nk ?_
 refine n1 ?_ (ed 19) (fun ev w hl ec e1 d ty p af g => ?_)
 ·exact AllStepsN.none
 all_goals (unfold execOp; first | simp only [e1, e2, ec] | simp only [e1, ec] | simp only [ec])
 all_goals go_simp
noncomputable def zeJ (g o n c g4 : Nat) (t u : Int) (k k2 : Nat) (pu : Int) : List SRow := zcd g o n c g4 t u k k2 pu (.bool false) (.bool false) (.pointer (some ⟨g4, 1, none⟩)) (.int .i64 u) (.bool false) (.bool false) (.bool false) (.pointer (some ⟨g4, 0, none⟩)) (.int .i64 t) (.bool true) (.bool true) (.bool true) undef undef undef undef (.bool true) (.bool true) undef undef undef undef undef undef undef undef undef undef undef undef undef (.bool true)
theorem zjF (V : World) (g o n c g4 : Nat) (t u : Int) (k k2 : Nat) (pu : Int) (v1 v2 v5 v6 v7 v8 v9 v10 v11 v12 v13 v14 v15 v16 v17 v18 v19 v54 v55 v56 v57 v58 v59 v60 v61 : Value) (HC0 : ∀ w', Lat V w' → w'.cell? ⟨g4, 0, none⟩ = some (.int .i64 t)) (HC1 : ∀ w', Lat V w' → w'.cell? ⟨g4, 1, none⟩ = some (.int .i64 u)) (h1 : ¬ u < 1) (h1b : 1 ≤ u) (h2 : ¬ (10000000000000 : Int) < u) (h2b : u ≤ 10000000000000) (h3 : t = 0) :
  AllStepsN Tryz.prog (zeJ g o n c g4 t u k k2 pu) (zaZ g o n c g4 t u k k2 pu v1 v2 v5 v6 v7 v8 v9 v10 v11 v12 v13 v14 v15 v16 v17 v18 v19 v54 v55 v56 v57 v58 v59 v60 v61) V (zeJ g o n c g4 t u k k2 pu) := by
 refine n1 ?_ (eb 4) (fun ev w hl ec e1 d ty p af g => ?_)
 refine n1 ?_ (ed 0) (fun ev w hl ec e1 d ty p af g => by unfold execOp; simp only [e1, ec]; have hc := HC1 w hl; go_simp)
 refine n1 ?_ (ed 1) (fun ev w hl ec e1 d ty p af g => ?_)
 refine n1 ?_ (ed 2) (fun ev w hl ec e1 d ty p af g => ?_)
 refine n1 ?_ (eb 4) (fun ev w hl ec e1 d ty p af g => ?_)
 refine n1 ?_ (ed 4) (fun ev w hl ec e1 d ty p af g => by unfold execOp; simp only [e1, ec]; have hc := HC1 w hl; go_simp)
 refine n1 ?_ (ed 5) (fun ev w hl ec e1 d ty p af g => ?_)
 refine n2 ?_ (ed 3) (ed 6) (fun ev w hl ec e1 e2 d ty p af g => ?_)
 refine n1 ?_ (ed 7) (fun ev w hl ec e1 d ty p af g => ?_)
 refine n1 ?_ (eb 4) (fun ev w hl ec e1 d ty p af g => ?_)
 refine n1 ?_ (ed 9) (fun ev w hl ec e1 d ty p af g => by unfold execOp; simp only [e1, ec]; have hc := HC0 w hl; go_simp)
 refine n1 ?_ (ed 10) (fun ev w hl ec e1 d ty p af g => ?_)
 refine n2 ?_ (ed 8) (ed 11) (fun ev w hl ec e1 e2 d ty p af g => ?_)
 refine n1 ?_ (ed 12) (fun ev w hl ec e1 d ty p af g => ?_)
 refine nk ?_
 refine nk ?_
 refine nk ?_
 refine nk ?_
 refine n1 ?_ (ed 13) (fun ev w hl ec e1 d ty p af g => ?_)
 refine n1 ?_ (ed 18) (fun ev w hl ec e1 d ty p af g => ?_)
 refine nk ?_
 refine nk ?_
 refine nk ?_
 refine nk ?_
 refine nk ?_
 refine nk ?_
 refine nk ?_
 refine nk ?_
 refine nk ?_
 refine nk ?_
 refine nk ?_
 refine nk ?_
 refine nk ?_
 refine n1 ?_ (ed 19) (fun ev w hl ec e1 d ty p af g => ?_)
 ·exact AllStepsN.none
 all_goals (unfold execOp; first | simp only [e1, e2, ec] | simp only [e1, ec] | simp only [ec])
 all_goals go_simp
noncomputable def zeK (g o n c g4 : Nat) (t u : Int) (k k2 : Nat) (pu : Int) : List SRow := zcd g o n c g4 t u k k2 pu (.bool false) (.bool false) (.pointer (some ⟨g4, 1, none⟩)) (.int .i64 u) (.bool false) (.bool false) (.bool false) (.pointer (some ⟨g4, 0, none⟩)) (.int .i64 t) (.bool false) (.bool false) (.bool false) (.pointer (some ⟨g4, 0, none⟩)) (.int .i64 t) (.bool false) (.bool true) (.bool true) (.bool true) undef undef undef undef undef undef undef undef undef undef undef undef undef (.bool true)
theorem zjG (V : World) (g o n c g4 : Nat) (t u : Int) (k k2 : Nat) (pu : Int) (v1 v2 v5 v6 v7 v8 v9 v10 v11 v12 v13 v14 v15 v16 v17 v18 v19 v54 v55 v56 v57 v58 v59 v60 v61 : Value) (HC0 : ∀ w', Lat V w' → w'.cell? ⟨g4, 0, none⟩ = some (.int .i64 t)) (HC1 : ∀ w', Lat V w' → w'.cell? ⟨g4, 1, none⟩ = some (.int .i64 u)) (h1 : ¬ u < 1) (h1b : 1 ≤ u) (h2 : ¬ (10000000000000 : Int) < u) (h2b : u ≤ 10000000000000) (h3 : ¬ t = 0) (h3b : (t == 0) = false) (h4 : ∀ w, Lat V w → Calls Tryz.prog 26 #[.int .i64 t] w (fun e w' => e = .returned (.bool false) ∧ Lat w w')) :
  AllStepsN Tryz.prog (zeK g o n c g4 t u k k2 pu) (zaZ g o n c g4 t u k k2 pu v1 v2 v5 v6 v7 v8 v9 v10 v11 v12 v13 v14 v15 v16 v17 v18 v19 v54 v55 v56 v57 v58 v59 v60 v61) V (zeK g o n c g4 t u k k2 pu) := by
 refine n1 ?_ (eb 4) (fun ev w hl ec e1 d ty p af g => ?_)
 refine n1 ?_ (ed 0) (fun ev w hl ec e1 d ty p af g => by unfold execOp; simp only [e1, ec]; have hc := HC1 w hl; go_simp)
 refine n1 ?_ (ed 1) (fun ev w hl ec e1 d ty p af g => ?_)
 refine n1 ?_ (ed 2) (fun ev w hl ec e1 d ty p af g => ?_)
 refine n1 ?_ (eb 4) (fun ev w hl ec e1 d ty p af g => ?_)
 refine n1 ?_ (ed 4) (fun ev w hl ec e1 d ty p af g => by unfold execOp; simp only [e1, ec]; have hc := HC1 w hl; go_simp)
 refine n1 ?_ (ed 5) (fun ev w hl ec e1 d ty p af g => ?_)
 refine n2 ?_ (ed 3) (ed 6) (fun ev w hl ec e1 e2 d ty p af g => ?_)
 refine n1 ?_ (ed 7) (fun ev w hl ec e1 d ty p af g => ?_)
 refine n1 ?_ (eb 4) (fun ev w hl ec e1 d ty p af g => ?_)
 refine n1 ?_ (ed 9) (fun ev w hl ec e1 d ty p af g => by unfold execOp; simp only [e1, ec]; have hc := HC0 w hl; go_simp)
 refine n1 ?_ (ed 10) (fun ev w hl ec e1 d ty p af g => ?_)
 refine n2 ?_ (ed 8) (ed 11) (fun ev w hl ec e1 e2 d ty p af g => ?_)
 refine n1 ?_ (ed 12) (fun ev w hl ec e1 d ty p af g => ?_)
 refine n1 ?_ (eb 4) (fun ev w hl ec e1 d ty p af g => ?_)
 refine n1 ?_ (ed 14) (fun ev w hl ec e1 d ty p af g => by unfold execOp; simp only [e1, ec]; have hc := HC0 w hl; go_simp)
 refine nG ?_ fun a w hl hb hd o ho => by obtain ⟨_, e1, rfl⟩ := hd 15 _ _ (by simp) rfl rfl; exact rcC o ho (h4 w hl)
 refine n1 ?_ (ed 16) (fun ev w hl ec e1 d ty p af g => ?_)
 refine n2 ?_ (ed 13) (ed 17) (fun ev w hl ec e1 e2 d ty p af g => ?_)
 refine n1 ?_ (ed 18) (fun ev w hl ec e1 d ty p af g => ?_)
 refine nk ?_
 refine nk ?_
 refine nk ?_
 refine nk ?_
 refine nk ?_
 refine nk ?_
 refine nk ?_
 refine nk ?_
 refine nk ?_
 refine nk ?_
 refine nk ?_
 refine nk ?_
 refine nk ?_
 refine n1 ?_ (ed 19) (fun ev w hl ec e1 d ty p af g => ?_)
 ·exact AllStepsN.none
 all_goals (unfold execOp; first | simp only [e1, e2, ec] | simp only [e1, ec] | simp only [ec])
 all_goals go_simp
noncomputable def zeL (g o n c g4 : Nat) (t u : Int) (k k2 : Nat) (pu : Int) : List SRow := zcd g o n c g4 t u k k2 pu (.bool false) (.bool false) (.pointer (some ⟨g4, 1, none⟩)) (.int .i64 u) (.bool false) (.bool false) (.bool false) (.pointer (some ⟨g4, 0, none⟩)) (.int .i64 t) (.bool false) (.bool false) (.bool false) (.pointer (some ⟨g4, 0, none⟩)) (.int .i64 t) (.bool true) (.bool false) (.bool false) (.bool false) (.int .i64 (k : Int)) (.bool true) (.bool true) (.slice (some ⟨g, o, none⟩) n c) (.int .i64 (k : Int)) (.int .i64 (k2 : Int)) (.pointer (some ⟨g, o + k2 * 2, none⟩)) (.pointer (some ⟨g, o + k2 * 2 + 1, none⟩)) (.int .i64 pu) (.pointer (some ⟨g4, 1, none⟩)) (.int .i64 u) (.bool true) (.bool true) (.bool true)
theorem zjH (V : World) (g o n c g4 : Nat) (t u : Int) (k k2 : Nat) (pu : Int) (v1 v2 v5 v6 v7 v8 v9 v10 v11 v12 v13 v14 v15 v16 v17 v18 v19 v54 v55 v56 v57 v58 v59 v60 v61 : Value) (HC0 : ∀ w', Lat V w' → w'.cell? ⟨g4, 0, none⟩ = some (.int .i64 t)) (HC1 : ∀ w', Lat V w' → w'.cell? ⟨g4, 1, none⟩ = some (.int .i64 u)) (h1 : ¬ u < 1) (h1b : 1 ≤ u) (h2 : ¬ (10000000000000 : Int) < u) (h2b : u ≤ 10000000000000) (h3 : ¬ t = 0) (h3b : (t == 0) = false) (h4 : ∀ w, Lat V w → Calls Tryz.prog 26 #[.int .i64 t] w (fun e w' => e = .returned (.bool true) ∧ Lat w w')) (h5n : 0 < k) (h5 : (0 : Int) < (k : Int)) (h5b : ¬ (k : Int) ≤ 0) (w1 : wrap64 ((k : Int) - 1) = (k2 : Int)) (w2 : IntKind.i64.wrap ((k : Int) - 1) = (k2 : Int)) (hk : (k2 : Int) < (n : Int)) (hk0 : (0 : Int) ≤ (k2 : Int)) (HCP : ∀ w', Lat V w' → w'.cell? ⟨g, o + k2 * 2 + 1, none⟩ = some (.int .i64 pu)) (h6 : u ≤ pu) (h6b : ¬ pu < u) :
  AllStepsN Tryz.prog (zeL g o n c g4 t u k k2 pu) (zaZ g o n c g4 t u k k2 pu v1 v2 v5 v6 v7 v8 v9 v10 v11 v12 v13 v14 v15 v16 v17 v18 v19 v54 v55 v56 v57 v58 v59 v60 v61) V (zeL g o n c g4 t u k k2 pu) := by
 refine n1 ?_ (eb 4) (fun ev w hl ec e1 d ty p af g => ?_)
 refine n1 ?_ (ed 0) (fun ev w hl ec e1 d ty p af g => by unfold execOp; simp only [e1, ec]; have hc := HC1 w hl; go_simp)
 refine n1 ?_ (ed 1) (fun ev w hl ec e1 d ty p af g => ?_)
 refine n1 ?_ (ed 2) (fun ev w hl ec e1 d ty p af g => ?_)
 refine n1 ?_ (eb 4) (fun ev w hl ec e1 d ty p af g => ?_)
 refine n1 ?_ (ed 4) (fun ev w hl ec e1 d ty p af g => by unfold execOp; simp only [e1, ec]; have hc := HC1 w hl; go_simp)
 refine n1 ?_ (ed 5) (fun ev w hl ec e1 d ty p af g => ?_)
 refine n2 ?_ (ed 3) (ed 6) (fun ev w hl ec e1 e2 d ty p af g => ?_)
 refine n1 ?_ (ed 7) (fun ev w hl ec e1 d ty p af g => ?_)
 refine n1 ?_ (eb 4) (fun ev w hl ec e1 d ty p af g => ?_)
 refine n1 ?_ (ed 9) (fun ev w hl ec e1 d ty p af g => by unfold execOp; simp only [e1, ec]; have hc := HC0 w hl; go_simp)
 refine n1 ?_ (ed 10) (fun ev w hl ec e1 d ty p af g => ?_)
 refine n2 ?_ (ed 8) (ed 11) (fun ev w hl ec e1 e2 d ty p af g => ?_)
 refine n1 ?_ (ed 12) (fun ev w hl ec e1 d ty p af g => ?_)
 refine n1 ?_ (eb 4) (fun ev w hl ec e1 d ty p af g => ?_)
 refine n1 ?_ (ed 14) (fun ev w hl ec e1 d ty p af g => by unfold execOp; simp only [e1, ec]; have hc := HC0 w hl; go_simp)
 refine nG ?_ fun a w hl hb hd o ho => by obtain ⟨_, e1, rfl⟩ := hd 15 _ _ (by simp) rfl rfl; exact rcC o ho (h4 w hl)
 refine n1 ?_ (ed 16) (fun ev w hl ec e1 d ty p af g => ?_)
 refine n2 ?_ (ed 13) (ed 17) (fun ev w hl ec e1 e2 d ty p af g => ?_)
 refine n1 ?_ (ed 18) (fun ev w hl ec e1 d ty p af g => ?_)
 refine n1 ?_ (eb 3) (fun ev w hl ec e1 d ty p af g => ?_)
 refine n1 ?_ (ed 20) (fun ev w hl ec e1 d ty p af g => ?_)
 refine n1 ?_ (ed 21) (fun ev w hl ec e1 d ty p af g => ?_)
 refine n1 ?_ (eb 0) (fun ev w hl ec e1 d ty p af g => ?_)
 refine n1 ?_ (eb 3) (fun ev w hl ec e1 d ty p af g => ?_)
 refine n1 ?_ (ed 24) (fun ev w hl ec e1 d ty p af g => ?_)
 refine n2 ?_ (ed 23) (ed 25) (fun ev w hl ec e1 e2 d ty p af g => ?_)
 refine n1 ?_ (ed 26) (fun ev w hl ec e1 d ty p af g => ?_)
 refine n1 ?_ (ed 27) (fun ev w hl ec e1 d ty p af g => by unfold execOp; simp only [e1, ec]; have hc := HCP w hl; go_simp)
 refine n1 ?_ (eb 4) (fun ev w hl ec e1 d ty p af g => ?_)
 refine n1 ?_ (ed 29) (fun ev w hl ec e1 d ty p af g => by unfold execOp; simp only [e1, ec]; have hc := HC1 w hl; go_simp)
 refine n2 ?_ (ed 28) (ed 30) (fun ev w hl ec e1 e2 d ty p af g => ?_)
 refine n2 ?_ (ed 22) (ed 31) (fun ev w hl ec e1 e2 d ty p af g => ?_)
 refine n2 ?_ (ed 19) (ed 32) (fun ev w hl ec e1 e2 d ty p af g => ?_)
 ·exact AllStepsN.none
 all_goals (unfold execOp; first | simp only [e1, e2, ec] | simp only [e1, ec] | simp only [ec])
 all_goals go_simp
noncomputable def zeM (g o n c g4 : Nat) (t u : Int) (k k2 : Nat) (pu : Int) : List SRow := zcd g o n c g4 t u k k2 pu (.bool false) (.bool false) (.pointer (some ⟨g4, 1, none⟩)) (.int .i64 u) (.bool false) (.bool false) (.bool false) (.pointer (some ⟨g4, 0, none⟩)) (.int .i64 t) (.bool false) (.bool false) (.bool false) (.pointer (some ⟨g4, 0, none⟩)) (.int .i64 t) (.bool true) (.bool false) (.bool false) (.bool false) (.int .i64 (k : Int)) (.bool true) (.bool true) (.slice (some ⟨g, o, none⟩) n c) (.int .i64 (k : Int)) (.int .i64 (k2 : Int)) (.pointer (some ⟨g, o + k2 * 2, none⟩)) (.pointer (some ⟨g, o + k2 * 2 + 1, none⟩)) (.int .i64 pu) (.pointer (some ⟨g4, 1, none⟩)) (.int .i64 u) (.bool false) (.bool false) (.bool false)
theorem zjI (V : World) (g o n c g4 : Nat) (t u : Int) (k k2 : Nat) (pu : Int) (v1 v2 v5 v6 v7 v8 v9 v10 v11 v12 v13 v14 v15 v16 v17 v18 v19 v54 v55 v56 v57 v58 v59 v60 v61 : Value) (HC0 : ∀ w', Lat V w' → w'.cell? ⟨g4, 0, none⟩ = some (.int .i64 t)) (HC1 : ∀ w', Lat V w' → w'.cell? ⟨g4, 1, none⟩ = some (.int .i64 u)) (h1 : ¬ u < 1) (h1b : 1 ≤ u) (h2 : ¬ (10000000000000 : Int) < u) (h2b : u ≤ 10000000000000) (h3 : ¬ t = 0) (h3b : (t == 0) = false) (h4 : ∀ w, Lat V w → Calls Tryz.prog 26 #[.int .i64 t] w (fun e w' => e = .returned (.bool true) ∧ Lat w w')) (h5n : 0 < k) (h5 : (0 : Int) < (k : Int)) (h5b : ¬ (k : Int) ≤ 0) (w1 : wrap64 ((k : Int) - 1) = (k2 : Int)) (w2 : IntKind.i64.wrap ((k : Int) - 1) = (k2 : Int)) (hk : (k2 : Int) < (n : Int)) (hk0 : (0 : Int) ≤ (k2 : Int)) (HCP : ∀ w', Lat V w' → w'.cell? ⟨g, o + k2 * 2 + 1, none⟩ = some (.int .i64 pu)) (h6 : ¬ u ≤ pu) (h6b : pu < u) :
  AllStepsN Tryz.prog (zeM g o n c g4 t u k k2 pu) (zaZ g o n c g4 t u k k2 pu v1 v2 v5 v6 v7 v8 v9 v10 v11 v12 v13 v14 v15 v16 v17 v18 v19 v54 v55 v56 v57 v58 v59 v60 v61) V (zeM g o n c g4 t u k k2 pu) := by
 refine n1 ?_ (eb 4) (fun ev w hl ec e1 d ty p af g => ?_)
 refine n1 ?_ (ed 0) (fun ev w hl ec e1 d ty p af g => by unfold execOp; simp only [e1, ec]; have hc := HC1 w hl; go_simp)
 refine n1 ?_ (ed 1) (fun ev w hl ec e1 d ty p af g => ?_)
 refine n1 ?_ (ed 2) (fun ev w hl ec e1 d ty p af g => ?_)
 refine n1 ?_ (eb 4) (fun ev w hl ec e1 d ty p af g => ?_)
 refine n1 ?_ (ed 4) (fun ev w hl ec e1 d ty p af g => by unfold execOp; simp only [e1, ec]; have hc := HC1 w hl; go_simp)
 refine n1 ?_ (ed 5) (fun ev w hl ec e1 d ty p af g => ?_)
 refine n2 ?_ (ed 3) (ed 6) (fun ev w hl ec e1 e2 d ty p af g => ?_)
 refine n1 ?_ (ed 7) (fun ev w hl ec e1 d ty p af g => ?_)
 refine n1 ?_ (eb 4) (fun ev w hl ec e1 d ty p af g => ?_)
 refine n1 ?_ (ed 9) (fun ev w hl ec e1 d ty p af g => by unfold execOp; simp only [e1, ec]; have hc := HC0 w hl; go_simp)
 refine n1 ?_ (ed 10) (fun ev w hl ec e1 d ty p af g => ?_)
 refine n2 ?_ (ed 8) (ed 11) (fun ev w hl ec e1 e2 d ty p af g => ?_)
 refine n1 ?_ (ed 12) (fun ev w hl ec e1 d ty p af g => ?_)
 refine n1 ?_ (eb 4) (fun ev w hl ec e1 d ty p af g => ?_)
 refine n1 ?_ (ed 14) (fun ev w hl ec e1 d ty p af g => by unfold execOp; simp only [e1, ec]; have hc := HC0 w hl; go_simp)
 refine nG ?_ fun a w hl hb hd o ho => by obtain ⟨_, e1, rfl⟩ := hd 15 _ _ (by simp) rfl rfl; exact rcC o ho (h4 w hl)
 refine n1 ?_ (ed 16) (fun ev w hl ec e1 d ty p af g => ?_)
 refine n2 ?_ (ed 13) (ed 17) (fun ev w hl ec e1 e2 d ty p af g => ?_)
 refine n1 ?_ (ed 18) (fun ev w hl ec e1 d ty p af g => ?_)
 refine n1 ?_ (eb 3) (fun ev w hl ec e1 d ty p af g => ?_)
 refine n1 ?_ (ed 20) (fun ev w hl ec e1 d ty p af g => ?_)
 refine n1 ?_ (ed 21) (fun ev w hl ec e1 d ty p af g => ?_)
 refine n1 ?_ (eb 0) (fun ev w hl ec e1 d ty p af g => ?_)
 refine n1 ?_ (eb 3) (fun ev w hl ec e1 d ty p af g => ?_)
 refine n1 ?_ (ed 24) (fun ev w hl ec e1 d ty p af g => ?_)
 refine n2 ?_ (ed 23) (ed 25) (fun ev w hl ec e1 e2 d ty p af g => ?_)
 refine n1 ?_ (ed 26) (fun ev w hl ec e1 d ty p af g => ?_)
 refine n1 ?_ (ed 27) (fun ev w hl ec e1 d ty p af g => by unfold execOp; simp only [e1, ec]; have hc := HCP w hl; go_simp)
 refine n1 ?_ (eb 4) (fun ev w hl ec e1 d ty p af g => ?_)
 refine n1 ?_ (ed 29) (fun ev w hl ec e1 d ty p af g => by unfold execOp; simp only [e1, ec]; have hc := HC1 w hl; go_simp)
 refine n2 ?_ (ed 28) (ed 30) (fun ev w hl ec e1 e2 d ty p af g => ?_)
 refine n2 ?_ (ed 22) (ed 31) (fun ev w hl ec e1 e2 d ty p af g => ?_)
 refine n2 ?_ (ed 19) (ed 32) (fun ev w hl ec e1 e2 d ty p af g => ?_)
 ·exact AllStepsN.none
 all_goals (unfold execOp; first | simp only [e1, e2, ec] | simp only [e1, ec] | simp only [ec])
 all_goals go_simp
noncomputable def zeN (g o n c g4 : Nat) (t u : Int) (k k2 : Nat) (pu : Int) : List SRow := zcd g o n c g4 t u k k2 pu (.bool false) (.bool false) (.pointer (some ⟨g4, 1, none⟩)) (.int .i64 u) (.bool false) (.bool false) (.bool false) (.pointer (some ⟨g4, 0, none⟩)) (.int .i64 t) (.bool false) (.bool false) (.bool false) (.pointer (some ⟨g4, 0, none⟩)) (.int .i64 t) (.bool true) (.bool false) (.bool false) (.bool false) (.int .i64 (k : Int)) (.bool false) (.bool false) undef undef undef undef undef undef undef undef undef (.bool false) (.bool false)
theorem zjJ (V : World) (g o n c g4 : Nat) (t u : Int) (k k2 : Nat) (pu : Int) (v1 v2 v5 v6 v7 v8 v9 v10 v11 v12 v13 v14 v15 v16 v17 v18 v19 v54 v55 v56 v57 v58 v59 v60 v61 : Value) (HC0 : ∀ w', Lat V w' → w'.cell? ⟨g4, 0, none⟩ = some (.int .i64 t)) (HC1 : ∀ w', Lat V w' → w'.cell? ⟨g4, 1, none⟩ = some (.int .i64 u)) (h1 : ¬ u < 1) (h1b : 1 ≤ u) (h2 : ¬ (10000000000000 : Int) < u) (h2b : u ≤ 10000000000000) (h3 : ¬ t = 0) (h3b : (t == 0) = false) (h4 : ∀ w, Lat V w → Calls Tryz.prog 26 #[.int .i64 t] w (fun e w' => e = .returned (.bool true) ∧ Lat w w')) (h5n : k = 0) (h5 : ¬ (0 : Int) < (k : Int)) (h5b : (k : Int) ≤ 0) :
  AllStepsN Tryz.prog (zeN g o n c g4 t u k k2 pu) (zaZ g o n c g4 t u k k2 pu v1 v2 v5 v6 v7 v8 v9 v10 v11 v12 v13 v14 v15 v16 v17 v18 v19 v54 v55 v56 v57 v58 v59 v60 v61) V (zeN g o n c g4 t u k k2 pu) := by
 refine n1 ?_ (eb 4) (fun ev w hl ec e1 d ty p af g => ?_)
 refine n1 ?_ (ed 0) (fun ev w hl ec e1 d ty p af g => by unfold execOp; simp only [e1, ec]; have hc := HC1 w hl; go_simp)
 refine n1 ?_ (ed 1) (fun ev w hl ec e1 d ty p af g => ?_)
 refine n1 ?_ (ed 2) (fun ev w hl ec e1 d ty p af g => ?_)
 refine n1 ?_ (eb 4) (fun ev w hl ec e1 d ty p af g => ?_)
 refine n1 ?_ (ed 4) (fun ev w hl ec e1 d ty p af g => by unfold execOp; simp only [e1, ec]; have hc := HC1 w hl; go_simp)
 refine n1 ?_ (ed 5) (fun ev w hl ec e1 d ty p af g => ?_)
 refine n2 ?_ (ed 3) (ed 6) (fun ev w hl ec e1 e2 d ty p af g => ?_)
 refine n1 ?_ (ed 7) (fun ev w hl ec e1 d ty p af g => ?_)
 refine n1 ?_ (eb 4) (fun ev w hl ec e1 d ty p af g => ?_)
 refine n1 ?_ (ed 9) (fun ev w hl ec e1 d ty p af g => by unfold execOp; simp only [e1, ec]; have hc := HC0 w hl; go_simp)
 refine n1 ?_ (ed 10) (fun ev w hl ec e1 d ty p af g => ?_)
 refine n2 ?_ (ed 8) (ed 11) (fun ev w hl ec e1 e2 d ty p af g => ?_)
 refine n1 ?_ (ed 12) (fun ev w hl ec e1 d ty p af g => ?_)
 refine n1 ?_ (eb 4) (fun ev w hl ec e1 d ty p af g => ?_)
 refine n1 ?_ (ed 14) (fun ev w hl ec e1 d ty p af g => by unfold execOp; simp only [e1, ec]; have hc := HC0 w hl; go_simp)
 refine nG ?_ fun a w hl hb hd o ho => by obtain ⟨_, e1, rfl⟩ := hd 15 _ _ (by simp) rfl rfl; exact rcC o ho (h4 w hl)
 refine n1 ?_ (ed 16) (fun ev w hl ec e1 d ty p af g => ?_)
 refine n2 ?_ (ed 13) (ed 17) (fun ev w hl ec e1 e2 d ty p af g => ?_)
 refine n1 ?_ (ed 18) (fun ev w hl ec e1 d ty p af g => ?_)
 refine n1 ?_ (eb 3) (fun ev w hl ec e1 d ty p af g => ?_)
 refine n1 ?_ (ed 20) (fun ev w hl ec e1 d ty p af g => ?_)
 refine n1 ?_ (ed 21) (fun ev w hl ec e1 d ty p af g => ?_)
 refine nk ?_
 refine nk ?_
 refine nk ?_
 refine nk ?_
 refine nk ?_
 refine nk ?_
 refine nk ?_
 refine nk ?_
 refine nk ?_
 refine n1 ?_ (ed 22) (fun ev w hl ec e1 d ty p af g => ?_)
 refine n2 ?_ (ed 19) (ed 32) (fun ev w hl ec e1 e2 d ty p af g => ?_)
 ·exact AllStepsN.none
 all_goals (unfold execOp; first | simp only [e1, e2, ec] | simp only [e1, ec] | simp only [ec])
 all_goals go_simp
theorem zdC (A : Option Addr) (n c : Nat) (l : List (Int × Int)) (w : World) (hs : RowM w A 2 n (zab l)) (hn : n ≤ 1000000) :
  Calls Tryz.prog 38 #[.slice A n c] w (fun e w' => e = .returned (.bool (decide (ckE l = 0))) ∧ Lat w w') := by
 obtain ⟨B, hB⟩ : ∃ B, decide (ckE l = 0) = B := ⟨_, rfl⟩
 rw [hB]
 have hyes : ckE l = 0 → B = true := fun h => by rw [← hB]; exact decide_eq_true h
 have hno : ckE l = 30 → B = false := fun h => by rw [← hB, h]; rfl
 clear hB
 have hlen := hs.1
 rw [zam] at hlen
 by_cases hbig : 200 < n
 ·have hE : B = false := hno (zcm fun h => by have := h.len; omega)
  have hbI : (200 : Int) < (n : Int) := by omega
  subst hE
  clear hs hbig hyes hno
  go_enter Tryz.func38, Tryz.ntmps38
  go_wp2
  go_ret
  exact ⟨rfl, Lat.refl _⟩
 have HYES := Lib.hid hyes
 have HNO := Lib.hid hno
 have HLEN := Lib.hid hlen
 have HS := Lib.hid hs
 have hbI : ¬ (200 : Int) < (n : Int) := by omega
 have HB := Lib.hid hbig
 clear hlen hs hn hbig hyes hno
 go_enter Tryz.func38, Tryz.ntmps38
 go_wp2
 go_loopw [3] (fun iv wr => ∃ k : Nat, k ≤ n ∧ iv = .int .i64 (k : Nat) ∧ Hid (∀ j x, j < k → l[j]? = some x → okAt (zbS l j) x) ∧ Hid (0 ≤ zbS l k) ∧ Lat w wr) (fun iv _ => n - (intOf iv).toNat)
 case atStart => exact ⟨0, Nat.zero_le _, rfl, fun j x h => absurd h (by omega), (by show (0 : Int) ≤ 0; omega), Lat.refl _⟩
 case round =>
  obtain ⟨k, hk, rfl, hI, hP, hl⟩ := hrel
  by_cases hkn : k < n
  ·obtain ⟨g, o, x, rfl, hg, hx, c0, c1⟩ := zaL (HS.out.later hl) hkn
   obtain ⟨t, u⟩ := x
   simp only at c0 c1
   obtain ⟨la, hla⟩ : ∃ z, zbS l k = z := ⟨_, rfl⟩
   have hok : ckE l = 30 ∨ okAt la (t, u) := by
    by_cases h : ValidR l
    ·exact .inr (hla ▸ h.okAt hx)
    ·exact .inl (zcm h)
   have hbad : ¬ okAt la (t, u) → B = false := fun h => HNO.out (hok.resolve_right h)
   have hsu := zbZ hx
   have hI2 : Hid (okAt la (t, u) → ∀ j x, j < k + 1 → l[j]? = some x → okAt (zbS l j) x) := fun h j y hj hy => by
    rcases Nat.lt_or_ge j k with h1 | h1
    ·exact hI.out j y h1 hy
    ·obtain rfl : j = k := by omega
     rw [hx] at hy; cases hy
     rw [hla]; exact h
   simp only at hsu
   have hprev : k = 0 ∧ la = 0 ∨ ∃ k', k = k' + 1 ∧ ∀ w', Lat wr w' → w'.cell? ⟨g, o + k' * 2 + 1, none⟩ = some (.int .i64 la) := by
    cases k with
    | zero => exact .inl ⟨rfl, hla.symm⟩
    | succ k' =>
      refine .inr ⟨k', rfl, fun w' hw => ?_⟩
      obtain ⟨g2, o2, y, e, _, hy, _, d1⟩ := zaL (HS.out.later (hl.trans hw)) (show k' < n by omega)
      cases e
      rw [← hla, zbZ hy]
      exact d1
   rw [hla] at hP
   have hkI : (k : Int) < (n : Int) := by omega
   have hk0 : (0 : Int) ≤ (k : Int) := by omega
   have wk : wrap64 ((k : Int) + 1) = (k : Int) + 1 := IntWalk.wrap64_in _ (by have := HB.out; omega)
   have HBAD := Lib.hid hbad
   have HSU := Lib.hid hsu
   have HKN := Lib.hid hkn
   have HPREV := Lib.hid hprev
   have HW := Lib.hid (zcn t)
   clear hok hbad hsu hla hI hx hg hk hkn hprev
   go_upto_region 7 with (fail)
   refine zas (Q := fun W => Code.wp _ _ _ _ W) ?_
   intro W5 l5 s5 k5
   have L5 := Lib.hid (hl.trans l5)
   have H0 : ∀ w', Lat W5 w' → w'.cell? ⟨wr.heap.size, 0, none⟩ = some (.int .i64 t) := fun w' h => (k5.later h).cell 0
   have H1 : ∀ w', Lat W5 w' → w'.cell? ⟨wr.heap.size, 1, none⟩ = some (.int .i64 u) := fun w' h => (k5.later h).cell 1
   have HPV : Hid (k = 0 ∧ la = 0 ∨ ∃ k', k = k' + 1 ∧ ∀ w', Lat W5 w' → w'.cell? ⟨g, o + k' * 2 + 1, none⟩ = some (.int .i64 la)) := HPREV.out.imp_right fun ⟨k', e, h⟩ => ⟨k', e, fun w' hw => h w' (l5.trans hw)⟩
   clear c0 c1 hl l5 s5 k5 HPREV
   obtain ⟨g4, hg4⟩ : ∃ z, wr.heap.size = z := ⟨_, rfl⟩
   simp only [hg4] at H0 H1 ⊢
   clear hg4
   by_cases h1 : u < 1
   ·have h1b : ¬ 1 ≤ u := by omega
    obtain rfl := HBAD.out (fun h => by have := h.1; have := hP.out; simp only at *; omega)
    clear HBAD HSU hI2
    as_aux_lemma =>
     rename_i KN hKN
     refine zae (zeH g o n c g4 t u k 0 0) (zaZ g o n c g4 t u k 0 0 _ _ _ _ _ _ _ _ _ _ _ _ _ _ _ _ _ _ _ _ _ _ _ _ _) 62 34 [[], [0], [1], [2], [3], [4, 3], [5, 3], [3, 6], [7, 3], [8], [9, 8], [10, 8], [8, 11], [12, 8], [13], [14, 13], [15, 13, 13], [16, 13], [13, 17], [18, 16], [19], [20, 19], [21, 19, 19], [22], [22], [24, 22], [23, 25, 22], [26, 22], [27, 22], [22], [29, 22], [28, 30, 22], [22, 31, 19], [19, 32]] (by kernel_rfl) (by kernel_rfl) (by kernel_rfl) (by kernel_rfl) (by kernel_rfl) (by kernel_rfl) (by rfl) rfl (base_of (by repeat (first | exact base_nil _ | refine zad rfl ?_))) (zjD W5 g o n c g4 t u k 0 0 _ _ _ _ _ _ _ _ _ _ _ _ _ _ _ _ _ _ _ _ _ _ _ _ _ H0 H1 h1 h1b) ?_
     ·intro a9 W9 hsz9 hdf9 hL9 hbs hsl
      obtain ⟨v9, h9, q9⟩ := hsl 33 _ _ rfl rfl
      obtain rfl : v9 = .bool true := q9
      have w53 := zaa h9
      clear h9
      refine hKN _ _ ?_
      obtain ⟨T9, df9⟩ := a9
      obtain rfl : df9 = [] := hdf9
      obtain ⟨f, hf, rfl⟩ := zcT T9 hsz9
      have XX := fun k v h => (hf k).trans (zaa (hbs k v h))
      have x0 : f 0 = .slice (some ⟨g, o, none⟩) n c := XX 0 _ rfl
      have x3 : f 3 = .int .i64 (k : Int) := XX 3 _ rfl
      have x4 : f 4 = .pointer (some ⟨g4, 0, none⟩) := XX 4 _ rfl
      have x53 := (hf 53).trans w53
      clear hbs hsl hf hsz9 hKN w53
      simp only [x0, x3, x4, XX 1 _ rfl, XX 2 _ rfl, XX 5 _ rfl, XX 6 _ rfl, XX 7 _ rfl, XX 8 _ rfl, XX 9 _ rfl, XX 10 _ rfl, XX 11 _ rfl, XX 12 _ rfl, XX 13 _ rfl, XX 14 _ rfl, XX 15 _ rfl, XX 16 _ rfl, XX 17 _ rfl, XX 18 _ rfl, XX 19 _ rfl, XX 54 _ rfl, XX 55 _ rfl, XX 56 _ rfl, XX 57 _ rfl, XX 58 _ rfl, XX 59 _ rfl, XX 60 _ rfl, XX 61 _ rfl, x53]
      clear XX x0 x3 x4 x53
      have LF := Lib.hid (L5.out.trans hL9)
      clear hL9 L5
      go_wp2
      go_ret
      exact ⟨rfl, LF.out⟩
   have h1b : 1 ≤ u := by omega
   by_cases h2 : 10000000000000 < u
   ·have h2b : ¬ u ≤ 10000000000000 := by omega
    obtain rfl := HBAD.out (fun h => by have := h.2.1; simp only at this; omega)
    clear HBAD HSU hI2
    as_aux_lemma =>
     rename_i KN hKN
     refine zae (zeI g o n c g4 t u k 0 0) (zaZ g o n c g4 t u k 0 0 _ _ _ _ _ _ _ _ _ _ _ _ _ _ _ _ _ _ _ _ _ _ _ _ _) 62 34 [[], [0], [1], [2], [3], [4, 3], [5, 3], [3, 6], [7, 3], [8], [9, 8], [10, 8], [8, 11], [12, 8], [13], [14, 13], [15, 13, 13], [16, 13], [13, 17], [18, 16], [19], [20, 19], [21, 19, 19], [22], [22], [24, 22], [23, 25, 22], [26, 22], [27, 22], [22], [29, 22], [28, 30, 22], [22, 31, 19], [19, 32]] (by kernel_rfl) (by kernel_rfl) (by kernel_rfl) (by kernel_rfl) (by kernel_rfl) (by kernel_rfl) (by rfl) rfl (base_of (by repeat (first | exact base_nil _ | refine zad rfl ?_))) (zjE W5 g o n c g4 t u k 0 0 _ _ _ _ _ _ _ _ _ _ _ _ _ _ _ _ _ _ _ _ _ _ _ _ _ H0 H1 h1 h1b h2 h2b) ?_
     ·intro a9 W9 hsz9 hdf9 hL9 hbs hsl
      obtain ⟨v9, h9, q9⟩ := hsl 33 _ _ rfl rfl
      obtain rfl : v9 = .bool true := q9
      have w53 := zaa h9
      clear h9
      refine hKN _ _ ?_
      obtain ⟨T9, df9⟩ := a9
      obtain rfl : df9 = [] := hdf9
      obtain ⟨f, hf, rfl⟩ := zcT T9 hsz9
      have XX := fun k v h => (hf k).trans (zaa (hbs k v h))
      have x0 : f 0 = .slice (some ⟨g, o, none⟩) n c := XX 0 _ rfl
      have x3 : f 3 = .int .i64 (k : Int) := XX 3 _ rfl
      have x4 : f 4 = .pointer (some ⟨g4, 0, none⟩) := XX 4 _ rfl
      have x53 := (hf 53).trans w53
      clear hbs hsl hf hsz9 hKN w53
      simp only [x0, x3, x4, XX 1 _ rfl, XX 2 _ rfl, XX 5 _ rfl, XX 6 _ rfl, XX 7 _ rfl, XX 8 _ rfl, XX 9 _ rfl, XX 10 _ rfl, XX 11 _ rfl, XX 12 _ rfl, XX 13 _ rfl, XX 14 _ rfl, XX 15 _ rfl, XX 16 _ rfl, XX 17 _ rfl, XX 18 _ rfl, XX 19 _ rfl, XX 54 _ rfl, XX 55 _ rfl, XX 56 _ rfl, XX 57 _ rfl, XX 58 _ rfl, XX 59 _ rfl, XX 60 _ rfl, XX 61 _ rfl, x53]
      clear XX x0 x3 x4 x53
      have LF := Lib.hid (L5.out.trans hL9)
      clear hL9 L5
      go_wp2
      go_ret
      exact ⟨rfl, LF.out⟩
   have h2b : u ≤ 10000000000000 := by omega
   by_cases h3 : t = 0
   ·obtain rfl := HBAD.out (fun h => h.2.2.1 h3)
    clear HBAD HSU hI2
    as_aux_lemma =>
     rename_i KN hKN
     refine zae (zeJ g o n c g4 t u k 0 0) (zaZ g o n c g4 t u k 0 0 _ _ _ _ _ _ _ _ _ _ _ _ _ _ _ _ _ _ _ _ _ _ _ _ _) 62 34 [[], [0], [1], [2], [3], [4, 3], [5, 3], [3, 6], [7, 3], [8], [9, 8], [10, 8], [8, 11], [12, 8], [13], [14, 13], [15, 13, 13], [16, 13], [13, 17], [18, 16], [19], [20, 19], [21, 19, 19], [22], [22], [24, 22], [23, 25, 22], [26, 22], [27, 22], [22], [29, 22], [28, 30, 22], [22, 31, 19], [19, 32]] (by kernel_rfl) (by kernel_rfl) (by kernel_rfl) (by kernel_rfl) (by kernel_rfl) (by kernel_rfl) (by rfl) rfl (base_of (by repeat (first | exact base_nil _ | refine zad rfl ?_))) (zjF W5 g o n c g4 t u k 0 0 _ _ _ _ _ _ _ _ _ _ _ _ _ _ _ _ _ _ _ _ _ _ _ _ _ H0 H1 h1 h1b h2 h2b h3) ?_
     ·intro a9 W9 hsz9 hdf9 hL9 hbs hsl
      obtain ⟨v9, h9, q9⟩ := hsl 33 _ _ rfl rfl
      obtain rfl : v9 = .bool true := q9
      have w53 := zaa h9
      clear h9
      refine hKN _ _ ?_
      obtain ⟨T9, df9⟩ := a9
      obtain rfl : df9 = [] := hdf9
      obtain ⟨f, hf, rfl⟩ := zcT T9 hsz9
      have XX := fun k v h => (hf k).trans (zaa (hbs k v h))
      have x0 : f 0 = .slice (some ⟨g, o, none⟩) n c := XX 0 _ rfl
      have x3 : f 3 = .int .i64 (k : Int) := XX 3 _ rfl
      have x4 : f 4 = .pointer (some ⟨g4, 0, none⟩) := XX 4 _ rfl
      have x53 := (hf 53).trans w53
      clear hbs hsl hf hsz9 hKN w53
      simp only [x0, x3, x4, XX 1 _ rfl, XX 2 _ rfl, XX 5 _ rfl, XX 6 _ rfl, XX 7 _ rfl, XX 8 _ rfl, XX 9 _ rfl, XX 10 _ rfl, XX 11 _ rfl, XX 12 _ rfl, XX 13 _ rfl, XX 14 _ rfl, XX 15 _ rfl, XX 16 _ rfl, XX 17 _ rfl, XX 18 _ rfl, XX 19 _ rfl, XX 54 _ rfl, XX 55 _ rfl, XX 56 _ rfl, XX 57 _ rfl, XX 58 _ rfl, XX 59 _ rfl, XX 60 _ rfl, XX 61 _ rfl, x53]
      clear XX x0 x3 x4 x53
      have LF := Lib.hid (L5.out.trans hL9)
      clear hL9 L5
      go_wp2
      go_ret
      exact ⟨rfl, LF.out⟩
   have h3b : (t == 0) = false := by simp [h3]
   by_cases h4t : zbo t
   ·have h4 : ∀ w, Lat W5 w → Calls Tryz.prog 26 #[.int .i64 t] w (fun e w' => e = .returned (.bool true) ∧ Lat w w') := fun w _ => (HW.out w).mono fun e w' h => by rw [decide_eq_true h4t] at h; obtain ⟨rfl, rfl⟩ := h; exact ⟨rfl, Lat.refl _⟩
    have HOK : Hid (la < u → zbR u.toNat ≤ 1 → okAt la (t, u)) := fun a b => ⟨a, h2b, h3, h4t, b⟩
    obtain ⟨N, rfl⟩ := Int.eq_ofNat_of_zero_le (show 0 ≤ u by omega)
    have HPA := Lib.hid (fun w => zcQ N w (by omega) (by omega))
    obtain ⟨s, hs⟩ : ∃ z, zbR N = z := ⟨_, rfl⟩
    obtain ⟨q, hq⟩ : ∃ z, zbs N = z := ⟨_, rfl⟩
    rw [hs, hq] at HPA
    rw [Int.toNat_natCast, hs] at HOK
    have HEND : Hid (1 < s → B = false) := fun h => HBAD.out (fun h' => by have := h'.2.2.2.2; rw [Int.toNat_natCast, hs] at this; omega)
    rcases HPV.out with ⟨hz, hla0⟩ | ⟨k', hk', HCP⟩
    ·have h5n : k = 0 := hz
     have h5 : ¬ (0 : Int) < (k : Int) := by omega
     have h5b : (k : Int) ≤ 0 := by omega
     have HLT : Hid (la < (N : Int)) := by show _ < _; omega
     clear hq hs HW h4t HPV hz hla0 HBAD
     as_aux_lemma =>
      rename_i KN hKN
      refine zae (zeN g o n c g4 t (N : Int) k 0 0) (zaZ g o n c g4 t (N : Int) k 0 0 _ _ _ _ _ _ _ _ _ _ _ _ _ _ _ _ _ _ _ _ _ _ _ _ _) 62 34 [[], [0], [1], [2], [3], [4, 3], [5, 3], [3, 6], [7, 3], [8], [9, 8], [10, 8], [8, 11], [12, 8], [13], [14, 13], [15, 13, 13], [16, 13], [13, 17], [18, 16], [19], [20, 19], [21, 19, 19], [22], [22], [24, 22], [23, 25, 22], [26, 22], [27, 22], [22], [29, 22], [28, 30, 22], [22, 31, 19], [19, 32]] (by kernel_rfl) (by kernel_rfl) (by kernel_rfl) (by kernel_rfl) (by kernel_rfl) (by kernel_rfl) (by rfl) rfl (base_of (by repeat (first | exact base_nil _ | refine zad rfl ?_))) (zjJ W5 g o n c g4 t (N : Int) k 0 0 _ _ _ _ _ _ _ _ _ _ _ _ _ _ _ _ _ _ _ _ _ _ _ _ _ H0 H1 h1 h1b h2 h2b h3 h3b h4 h5n h5 h5b) ?_
      ·intro a9 W9 hsz9 hdf9 hL9 hbs hsl
       obtain ⟨v9, h9, q9⟩ := hsl 33 _ _ rfl rfl
       obtain rfl : v9 = .bool false := q9
       have w53 := zaa h9
       clear h9
       refine hKN _ _ ?_
       obtain ⟨T9, df9⟩ := a9
       obtain rfl : df9 = [] := hdf9
       obtain ⟨f, hf, rfl⟩ := zcT T9 hsz9
       have XX := fun k v h => (hf k).trans (zaa (hbs k v h))
       have x0 : f 0 = .slice (some ⟨g, o, none⟩) n c := XX 0 _ rfl
       have x3 : f 3 = .int .i64 (k : Int) := XX 3 _ rfl
       have x4 : f 4 = .pointer (some ⟨g4, 0, none⟩) := XX 4 _ rfl
       have x53 := (hf 53).trans w53
       clear hbs hsl hf hsz9 hKN w53
       simp only [x0, x3, x4, XX 1 _ rfl, XX 2 _ rfl, XX 5 _ rfl, XX 6 _ rfl, XX 7 _ rfl, XX 8 _ rfl, XX 9 _ rfl, XX 10 _ rfl, XX 11 _ rfl, XX 12 _ rfl, XX 13 _ rfl, XX 14 _ rfl, XX 15 _ rfl, XX 16 _ rfl, XX 17 _ rfl, XX 18 _ rfl, XX 19 _ rfl, XX 54 _ rfl, XX 55 _ rfl, XX 56 _ rfl, XX 57 _ rfl, XX 58 _ rfl, XX 59 _ rfl, XX 60 _ rfl, XX 61 _ rfl, x53]
       clear XX x0 x3 x4 x53
       have HD9 := H1 _ hL9
       have L9 := Lib.hid (L5.out.trans hL9)
       clear h5n h5 h5b
       clear hL9 L5 H0 H1
       have d1 : W9.cell? ⟨g4, 1, none⟩ = some (.int .i64 (N : Nat)) := HD9
       clear HD9
       go_wp2_with fail
       refine (HPA.out _).mono ?_
       rintro e w2 ⟨rfl, m2⟩
       have LF := Lib.hid (L9.out.trans m2)
       clear m2 L9 HPA d1
       by_cases h7 : s ≤ 1
       ·have h7I : ¬ (1 : Int) < (s : Int) := by omega
        have HRel : ∃ q : Nat, q ≤ n ∧ (Value.int .i64 ((k : Int) + 1)) = .int .i64 (q : Nat) ∧ Hid (∀ j x, j < q → l[j]? = some x → okAt (zbS l j) x) ∧ Hid (0 ≤ zbS l q) ∧ Lat w w2 := ⟨k + 1, HKN.out, zac k, hI2.out (HOK.out HLT.out h7), by show 0 ≤ zbS l (k + 1); rw [HSU.out]; omega, LF.out⟩
        have HM := Lib.hid (zar HKN.out)
        clear h7 hI2 HSU HOK HLT HEND hP
        go_wp2
        go_roundw
        case rel => first | exact HRel | exact ⟨_, HRel, rfl⟩ | exact ⟨_, _, HRel, rfl⟩ | exact ⟨_, _, _, HRel, rfl⟩ | exact ⟨_, _, _, _, HRel, rfl⟩ | exact ⟨_, _, _, _, _, HRel, rfl⟩ | exact ⟨_, _, _, _, _, _, HRel, rfl⟩ | exact ⟨_, _, _, _, _, _, _, HRel, rfl⟩ | exact ⟨_, _, _, _, _, _, _, _, HRel, rfl⟩ | exact ⟨_, _, _, _, _, _, _, _, _, HRel, rfl⟩
        case measure => exact zar HKN.out
       ·have h7I : (1 : Int) < (s : Int) := by omega
        obtain rfl := HEND.out (by omega)
        clear h7 HEND hI2 HOK
        go_wp2
        go_ret
        exact ⟨rfl, LF.out⟩
    ·have h5n : 0 < k := by omega
     have h5 : (0 : Int) < (k : Int) := by omega
     have h5b : ¬ (k : Int) ≤ 0 := by omega
     have hkk : (k' : Int) = (k : Int) - 1 := by omega
     have w1 : wrap64 ((k : Int) - 1) = (k' : Int) := by rw [hkk]; exact IntWalk.wrap64_in _ (by have := HB.out; omega)
     have w2 : IntKind.i64.wrap ((k : Int) - 1) = (k' : Int) := by rw [IntWalk.i64_left]; exact w1
     have hk1 : (k' : Int) < (n : Int) := by omega
     have hk2 : (0 : Int) ≤ (k' : Int) := by omega
     by_cases h6 : (N : Int) ≤ la
     ·have h6b : ¬ la < (N : Int) := by omega
      obtain rfl := HBAD.out (fun h => by have := h.1; simp only at this; omega)
      clear hq hs HW h4t HPV HBAD HEND HOK HPA hI2 HSU hkk hk'
      as_aux_lemma =>
       rename_i KN hKN
       refine zae (zeL g o n c g4 t (N : Int) k k' la) (zaZ g o n c g4 t (N : Int) k k' la _ _ _ _ _ _ _ _ _ _ _ _ _ _ _ _ _ _ _ _ _ _ _ _ _) 62 34 [[], [0], [1], [2], [3], [4, 3], [5, 3], [3, 6], [7, 3], [8], [9, 8], [10, 8], [8, 11], [12, 8], [13], [14, 13], [15, 13, 13], [16, 13], [13, 17], [18, 16], [19], [20, 19], [21, 19, 19], [22], [22], [24, 22], [23, 25, 22], [26, 22], [27, 22], [22], [29, 22], [28, 30, 22], [22, 31, 19], [19, 32]] (by kernel_rfl) (by kernel_rfl) (by kernel_rfl) (by kernel_rfl) (by kernel_rfl) (by kernel_rfl) (by rfl) rfl (base_of (by repeat (first | exact base_nil _ | refine zad rfl ?_))) (zjH W5 g o n c g4 t (N : Int) k k' la _ _ _ _ _ _ _ _ _ _ _ _ _ _ _ _ _ _ _ _ _ _ _ _ _ H0 H1 h1 h1b h2 h2b h3 h3b h4 h5n h5 h5b w1 w2 hk1 hk2 HCP h6 h6b) ?_
       ·intro a9 W9 hsz9 hdf9 hL9 hbs hsl
        obtain ⟨v9, h9, q9⟩ := hsl 33 _ _ rfl rfl
        obtain rfl : v9 = .bool true := q9
        have w53 := zaa h9
        clear h9
        refine hKN _ _ ?_
        obtain ⟨T9, df9⟩ := a9
        obtain rfl : df9 = [] := hdf9
        obtain ⟨f, hf, rfl⟩ := zcT T9 hsz9
        have XX := fun k v h => (hf k).trans (zaa (hbs k v h))
        have x0 : f 0 = .slice (some ⟨g, o, none⟩) n c := XX 0 _ rfl
        have x3 : f 3 = .int .i64 (k : Int) := XX 3 _ rfl
        have x4 : f 4 = .pointer (some ⟨g4, 0, none⟩) := XX 4 _ rfl
        have x53 := (hf 53).trans w53
        clear hbs hsl hf hsz9 hKN w53
        simp only [x0, x3, x4, XX 1 _ rfl, XX 2 _ rfl, XX 5 _ rfl, XX 6 _ rfl, XX 7 _ rfl, XX 8 _ rfl, XX 9 _ rfl, XX 10 _ rfl, XX 11 _ rfl, XX 12 _ rfl, XX 13 _ rfl, XX 14 _ rfl, XX 15 _ rfl, XX 16 _ rfl, XX 17 _ rfl, XX 18 _ rfl, XX 19 _ rfl, XX 54 _ rfl, XX 55 _ rfl, XX 56 _ rfl, XX 57 _ rfl, XX 58 _ rfl, XX 59 _ rfl, XX 60 _ rfl, XX 61 _ rfl, x53]
        clear XX x0 x3 x4 x53
        have LF := Lib.hid (L5.out.trans hL9)
        clear hL9 L5
        go_wp2
        go_ret
        exact ⟨rfl, LF.out⟩
     ·have h6b : la < (N : Int) := by omega
      have HLT := Lib.hid h6b
      clear hq hs HW h4t HPV HBAD hkk hk'
      as_aux_lemma =>
       rename_i KN hKN
       refine zae (zeM g o n c g4 t (N : Int) k k' la) (zaZ g o n c g4 t (N : Int) k k' la _ _ _ _ _ _ _ _ _ _ _ _ _ _ _ _ _ _ _ _ _ _ _ _ _) 62 34 [[], [0], [1], [2], [3], [4, 3], [5, 3], [3, 6], [7, 3], [8], [9, 8], [10, 8], [8, 11], [12, 8], [13], [14, 13], [15, 13, 13], [16, 13], [13, 17], [18, 16], [19], [20, 19], [21, 19, 19], [22], [22], [24, 22], [23, 25, 22], [26, 22], [27, 22], [22], [29, 22], [28, 30, 22], [22, 31, 19], [19, 32]] (by kernel_rfl) (by kernel_rfl) (by kernel_rfl) (by kernel_rfl) (by kernel_rfl) (by kernel_rfl) (by rfl) rfl (base_of (by repeat (first | exact base_nil _ | refine zad rfl ?_))) (zjI W5 g o n c g4 t (N : Int) k k' la _ _ _ _ _ _ _ _ _ _ _ _ _ _ _ _ _ _ _ _ _ _ _ _ _ H0 H1 h1 h1b h2 h2b h3 h3b h4 h5n h5 h5b w1 w2 hk1 hk2 HCP h6 h6b) ?_
       ·intro a9 W9 hsz9 hdf9 hL9 hbs hsl
        obtain ⟨v9, h9, q9⟩ := hsl 33 _ _ rfl rfl
        obtain rfl : v9 = .bool false := q9
        have w53 := zaa h9
        clear h9
        refine hKN _ _ ?_
        obtain ⟨T9, df9⟩ := a9
        obtain rfl : df9 = [] := hdf9
        obtain ⟨f, hf, rfl⟩ := zcT T9 hsz9
        have XX := fun k v h => (hf k).trans (zaa (hbs k v h))
        have x0 : f 0 = .slice (some ⟨g, o, none⟩) n c := XX 0 _ rfl
        have x3 : f 3 = .int .i64 (k : Int) := XX 3 _ rfl
        have x4 : f 4 = .pointer (some ⟨g4, 0, none⟩) := XX 4 _ rfl
        have x53 := (hf 53).trans w53
        clear hbs hsl hf hsz9 hKN w53
        simp only [x0, x3, x4, XX 1 _ rfl, XX 2 _ rfl, XX 5 _ rfl, XX 6 _ rfl, XX 7 _ rfl, XX 8 _ rfl, XX 9 _ rfl, XX 10 _ rfl, XX 11 _ rfl, XX 12 _ rfl, XX 13 _ rfl, XX 14 _ rfl, XX 15 _ rfl, XX 16 _ rfl, XX 17 _ rfl, XX 18 _ rfl, XX 19 _ rfl, XX 54 _ rfl, XX 55 _ rfl, XX 56 _ rfl, XX 57 _ rfl, XX 58 _ rfl, XX 59 _ rfl, XX 60 _ rfl, XX 61 _ rfl, x53]
        clear XX x0 x3 x4 x53
        have HD9 := H1 _ hL9
        have L9 := Lib.hid (L5.out.trans hL9)
        clear h5n h5 h5b
        clear hL9 L5 H0 H1
        have d1 : W9.cell? ⟨g4, 1, none⟩ = some (.int .i64 (N : Nat)) := HD9
        clear HD9
        go_wp2_with fail
        refine (HPA.out _).mono ?_
        rintro e w2 ⟨rfl, m2⟩
        have LF := Lib.hid (L9.out.trans m2)
        clear m2 L9 HPA d1
        by_cases h7 : s ≤ 1
        ·have h7I : ¬ (1 : Int) < (s : Int) := by omega
         have HRel : ∃ q : Nat, q ≤ n ∧ (Value.int .i64 ((k : Int) + 1)) = .int .i64 (q : Nat) ∧ Hid (∀ j x, j < q → l[j]? = some x → okAt (zbS l j) x) ∧ Hid (0 ≤ zbS l q) ∧ Lat w w2 := ⟨k + 1, HKN.out, zac k, hI2.out (HOK.out HLT.out h7), by show 0 ≤ zbS l (k + 1); rw [HSU.out]; omega, LF.out⟩
         have HM := Lib.hid (zar HKN.out)
         clear h7 hI2 HSU HOK HLT HEND hP
         go_wp2
         go_roundw
         case rel => first | exact HRel | exact ⟨_, HRel, rfl⟩ | exact ⟨_, _, HRel, rfl⟩ | exact ⟨_, _, _, HRel, rfl⟩ | exact ⟨_, _, _, _, HRel, rfl⟩ | exact ⟨_, _, _, _, _, HRel, rfl⟩ | exact ⟨_, _, _, _, _, _, HRel, rfl⟩ | exact ⟨_, _, _, _, _, _, _, HRel, rfl⟩ | exact ⟨_, _, _, _, _, _, _, _, HRel, rfl⟩ | exact ⟨_, _, _, _, _, _, _, _, _, HRel, rfl⟩
         case measure => exact zar HKN.out
        ·have h7I : (1 : Int) < (s : Int) := by omega
         obtain rfl := HEND.out (by omega)
         clear h7 HEND hI2 HOK
         go_wp2
         go_ret
         exact ⟨rfl, LF.out⟩
   ·have h4 : ∀ w, Lat W5 w → Calls Tryz.prog 26 #[.int .i64 t] w (fun e w' => e = .returned (.bool false) ∧ Lat w w') := fun w _ => (HW.out w).mono fun e w' h => by rw [decide_eq_false h4t] at h; obtain ⟨rfl, rfl⟩ := h; exact ⟨rfl, Lat.refl _⟩
    obtain rfl := HBAD.out (fun h => h4t h.2.2.2.1)
    clear HBAD HSU hI2 HW h4t
    as_aux_lemma =>
     rename_i KN hKN
     refine zae (zeK g o n c g4 t u k 0 0) (zaZ g o n c g4 t u k 0 0 _ _ _ _ _ _ _ _ _ _ _ _ _ _ _ _ _ _ _ _ _ _ _ _ _) 62 34 [[], [0], [1], [2], [3], [4, 3], [5, 3], [3, 6], [7, 3], [8], [9, 8], [10, 8], [8, 11], [12, 8], [13], [14, 13], [15, 13, 13], [16, 13], [13, 17], [18, 16], [19], [20, 19], [21, 19, 19], [22], [22], [24, 22], [23, 25, 22], [26, 22], [27, 22], [22], [29, 22], [28, 30, 22], [22, 31, 19], [19, 32]] (by kernel_rfl) (by kernel_rfl) (by kernel_rfl) (by kernel_rfl) (by kernel_rfl) (by kernel_rfl) (by rfl) rfl (base_of (by repeat (first | exact base_nil _ | refine zad rfl ?_))) (zjG W5 g o n c g4 t u k 0 0 _ _ _ _ _ _ _ _ _ _ _ _ _ _ _ _ _ _ _ _ _ _ _ _ _ H0 H1 h1 h1b h2 h2b h3 h3b h4) ?_
     ·intro a9 W9 hsz9 hdf9 hL9 hbs hsl
      obtain ⟨v9, h9, q9⟩ := hsl 33 _ _ rfl rfl
      obtain rfl : v9 = .bool true := q9
      have w53 := zaa h9
      clear h9
      refine hKN _ _ ?_
      obtain ⟨T9, df9⟩ := a9
      obtain rfl : df9 = [] := hdf9
      obtain ⟨f, hf, rfl⟩ := zcT T9 hsz9
      have XX := fun k v h => (hf k).trans (zaa (hbs k v h))
      have x0 : f 0 = .slice (some ⟨g, o, none⟩) n c := XX 0 _ rfl
      have x3 : f 3 = .int .i64 (k : Int) := XX 3 _ rfl
      have x4 : f 4 = .pointer (some ⟨g4, 0, none⟩) := XX 4 _ rfl
      have x53 := (hf 53).trans w53
      clear hbs hsl hf hsz9 hKN w53
      simp only [x0, x3, x4, XX 1 _ rfl, XX 2 _ rfl, XX 5 _ rfl, XX 6 _ rfl, XX 7 _ rfl, XX 8 _ rfl, XX 9 _ rfl, XX 10 _ rfl, XX 11 _ rfl, XX 12 _ rfl, XX 13 _ rfl, XX 14 _ rfl, XX 15 _ rfl, XX 16 _ rfl, XX 17 _ rfl, XX 18 _ rfl, XX 19 _ rfl, XX 54 _ rfl, XX 55 _ rfl, XX 56 _ rfl, XX 57 _ rfl, XX 58 _ rfl, XX 59 _ rfl, XX 60 _ rfl, XX 61 _ rfl, x53]
      clear XX x0 x3 x4 x53
      have LF := Lib.hid (L5.out.trans hL9)
      clear hL9 L5
      go_wp2
      go_ret
      exact ⟨rfl, LF.out⟩
  ·obtain rfl : k = n := by omega
   obtain rfl := HYES.out (zaG (zih (by have := HLEN.out; have := HB.out; omega) (fun j x hx => hI.out j x (by have := (List.getElem?_eq_some_iff.1 hx).1; have := HLEN.out; omega) hx)))
   have hge : ¬ (k : Int) < (k : Int) := by omega
   clear hI hkn
   go_wp2
   go_ret
   exact ⟨rfl, hl⟩
end Go.Proofs.YtpmbglhbcjbkcaaGreat
