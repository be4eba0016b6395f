import Derived.Test.YtogkkhaepfablaaGreatK36
import Derived.Test.YtogkkhaepfablaaGreatK34
import Derived.Test.YtogkkhaepfablaaGreatK29
namespace Go.Proofs.YtogkkhaepfablaaGreat
open Go.RowKit
set_option linter.unusedSimpArgs false
set_option linter.unusedVariables false
theorem un_made {z d : Int} (h0 : 0 ≤ z) (h1 : z ≤ d) (hd : 0 < d) (h2 : d ≤ 1000) : ∃ N D, ShFit N D ∧ 0 ≤ N ∧ N ≤ D ∧ ∀ w, Calls Tryz.prog 56 #[.agg #[.int .u64 (W8.of z).a0, .int .u64 (W8.of z).a1, .int .u64 (W8.of z).a2, .int .u64 (W8.of z).a3, .int .u64 (W8.of z).a4, .int .u64 (W8.of z).a5, .int .u64 (W8.of z).a6, .int .u64 (W8.of z).a7], .agg #[.int .u64 (W8.of d).a0, .int .u64 (W8.of d).a1, .int .u64 (W8.of d).a2, .int .u64 (W8.of d).a3, .int .u64 (W8.of d).a4, .int .u64 (W8.of d).a5, .int .u64 (W8.of d).a6, .int .u64 (W8.of d).a7]] w (fun e w' => e = .returned (.agg #[.int .u64 (W8.of N).a0, .int .u64 (W8.of N).a1, .int .u64 (W8.of N).a2, .int .u64 (W8.of N).a3, .int .u64 (W8.of N).a4, .int .u64 (W8.of N).a5, .int .u64 (W8.of N).a6, .int .u64 (W8.of N).a7, .int .u64 (W8.of D).a0, .int .u64 (W8.of D).a1, .int .u64 (W8.of D).a2, .int .u64 (W8.of D).a3, .int .u64 (W8.of D).a4, .int .u64 (W8.of D).a5, .int .u64 (W8.of D).a6, .int .u64 (W8.of D).a7]) ∧ Lat w w') := by
 have hp : (1000 : Int) < P511 := by decide
 have ez : (W8.of z).toInt = z := W8.of_toInt (by omega) (by omega)
 have ed : (W8.of d).toInt = d := W8.of_toInt (by omega) (by omega)
 have hne : ¬ d < 0 := by omega
 have hN : lowN z d = z / (Int.gcd z d : Int) := by unfold lowN; rw [if_neg hne]
 have hD : lowD z d = d / (Int.gcd z d : Int) := by unfold lowD; rw [if_neg hne]
 have hg : (0 : Int) < (Int.gcd z d : Int) := by
  have : 0 < Int.gcd z d := Int.gcd_pos_of_ne_zero_right z (by omega)
  omega
 have n0 : 0 ≤ lowN z d := by rw [hN]; exact Int.ediv_nonneg h0 (by omega)
 have n1 : lowN z d ≤ lowD z d := by rw [hN, hD]; exact Int.ediv_le_ediv hg h1
 have d1 : lowD z d ≤ d := by rw [hD]; exact Int.ediv_le_self _ (by omega)
 have ho := low_ok' (x := z) (y := d) (by omega)
 refine ⟨lowN z d, lowD z d, ⟨ho, by omega, by omega, by omega⟩, n0, n1, rMade_first (W8.of z) (W8.of d) _ _ (fun w => ?_)⟩
 have H := rMake_ok (W8.of z) (W8.of d) (W8.of_ok z) (W8.of_ok d) (by rw [ed]; omega) w
 rw [ez, ed] at H
 refine H.mono ?_
 have hpos := ho.1
 rintro e w' ⟨x, y, r, rfl, h, hl⟩
 rcases h with ⟨_, _, _, _, rfl, rfl, rfl⟩ | ⟨h, _⟩
 ·exact ⟨rfl, hl⟩
 ·omega
structure UnF (p q r z : Int) : Prop where
 a : q.tmod 24 = r
 b : wrap64 r = r
 c : wrap64 (2 + r) = 2 + r
 d : wrap64 (1 + r) = 1 + r
 e : ¬ (2 + r) = 0
 f : p.tmod (2 + r) = z
 g : wrap64 z = z
theorem un_num {p q : Int} (h : 0 ≤ p ∧ p ≤ 1000000) (k : 0 ≤ q ∧ q ≤ 1000000) : ∃ r z, UnF p q r z ∧ 0 ≤ z ∧ z ≤ 1 + r ∧ 0 < 1 + r ∧ 1 + r ≤ 1000 := by
 have e : q.tmod 24 = q % 24 := Int.tmod_eq_emod_of_nonneg k.1
 have f : p.tmod (2 + q % 24) = p % (2 + q % 24) := Int.tmod_eq_emod_of_nonneg h.1
 have h2 := Int.emod_nonneg p (show 2 + q % 24 ≠ 0 by omega)
 have h3 := Int.emod_lt_of_pos p (show 0 < 2 + q % 24 by omega)
 have h4 : 0 ≤ q % 24 ∧ q % 24 < 24 := by omega
 refine ⟨q % 24, p % (2 + q % 24), ⟨e, ?_, ?_, ?_, by omega, f, ?_⟩, h2, by omega, by omega, by omega⟩ <;> exact IntWalk.wrap64_in _ (by omega)
noncomputable def un1_rows (b1 b2 : Bool) (A1 A2 : Option Addr) (n1 c1 n2 c2 : Nat) (l1 l2 p q : Int) (g1 g2 : Nat) : List SRow := [
 ⟨Op.fieldAddr 44 (Operand.tmp 1) 0, some 5, none, [], fun v _ => v = .pointer (some ⟨g1, 0, none⟩)⟩,
 ⟨Op.load 30 (Operand.tmp 5), some 6, none, [0], fun v _ => v = .agg #[.bool b1, .slice A1 n1 c1, .int .u32 l1]⟩,
 ⟨Op.call { callee := Callee.value (Operand.func 55), args := #[Operand.tmp 6], argTypes := #[30] }, some 7, none, [1], fun v _ => v = .int .i64 p⟩,
 ⟨Op.fieldAddr 44 (Operand.tmp 1) 1, some 8, none, [], fun v _ => v = .pointer (some ⟨g1, 3, none⟩)⟩,
 ⟨Op.load 30 (Operand.tmp 8), some 9, none, [3], fun v _ => v = .agg #[.bool b2, .slice A2 n2 c2, .int .u32 l2]⟩,
 ⟨Op.call { callee := Callee.value (Operand.func 55), args := #[Operand.tmp 9], argTypes := #[30] }, some 10, none, [4, 2], fun v _ => v = .int .i64 q⟩,
 ⟨Op.assign (Operand.tmp 7), some 3, none, [2, 5, 0, 1, 2], fun v _ => v = .int .i64 p⟩,
 ⟨Op.assign (Operand.tmp 10), some 4, none, [5, 6, 0, 1, 2, 3, 4, 5, 6], fun v _ => v = .int .i64 q⟩]
noncomputable def un1_base (b1 b2 : Bool) (A1 A2 : Option Addr) (n1 c1 n2 c2 : Nat) (l1 l2 p q : Int) (g1 g2 : Nat) : List (Nat × Value) := [(1, .pointer (some ⟨g1, 0, none⟩)), (2, .pointer (some ⟨g2, 0, none⟩))]
set_option maxRecDepth 100000 in
set_option maxHeartbeats 4000000 in
theorem un1_steps (V : World) (b1 b2 : Bool) (A1 A2 : Option Addr) (n1 c1 n2 c2 : Nat) (l1 l2 p q : Int) (g1 g2 : Nat) (RA : ∀ w', Lat V w' → w'.rangeAt g1 0 [.bool b1, .slice A1 n1 c1, .int .u32 l1]) (RB : ∀ w', Lat V w' → w'.rangeAt g1 3 [.bool b2, .slice A2 n2 c2, .int .u32 l2]) (J30 : (Tryz.prog.info? 30).map (·.size) = some 3) (HS1 : ∀ w, Calls Tryz.prog 55 #[.agg #[.bool b1, .slice A1 n1 c1, .int .u32 l1]] w (fun e w' => e = .returned (.int .i64 p) ∧ Lat w w')) (HS2 : ∀ w, Calls Tryz.prog 55 #[.agg #[.bool b2, .slice A2 n2 c2, .int .u32 l2]] w (fun e w' => e = .returned (.int .i64 q) ∧ Lat w w')) :
  AllSteps Tryz.prog (un1_rows b1 b2 A1 A2 n1 c1 n2 c2 l1 l2 p q g1 g2) (un1_base b1 b2 A1 A2 n1 c1 n2 c2 l1 l2 p q g1 g2) V (un1_rows b1 b2 A1 A2 n1 c1 n2 c2 l1 l2 p q g1 g2) := by
 refine AllSteps.next (fun _ _ _ h _ => h) (fun j b h => by cases h) (fun a w hl hb hd o ho => by have e1 := hb 1 _ rfl; obtain ⟨d, op, ty, p, af, g⟩ := o; simp only at ho; subst ho; have ec : ∀ v, a.eval (.const v) = v := fun _ => rfl; exact Runs.val (by unfold execOp; generalize a.eval = ev at e1 ec ⊢; simp only [e1, ec]; go_simp) ⟨Lat.refl _, fun _ => rfl⟩) ?_
 refine AllSteps.next (fun _ _ _ h _ => h) (fun j b h => by cases h) (fun a w hl hb hd o ho => by obtain ⟨v1, e1, q1⟩ := hd 0 _ _ (by simp) rfl rfl; subst q1; exact Runs.val (yv_loadO (S := Lat V) e1 RA Tryz.underlying30 rfl J30 o w ho hl) ⟨Lat.refl _, fun _ => rfl⟩) ?_
 refine AllSteps.next (fun _ _ _ h _ => h) (fun j b h => by cases h) (fun a w hl hb hd o ho => by obtain ⟨v1, e1, q1⟩ := hd 1 _ _ (by simp) rfl rfl; subst q1; exact Runs.call (yv_call (f := 55) (fun _ => by go_simp) o ho (by simp only [List.map_toArray, List.map_cons, List.map_nil, eval_const, e1])) ((HS1 w).mono fun e w' h => ⟨_, h.1, h.2, fun _ => rfl⟩)) ?_
 refine AllSteps.next (fun _ _ _ h _ => h) (fun j b h => by cases h) (fun a w hl hb hd o ho => by have e1 := hb 1 _ rfl; obtain ⟨d, op, ty, p, af, g⟩ := o; simp only at ho; subst ho; have ec : ∀ v, a.eval (.const v) = v := fun _ => rfl; exact Runs.val (by unfold execOp; generalize a.eval = ev at e1 ec ⊢; simp only [e1, ec]; go_simp) ⟨Lat.refl _, fun _ => rfl⟩) ?_
 refine AllSteps.next (fun _ _ _ h _ => h) (fun j b h => by cases h) (fun a w hl hb hd o ho => by obtain ⟨v1, e1, q1⟩ := hd 3 _ _ (by simp) rfl rfl; subst q1; exact Runs.val (yv_loadO (S := Lat V) e1 RB Tryz.underlying30 rfl J30 o w ho hl) ⟨Lat.refl _, fun _ => rfl⟩) ?_
 refine AllSteps.next (fun _ _ _ h _ => h) (fun j b h => by cases h) (fun a w hl hb hd o ho => by obtain ⟨v1, e1, q1⟩ := hd 4 _ _ (by simp) rfl rfl; subst q1; exact Runs.call (yv_call (f := 55) (fun _ => by go_simp) o ho (by simp only [List.map_toArray, List.map_cons, List.map_nil, eval_const, e1])) ((HS2 w).mono fun e w' h => ⟨_, h.1, h.2, fun _ => rfl⟩)) ?_
 refine AllSteps.next (fun _ _ _ h _ => h) (fun j b h => by cases h) (fun a w hl hb hd o ho => by obtain ⟨v1, e1, q1⟩ := hd 2 _ _ (by simp) rfl rfl; subst q1; exact Runs.val (yv_assignS (S := fun _ => True) e1 o w ho trivial) ⟨Lat.refl _, fun _ => rfl⟩) ?_
 refine AllSteps.next (fun _ _ _ h _ => h) (fun j b h => by cases h) (fun a w hl hb hd o ho => by obtain ⟨v1, e1, q1⟩ := hd 5 _ _ (by simp) rfl rfl; subst q1; exact Runs.val (yv_assignS (S := fun _ => True) e1 o w ho trivial) ⟨Lat.refl _, fun _ => rfl⟩) ?_
 exact AllSteps.none
theorem spell30 (T : Array Value) (h : T.size = 30) : ∃ f : Nat → Value, (∀ k, f k = T.getD k undef) ∧ T = #[f 0, f 1, f 2, f 3, f 4, f 5, f 6, f 7, f 8, f 9, f 10, f 11, f 12, f 13, f 14, f 15, f 16, f 17, f 18, f 19, f 20, f 21, f 22, f 23, f 24, f 25, f 26, f 27, f 28, f 29] := ⟨fun k => T.getD k undef, fun _ => rfl, (spell 30 T h).trans (by kernel_rfl)⟩
set_option maxRecDepth 100000 in
set_option maxHeartbeats 8000000 in
theorem rUnit_nn (b1 b2 : Bool) (A1 A2 : Option Addr) (n1 c1 n2 c2 : Nat) (l1 l2 p q a b r k z dd : Int) (zw dw u v : W8) (HS1 : ∀ w, Calls Tryz.prog 55 #[.agg #[.bool b1, .slice A1 n1 c1, .int .u32 l1]] w (fun e w' => e = .returned (.int .i64 p) ∧ Lat w w')) (HS2 : ∀ w, Calls Tryz.prog 55 #[.agg #[.bool b2, .slice A2 n2 c2, .int .u32 l2]] w (fun e w' => e = .returned (.int .i64 q) ∧ Lat w w'))
  (hp : p < 0) (wp : wrap64 (-p) = a) (hq : q < 0) (wq : wrap64 (-q) = b) (f1 : b.tmod 24 = r) (f2 : wrap64 r = r) (f3 : wrap64 (2 + r) = k) (f4 : wrap64 (1 + r) = dd) (f5 : ¬ k = 0) (f6 : a.tmod k = z) (f7 : wrap64 z = z)
  (HO1 : ∀ w, Calls Tryz.prog 12 #[.int .i64 z] w (fun e w' => e = .returned (.agg #[.int .u64 zw.a0, .int .u64 zw.a1, .int .u64 zw.a2, .int .u64 zw.a3, .int .u64 zw.a4, .int .u64 zw.a5, .int .u64 zw.a6, .int .u64 zw.a7]) ∧ Lat w w')) (HO2 : ∀ w, Calls Tryz.prog 12 #[.int .i64 dd] w (fun e w' => e = .returned (.agg #[.int .u64 dw.a0, .int .u64 dw.a1, .int .u64 dw.a2, .int .u64 dw.a3, .int .u64 dw.a4, .int .u64 dw.a5, .int .u64 dw.a6, .int .u64 dw.a7]) ∧ Lat w w')) (HM : ∀ w, Calls Tryz.prog 56 #[.agg #[.int .u64 zw.a0, .int .u64 zw.a1, .int .u64 zw.a2, .int .u64 zw.a3, .int .u64 zw.a4, .int .u64 zw.a5, .int .u64 zw.a6, .int .u64 zw.a7], .agg #[.int .u64 dw.a0, .int .u64 dw.a1, .int .u64 dw.a2, .int .u64 dw.a3, .int .u64 dw.a4, .int .u64 dw.a5, .int .u64 dw.a6, .int .u64 dw.a7]] w (fun e w' => e = .returned (.agg #[.int .u64 u.a0, .int .u64 u.a1, .int .u64 u.a2, .int .u64 u.a3, .int .u64 u.a4, .int .u64 u.a5, .int .u64 u.a6, .int .u64 u.a7, .int .u64 v.a0, .int .u64 v.a1, .int .u64 v.a2, .int .u64 v.a3, .int .u64 v.a4, .int .u64 v.a5, .int .u64 v.a6, .int .u64 v.a7]) ∧ Lat w w')) (w : World) :
  Calls Tryz.prog 19 #[.agg #[.bool b1, .slice A1 n1 c1, .int .u32 l1, .bool b2, .slice A2 n2 c2, .int .u32 l2]] w (fun e w' => e = .returned (.agg #[.int .u64 u.a0, .int .u64 u.a1, .int .u64 u.a2, .int .u64 u.a3, .int .u64 u.a4, .int .u64 u.a5, .int .u64 u.a6, .int .u64 u.a7, .int .u64 v.a0, .int .u64 v.a1, .int .u64 v.a2, .int .u64 v.a3, .int .u64 v.a4, .int .u64 v.a5, .int .u64 v.a6, .int .u64 v.a7]) ∧ Lat w w') := by
 go_enter Tryz.func19, Tryz.ntmps19
 go_upto_region 1 with (fail)
 refine name2 (Q := fun W => Code.wp _ _ _ _ W) ?_
 intro W hl hs k1 k2
 obtain ⟨g2, hg2'⟩ : ∃ z, w.heap.size + 1 = z := ⟨_, rfl⟩
 obtain ⟨g1, hg1⟩ : ∃ z, w.heap.size = z := ⟨_, rfl⟩
 have hg2 : w.heap.size ≤ g2 := by omega
 rw [hg2'] at k2
 rw [hg1] at k1
 rw [hg2', hg1]
 clear hg2' hg1 hs
 have RA : ∀ w', Lat W w' → w'.rangeAt g1 0 [.bool b1, .slice A1 n1 c1, .int .u32 l1] := fun w' hl => rangeO (k1.later hl) 0 _ six_lo
 have RB : ∀ w', Lat W w' → w'.rangeAt g1 3 [.bool b2, .slice A2 n2 c2, .int .u32 l2] := fun w' hl => rangeO (k1.later hl) 3 _ six_hi
 have J30 : (Tryz.prog.info? 30).map (·.size) = some 3 := by kernel_rfl
 rename_i KN hKN
 refine wp_region_slots (un1_rows b1 b2 A1 A2 n1 c1 n2 c2 l1 l2 p q g1 g2) (un1_base b1 b2 A1 A2 n1 c1 n2 c2 l1 l2 p q g1 g2) 30 8 [[], [0], [1], [], [3], [4, 2], [2, 5, 0, 1, 2], [5, 6, 0, 1, 2, 3, 4, 5, 6]] (by kernel_rfl) (by kernel_rfl) (by kernel_rfl) (by kernel_rfl) (by kernel_rfl) (by kernel_rfl) (by rfl) rfl (base_of (base_cons rfl (base_cons rfl (base_nil _)))) (un1_steps W b1 b2 A1 A2 n1 c1 n2 c2 l1 l2 p q g1 g2 RA RB J30 HS1 HS2) ?_
 ·intro a9 W9 hsz9 hdf9 hL9 hbs hsl
  obtain ⟨v9, h9, q9⟩ := hsl 6 _ _ rfl rfl
  obtain rfl : v9 = .int .i64 p := q9
  have w3 := slot_getD h9
  clear h9
  obtain ⟨v9, h9, q9⟩ := hsl 7 _ _ rfl rfl
  obtain rfl : v9 = .int .i64 q := q9
  have w4 := slot_getD h9
  clear h9
  refine hKN _ _ ?_
  obtain ⟨T9, df9⟩ := a9
  obtain rfl : df9 = [] := hdf9
  obtain ⟨f, hf, rfl⟩ := spell30 T9 hsz9
  have X9 := fun k v h => (hf k).trans (slot_getD (hbs k v h))
  have x3 := (hf 3).trans w3
  have x4 := (hf 4).trans w4
  clear hbs hsl hf hsz9 hKN w3 w4
  simp only [X9 1 _ rfl, X9 2 _ rfl, x3, x4]
  clear x3 x4 X9
  replace k2 := k2.later hL9
  have LX := hl.trans hL9
  clear RA RB J30 hL9 hl k1
  go_wp2_with fail
  refine (HO1 _).mono ?_
  rintro e V1 ⟨rfl, m1⟩
  go_wp2_with fail
  refine (HO2 _).mono ?_
  rintro e V2 ⟨rfl, m2⟩
  go_wp2_with fail
  refine (HM _).mono ?_
  rintro e V3 ⟨rfl, m3⟩
  have LL := m1.trans (m2.trans m3)
  replace k2 := k2.later LL
  have L4 := LX.trans LL
  clear HO1 HO2 HM m1 m2 m3 LL
  have e0 := k2.cell 0
  have e1 := k2.cell 1
  have e2 := k2.cell 2
  have e3 := k2.cell 3
  have e4 := k2.cell 4
  have e5 := k2.cell 5
  have e6 := k2.cell 6
  have e7 := k2.cell 7
  have e8 := k2.cell 8
  have e9 := k2.cell 9
  have e10 := k2.cell 10
  have e11 := k2.cell 11
  have e12 := k2.cell 12
  have e13 := k2.cell 13
  have e14 := k2.cell 14
  have e15 := k2.cell 15
  have f0 := k2.frozen 0
  have f1 := k2.frozen 1
  have f2 := k2.frozen 2
  have f3 := k2.frozen 3
  have f4 := k2.frozen 4
  have f5 := k2.frozen 5
  have f6 := k2.frozen 6
  have f7 := k2.frozen 7
  have f8 := k2.frozen 8
  have f9 := k2.frozen 9
  have f10 := k2.frozen 10
  have f11 := k2.frozen 11
  have f12 := k2.frozen 12
  have f13 := k2.frozen 13
  have f14 := k2.frozen 14
  have f15 := k2.frozen 15
  have hlt := k2.lt
  go_wp2
  clear e0 e1 e2 e3 e4 e5 e6 e7 e8 e9 e10 e11 e12 e13 e14 e15
  clear f0 f1 f2 f3 f4 f5 f6 f7 f8 f9 f10 f11 f12 f13 f14 f15
  refine name_put16 (Q := fun W => bodyPost _ _ _ _ _ W) k2 ?_
  intro w9 k9 l9
  clear k2 hlt
  have e0 := k9.cell 0
  have e1 := k9.cell 1
  have e2 := k9.cell 2
  have e3 := k9.cell 3
  have e4 := k9.cell 4
  have e5 := k9.cell 5
  have e6 := k9.cell 6
  have e7 := k9.cell 7
  have e8 := k9.cell 8
  have e9 := k9.cell 9
  have e10 := k9.cell 10
  have e11 := k9.cell 11
  have e12 := k9.cell 12
  have e13 := k9.cell 13
  have e14 := k9.cell 14
  have e15 := k9.cell 15
  refine bodyPost_ret (v := .agg #[.int .u64 u.a0, .int .u64 u.a1, .int .u64 u.a2, .int .u64 u.a3, .int .u64 u.a4, .int .u64 u.a5, .int .u64 u.a6, .int .u64 u.a7, .int .u64 v.a0, .int .u64 v.a1, .int .u64 v.a2, .int .u64 v.a3, .int .u64 v.a4, .int .u64 v.a5, .int .u64 v.a6, .int .u64 v.a7]) (by simp [results, Tryz.results19, go_sem, e0, e1, e2, e3, e4, e5, e6, e7, e8, e9, e10, e11, e12, e13, e14, e15]) rfl ?_
  exact ⟨rfl, l9.narrow L4 hg2⟩
set_option maxRecDepth 100000 in
set_option maxHeartbeats 8000000 in
theorem rUnit_np (b1 b2 : Bool) (A1 A2 : Option Addr) (n1 c1 n2 c2 : Nat) (l1 l2 p q a b r k z dd : Int) (zw dw u v : W8) (HS1 : ∀ w, Calls Tryz.prog 55 #[.agg #[.bool b1, .slice A1 n1 c1, .int .u32 l1]] w (fun e w' => e = .returned (.int .i64 p) ∧ Lat w w')) (HS2 : ∀ w, Calls Tryz.prog 55 #[.agg #[.bool b2, .slice A2 n2 c2, .int .u32 l2]] w (fun e w' => e = .returned (.int .i64 q) ∧ Lat w w'))
  (hp : p < 0) (wp : wrap64 (-p) = a) (hq : ¬ q < 0) (wq : q = b) (f1 : b.tmod 24 = r) (f2 : wrap64 r = r) (f3 : wrap64 (2 + r) = k) (f4 : wrap64 (1 + r) = dd) (f5 : ¬ k = 0) (f6 : a.tmod k = z) (f7 : wrap64 z = z)
  (HO1 : ∀ w, Calls Tryz.prog 12 #[.int .i64 z] w (fun e w' => e = .returned (.agg #[.int .u64 zw.a0, .int .u64 zw.a1, .int .u64 zw.a2, .int .u64 zw.a3, .int .u64 zw.a4, .int .u64 zw.a5, .int .u64 zw.a6, .int .u64 zw.a7]) ∧ Lat w w')) (HO2 : ∀ w, Calls Tryz.prog 12 #[.int .i64 dd] w (fun e w' => e = .returned (.agg #[.int .u64 dw.a0, .int .u64 dw.a1, .int .u64 dw.a2, .int .u64 dw.a3, .int .u64 dw.a4, .int .u64 dw.a5, .int .u64 dw.a6, .int .u64 dw.a7]) ∧ Lat w w')) (HM : ∀ w, Calls Tryz.prog 56 #[.agg #[.int .u64 zw.a0, .int .u64 zw.a1, .int .u64 zw.a2, .int .u64 zw.a3, .int .u64 zw.a4, .int .u64 zw.a5, .int .u64 zw.a6, .int .u64 zw.a7], .agg #[.int .u64 dw.a0, .int .u64 dw.a1, .int .u64 dw.a2, .int .u64 dw.a3, .int .u64 dw.a4, .int .u64 dw.a5, .int .u64 dw.a6, .int .u64 dw.a7]] w (fun e w' => e = .returned (.agg #[.int .u64 u.a0, .int .u64 u.a1, .int .u64 u.a2, .int .u64 u.a3, .int .u64 u.a4, .int .u64 u.a5, .int .u64 u.a6, .int .u64 u.a7, .int .u64 v.a0, .int .u64 v.a1, .int .u64 v.a2, .int .u64 v.a3, .int .u64 v.a4, .int .u64 v.a5, .int .u64 v.a6, .int .u64 v.a7]) ∧ Lat w w')) (w : World) :
  Calls Tryz.prog 19 #[.agg #[.bool b1, .slice A1 n1 c1, .int .u32 l1, .bool b2, .slice A2 n2 c2, .int .u32 l2]] w (fun e w' => e = .returned (.agg #[.int .u64 u.a0, .int .u64 u.a1, .int .u64 u.a2, .int .u64 u.a3, .int .u64 u.a4, .int .u64 u.a5, .int .u64 u.a6, .int .u64 u.a7, .int .u64 v.a0, .int .u64 v.a1, .int .u64 v.a2, .int .u64 v.a3, .int .u64 v.a4, .int .u64 v.a5, .int .u64 v.a6, .int .u64 v.a7]) ∧ Lat w w') := by
 subst wq
 go_enter Tryz.func19, Tryz.ntmps19
 go_upto_region 1 with (fail)
 refine name2 (Q := fun W => Code.wp _ _ _ _ W) ?_
 intro W hl hs k1 k2
 obtain ⟨g2, hg2'⟩ : ∃ z, w.heap.size + 1 = z := ⟨_, rfl⟩
 obtain ⟨g1, hg1⟩ : ∃ z, w.heap.size = z := ⟨_, rfl⟩
 have hg2 : w.heap.size ≤ g2 := by omega
 rw [hg2'] at k2
 rw [hg1] at k1
 rw [hg2', hg1]
 clear hg2' hg1 hs
 have RA : ∀ w', Lat W w' → w'.rangeAt g1 0 [.bool b1, .slice A1 n1 c1, .int .u32 l1] := fun w' hl => rangeO (k1.later hl) 0 _ six_lo
 have RB : ∀ w', Lat W w' → w'.rangeAt g1 3 [.bool b2, .slice A2 n2 c2, .int .u32 l2] := fun w' hl => rangeO (k1.later hl) 3 _ six_hi
 have J30 : (Tryz.prog.info? 30).map (·.size) = some 3 := by kernel_rfl
 rename_i KN hKN
 refine wp_region_slots (un1_rows b1 b2 A1 A2 n1 c1 n2 c2 l1 l2 p q g1 g2) (un1_base b1 b2 A1 A2 n1 c1 n2 c2 l1 l2 p q g1 g2) 30 8 [[], [0], [1], [], [3], [4, 2], [2, 5, 0, 1, 2], [5, 6, 0, 1, 2, 3, 4, 5, 6]] (by kernel_rfl) (by kernel_rfl) (by kernel_rfl) (by kernel_rfl) (by kernel_rfl) (by kernel_rfl) (by rfl) rfl (base_of (base_cons rfl (base_cons rfl (base_nil _)))) (un1_steps W b1 b2 A1 A2 n1 c1 n2 c2 l1 l2 p q g1 g2 RA RB J30 HS1 HS2) ?_
 ·intro a9 W9 hsz9 hdf9 hL9 hbs hsl
  obtain ⟨v9, h9, q9⟩ := hsl 6 _ _ rfl rfl
  obtain rfl : v9 = .int .i64 p := q9
  have w3 := slot_getD h9
  clear h9
  obtain ⟨v9, h9, q9⟩ := hsl 7 _ _ rfl rfl
  obtain rfl : v9 = .int .i64 q := q9
  have w4 := slot_getD h9
  clear h9
  refine hKN _ _ ?_
  obtain ⟨T9, df9⟩ := a9
  obtain rfl : df9 = [] := hdf9
  obtain ⟨f, hf, rfl⟩ := spell30 T9 hsz9
  have X9 := fun k v h => (hf k).trans (slot_getD (hbs k v h))
  have x3 := (hf 3).trans w3
  have x4 := (hf 4).trans w4
  clear hbs hsl hf hsz9 hKN w3 w4
  simp only [X9 1 _ rfl, X9 2 _ rfl, x3, x4]
  clear x3 x4 X9
  replace k2 := k2.later hL9
  have LX := hl.trans hL9
  clear RA RB J30 hL9 hl k1
  go_wp2_with fail
  refine (HO1 _).mono ?_
  rintro e V1 ⟨rfl, m1⟩
  go_wp2_with fail
  refine (HO2 _).mono ?_
  rintro e V2 ⟨rfl, m2⟩
  go_wp2_with fail
  refine (HM _).mono ?_
  rintro e V3 ⟨rfl, m3⟩
  have LL := m1.trans (m2.trans m3)
  replace k2 := k2.later LL
  have L4 := LX.trans LL
  clear HO1 HO2 HM m1 m2 m3 LL
  have e0 := k2.cell 0
  have e1 := k2.cell 1
  have e2 := k2.cell 2
  have e3 := k2.cell 3
  have e4 := k2.cell 4
  have e5 := k2.cell 5
  have e6 := k2.cell 6
  have e7 := k2.cell 7
  have e8 := k2.cell 8
  have e9 := k2.cell 9
  have e10 := k2.cell 10
  have e11 := k2.cell 11
  have e12 := k2.cell 12
  have e13 := k2.cell 13
  have e14 := k2.cell 14
  have e15 := k2.cell 15
  have f0 := k2.frozen 0
  have f1 := k2.frozen 1
  have f2 := k2.frozen 2
  have f3 := k2.frozen 3
  have f4 := k2.frozen 4
  have f5 := k2.frozen 5
  have f6 := k2.frozen 6
  have f7 := k2.frozen 7
  have f8 := k2.frozen 8
  have f9 := k2.frozen 9
  have f10 := k2.frozen 10
  have f11 := k2.frozen 11
  have f12 := k2.frozen 12
  have f13 := k2.frozen 13
  have f14 := k2.frozen 14
  have f15 := k2.frozen 15
  have hlt := k2.lt
  go_wp2
  clear e0 e1 e2 e3 e4 e5 e6 e7 e8 e9 e10 e11 e12 e13 e14 e15
  clear f0 f1 f2 f3 f4 f5 f6 f7 f8 f9 f10 f11 f12 f13 f14 f15
  refine name_put16 (Q := fun W => bodyPost _ _ _ _ _ W) k2 ?_
  intro w9 k9 l9
  clear k2 hlt
  have e0 := k9.cell 0
  have e1 := k9.cell 1
  have e2 := k9.cell 2
  have e3 := k9.cell 3
  have e4 := k9.cell 4
  have e5 := k9.cell 5
  have e6 := k9.cell 6
  have e7 := k9.cell 7
  have e8 := k9.cell 8
  have e9 := k9.cell 9
  have e10 := k9.cell 10
  have e11 := k9.cell 11
  have e12 := k9.cell 12
  have e13 := k9.cell 13
  have e14 := k9.cell 14
  have e15 := k9.cell 15
  refine bodyPost_ret (v := .agg #[.int .u64 u.a0, .int .u64 u.a1, .int .u64 u.a2, .int .u64 u.a3, .int .u64 u.a4, .int .u64 u.a5, .int .u64 u.a6, .int .u64 u.a7, .int .u64 v.a0, .int .u64 v.a1, .int .u64 v.a2, .int .u64 v.a3, .int .u64 v.a4, .int .u64 v.a5, .int .u64 v.a6, .int .u64 v.a7]) (by simp [results, Tryz.results19, go_sem, e0, e1, e2, e3, e4, e5, e6, e7, e8, e9, e10, e11, e12, e13, e14, e15]) rfl ?_
  exact ⟨rfl, l9.narrow L4 hg2⟩
set_option maxRecDepth 100000 in
set_option maxHeartbeats 8000000 in
theorem rUnit_pn (b1 b2 : Bool) (A1 A2 : Option Addr) (n1 c1 n2 c2 : Nat) (l1 l2 p q a b r k z dd : Int) (zw dw u v : W8) (HS1 : ∀ w, Calls Tryz.prog 55 #[.agg #[.bool b1, .slice A1 n1 c1, .int .u32 l1]] w (fun e w' => e = .returned (.int .i64 p) ∧ Lat w w')) (HS2 : ∀ w, Calls Tryz.prog 55 #[.agg #[.bool b2, .slice A2 n2 c2, .int .u32 l2]] w (fun e w' => e = .returned (.int .i64 q) ∧ Lat w w'))
  (hp : ¬ p < 0) (wp : p = a) (hq : q < 0) (wq : wrap64 (-q) = b) (f1 : b.tmod 24 = r) (f2 : wrap64 r = r) (f3 : wrap64 (2 + r) = k) (f4 : wrap64 (1 + r) = dd) (f5 : ¬ k = 0) (f6 : a.tmod k = z) (f7 : wrap64 z = z)
  (HO1 : ∀ w, Calls Tryz.prog 12 #[.int .i64 z] w (fun e w' => e = .returned (.agg #[.int .u64 zw.a0, .int .u64 zw.a1, .int .u64 zw.a2, .int .u64 zw.a3, .int .u64 zw.a4, .int .u64 zw.a5, .int .u64 zw.a6, .int .u64 zw.a7]) ∧ Lat w w')) (HO2 : ∀ w, Calls Tryz.prog 12 #[.int .i64 dd] w (fun e w' => e = .returned (.agg #[.int .u64 dw.a0, .int .u64 dw.a1, .int .u64 dw.a2, .int .u64 dw.a3, .int .u64 dw.a4, .int .u64 dw.a5, .int .u64 dw.a6, .int .u64 dw.a7]) ∧ Lat w w')) (HM : ∀ w, Calls Tryz.prog 56 #[.agg #[.int .u64 zw.a0, .int .u64 zw.a1, .int .u64 zw.a2, .int .u64 zw.a3, .int .u64 zw.a4, .int .u64 zw.a5, .int .u64 zw.a6, .int .u64 zw.a7], .agg #[.int .u64 dw.a0, .int .u64 dw.a1, .int .u64 dw.a2, .int .u64 dw.a3, .int .u64 dw.a4, .int .u64 dw.a5, .int .u64 dw.a6, .int .u64 dw.a7]] w (fun e w' => e = .returned (.agg #[.int .u64 u.a0, .int .u64 u.a1, .int .u64 u.a2, .int .u64 u.a3, .int .u64 u.a4, .int .u64 u.a5, .int .u64 u.a6, .int .u64 u.a7, .int .u64 v.a0, .int .u64 v.a1, .int .u64 v.a2, .int .u64 v.a3, .int .u64 v.a4, .int .u64 v.a5, .int .u64 v.a6, .int .u64 v.a7]) ∧ Lat w w')) (w : World) :
  Calls Tryz.prog 19 #[.agg #[.bool b1, .slice A1 n1 c1, .int .u32 l1, .bool b2, .slice A2 n2 c2, .int .u32 l2]] w (fun e w' => e = .returned (.agg #[.int .u64 u.a0, .int .u64 u.a1, .int .u64 u.a2, .int .u64 u.a3, .int .u64 u.a4, .int .u64 u.a5, .int .u64 u.a6, .int .u64 u.a7, .int .u64 v.a0, .int .u64 v.a1, .int .u64 v.a2, .int .u64 v.a3, .int .u64 v.a4, .int .u64 v.a5, .int .u64 v.a6, .int .u64 v.a7]) ∧ Lat w w') := by
 subst wp
 go_enter Tryz.func19, Tryz.ntmps19
 go_upto_region 1 with (fail)
 refine name2 (Q := fun W => Code.wp _ _ _ _ W) ?_
 intro W hl hs k1 k2
 obtain ⟨g2, hg2'⟩ : ∃ z, w.heap.size + 1 = z := ⟨_, rfl⟩
 obtain ⟨g1, hg1⟩ : ∃ z, w.heap.size = z := ⟨_, rfl⟩
 have hg2 : w.heap.size ≤ g2 := by omega
 rw [hg2'] at k2
 rw [hg1] at k1
 rw [hg2', hg1]
 clear hg2' hg1 hs
 have RA : ∀ w', Lat W w' → w'.rangeAt g1 0 [.bool b1, .slice A1 n1 c1, .int .u32 l1] := fun w' hl => rangeO (k1.later hl) 0 _ six_lo
 have RB : ∀ w', Lat W w' → w'.rangeAt g1 3 [.bool b2, .slice A2 n2 c2, .int .u32 l2] := fun w' hl => rangeO (k1.later hl) 3 _ six_hi
 have J30 : (Tryz.prog.info? 30).map (·.size) = some 3 := by kernel_rfl
 rename_i KN hKN
 refine wp_region_slots (un1_rows b1 b2 A1 A2 n1 c1 n2 c2 l1 l2 p q g1 g2) (un1_base b1 b2 A1 A2 n1 c1 n2 c2 l1 l2 p q g1 g2) 30 8 [[], [0], [1], [], [3], [4, 2], [2, 5, 0, 1, 2], [5, 6, 0, 1, 2, 3, 4, 5, 6]] (by kernel_rfl) (by kernel_rfl) (by kernel_rfl) (by kernel_rfl) (by kernel_rfl) (by kernel_rfl) (by rfl) rfl (base_of (base_cons rfl (base_cons rfl (base_nil _)))) (un1_steps W b1 b2 A1 A2 n1 c1 n2 c2 l1 l2 p q g1 g2 RA RB J30 HS1 HS2) ?_
 ·intro a9 W9 hsz9 hdf9 hL9 hbs hsl
  obtain ⟨v9, h9, q9⟩ := hsl 6 _ _ rfl rfl
  obtain rfl : v9 = .int .i64 p := q9
  have w3 := slot_getD h9
  clear h9
  obtain ⟨v9, h9, q9⟩ := hsl 7 _ _ rfl rfl
  obtain rfl : v9 = .int .i64 q := q9
  have w4 := slot_getD h9
  clear h9
  refine hKN _ _ ?_
  obtain ⟨T9, df9⟩ := a9
  obtain rfl : df9 = [] := hdf9
  obtain ⟨f, hf, rfl⟩ := spell30 T9 hsz9
  have X9 := fun k v h => (hf k).trans (slot_getD (hbs k v h))
  have x3 := (hf 3).trans w3
  have x4 := (hf 4).trans w4
  clear hbs hsl hf hsz9 hKN w3 w4
  simp only [X9 1 _ rfl, X9 2 _ rfl, x3, x4]
  clear x3 x4 X9
  replace k2 := k2.later hL9
  have LX := hl.trans hL9
  clear RA RB J30 hL9 hl k1
  go_wp2_with fail
  refine (HO1 _).mono ?_
  rintro e V1 ⟨rfl, m1⟩
  go_wp2_with fail
  refine (HO2 _).mono ?_
  rintro e V2 ⟨rfl, m2⟩
  go_wp2_with fail
  refine (HM _).mono ?_
  rintro e V3 ⟨rfl, m3⟩
  have LL := m1.trans (m2.trans m3)
  replace k2 := k2.later LL
  have L4 := LX.trans LL
  clear HO1 HO2 HM m1 m2 m3 LL
  have e0 := k2.cell 0
  have e1 := k2.cell 1
  have e2 := k2.cell 2
  have e3 := k2.cell 3
  have e4 := k2.cell 4
  have e5 := k2.cell 5
  have e6 := k2.cell 6
  have e7 := k2.cell 7
  have e8 := k2.cell 8
  have e9 := k2.cell 9
  have e10 := k2.cell 10
  have e11 := k2.cell 11
  have e12 := k2.cell 12
  have e13 := k2.cell 13
  have e14 := k2.cell 14
  have e15 := k2.cell 15
  have f0 := k2.frozen 0
  have f1 := k2.frozen 1
  have f2 := k2.frozen 2
  have f3 := k2.frozen 3
  have f4 := k2.frozen 4
  have f5 := k2.frozen 5
  have f6 := k2.frozen 6
  have f7 := k2.frozen 7
  have f8 := k2.frozen 8
  have f9 := k2.frozen 9
  have f10 := k2.frozen 10
  have f11 := k2.frozen 11
  have f12 := k2.frozen 12
  have f13 := k2.frozen 13
  have f14 := k2.frozen 14
  have f15 := k2.frozen 15
  have hlt := k2.lt
  go_wp2
  clear e0 e1 e2 e3 e4 e5 e6 e7 e8 e9 e10 e11 e12 e13 e14 e15
  clear f0 f1 f2 f3 f4 f5 f6 f7 f8 f9 f10 f11 f12 f13 f14 f15
  refine name_put16 (Q := fun W => bodyPost _ _ _ _ _ W) k2 ?_
  intro w9 k9 l9
  clear k2 hlt
  have e0 := k9.cell 0
  have e1 := k9.cell 1
  have e2 := k9.cell 2
  have e3 := k9.cell 3
  have e4 := k9.cell 4
  have e5 := k9.cell 5
  have e6 := k9.cell 6
  have e7 := k9.cell 7
  have e8 := k9.cell 8
  have e9 := k9.cell 9
  have e10 := k9.cell 10
  have e11 := k9.cell 11
  have e12 := k9.cell 12
  have e13 := k9.cell 13
  have e14 := k9.cell 14
  have e15 := k9.cell 15
  refine bodyPost_ret (v := .agg #[.int .u64 u.a0, .int .u64 u.a1, .int .u64 u.a2, .int .u64 u.a3, .int .u64 u.a4, .int .u64 u.a5, .int .u64 u.a6, .int .u64 u.a7, .int .u64 v.a0, .int .u64 v.a1, .int .u64 v.a2, .int .u64 v.a3, .int .u64 v.a4, .int .u64 v.a5, .int .u64 v.a6, .int .u64 v.a7]) (by simp [results, Tryz.results19, go_sem, e0, e1, e2, e3, e4, e5, e6, e7, e8, e9, e10, e11, e12, e13, e14, e15]) rfl ?_
  exact ⟨rfl, l9.narrow L4 hg2⟩
set_option maxRecDepth 100000 in
set_option maxHeartbeats 8000000 in
theorem rUnit_pp (b1 b2 : Bool) (A1 A2 : Option Addr) (n1 c1 n2 c2 : Nat) (l1 l2 p q a b r k z dd : Int) (zw dw u v : W8) (HS1 : ∀ w, Calls Tryz.prog 55 #[.agg #[.bool b1, .slice A1 n1 c1, .int .u32 l1]] w (fun e w' => e = .returned (.int .i64 p) ∧ Lat w w')) (HS2 : ∀ w, Calls Tryz.prog 55 #[.agg #[.bool b2, .slice A2 n2 c2, .int .u32 l2]] w (fun e w' => e = .returned (.int .i64 q) ∧ Lat w w'))
  (hp : ¬ p < 0) (wp : p = a) (hq : ¬ q < 0) (wq : q = b) (f1 : b.tmod 24 = r) (f2 : wrap64 r = r) (f3 : wrap64 (2 + r) = k) (f4 : wrap64 (1 + r) = dd) (f5 : ¬ k = 0) (f6 : a.tmod k = z) (f7 : wrap64 z = z)
  (HO1 : ∀ w, Calls Tryz.prog 12 #[.int .i64 z] w (fun e w' => e = .returned (.agg #[.int .u64 zw.a0, .int .u64 zw.a1, .int .u64 zw.a2, .int .u64 zw.a3, .int .u64 zw.a4, .int .u64 zw.a5, .int .u64 zw.a6, .int .u64 zw.a7]) ∧ Lat w w')) (HO2 : ∀ w, Calls Tryz.prog 12 #[.int .i64 dd] w (fun e w' => e = .returned (.agg #[.int .u64 dw.a0, .int .u64 dw.a1, .int .u64 dw.a2, .int .u64 dw.a3, .int .u64 dw.a4, .int .u64 dw.a5, .int .u64 dw.a6, .int .u64 dw.a7]) ∧ Lat w w')) (HM : ∀ w, Calls Tryz.prog 56 #[.agg #[.int .u64 zw.a0, .int .u64 zw.a1, .int .u64 zw.a2, .int .u64 zw.a3, .int .u64 zw.a4, .int .u64 zw.a5, .int .u64 zw.a6, .int .u64 zw.a7], .agg #[.int .u64 dw.a0, .int .u64 dw.a1, .int .u64 dw.a2, .int .u64 dw.a3, .int .u64 dw.a4, .int .u64 dw.a5, .int .u64 dw.a6, .int .u64 dw.a7]] w (fun e w' => e = .returned (.agg #[.int .u64 u.a0, .int .u64 u.a1, .int .u64 u.a2, .int .u64 u.a3, .int .u64 u.a4, .int .u64 u.a5, .int .u64 u.a6, .int .u64 u.a7, .int .u64 v.a0, .int .u64 v.a1, .int .u64 v.a2, .int .u64 v.a3, .int .u64 v.a4, .int .u64 v.a5, .int .u64 v.a6, .int .u64 v.a7]) ∧ Lat w w')) (w : World) :
  Calls Tryz.prog 19 #[.agg #[.bool b1, .slice A1 n1 c1, .int .u32 l1, .bool b2, .slice A2 n2 c2, .int .u32 l2]] w (fun e w' => e = .returned (.agg #[.int .u64 u.a0, .int .u64 u.a1, .int .u64 u.a2, .int .u64 u.a3, .int .u64 u.a4, .int .u64 u.a5, .int .u64 u.a6, .int .u64 u.a7, .int .u64 v.a0, .int .u64 v.a1, .int .u64 v.a2, .int .u64 v.a3, .int .u64 v.a4, .int .u64 v.a5, .int .u64 v.a6, .int .u64 v.a7]) ∧ Lat w w') := by
 subst wp
 subst wq
 go_enter Tryz.func19, Tryz.ntmps19
 go_upto_region 1 with (fail)
 refine name2 (Q := fun W => Code.wp _ _ _ _ W) ?_
 intro W hl hs k1 k2
 obtain ⟨g2, hg2'⟩ : ∃ z, w.heap.size + 1 = z := ⟨_, rfl⟩
 obtain ⟨g1, hg1⟩ : ∃ z, w.heap.size = z := ⟨_, rfl⟩
 have hg2 : w.heap.size ≤ g2 := by omega
 rw [hg2'] at k2
 rw [hg1] at k1
 rw [hg2', hg1]
 clear hg2' hg1 hs
 have RA : ∀ w', Lat W w' → w'.rangeAt g1 0 [.bool b1, .slice A1 n1 c1, .int .u32 l1] := fun w' hl => rangeO (k1.later hl) 0 _ six_lo
 have RB : ∀ w', Lat W w' → w'.rangeAt g1 3 [.bool b2, .slice A2 n2 c2, .int .u32 l2] := fun w' hl => rangeO (k1.later hl) 3 _ six_hi
 have J30 : (Tryz.prog.info? 30).map (·.size) = some 3 := by kernel_rfl
 rename_i KN hKN
 refine wp_region_slots (un1_rows b1 b2 A1 A2 n1 c1 n2 c2 l1 l2 p q g1 g2) (un1_base b1 b2 A1 A2 n1 c1 n2 c2 l1 l2 p q g1 g2) 30 8 [[], [0], [1], [], [3], [4, 2], [2, 5, 0, 1, 2], [5, 6, 0, 1, 2, 3, 4, 5, 6]] (by kernel_rfl) (by kernel_rfl) (by kernel_rfl) (by kernel_rfl) (by kernel_rfl) (by kernel_rfl) (by rfl) rfl (base_of (base_cons rfl (base_cons rfl (base_nil _)))) (un1_steps W b1 b2 A1 A2 n1 c1 n2 c2 l1 l2 p q g1 g2 RA RB J30 HS1 HS2) ?_
 ·intro a9 W9 hsz9 hdf9 hL9 hbs hsl
  obtain ⟨v9, h9, q9⟩ := hsl 6 _ _ rfl rfl
  obtain rfl : v9 = .int .i64 p := q9
  have w3 := slot_getD h9
  clear h9
  obtain ⟨v9, h9, q9⟩ := hsl 7 _ _ rfl rfl
  obtain rfl : v9 = .int .i64 q := q9
  have w4 := slot_getD h9
  clear h9
  refine hKN _ _ ?_
  obtain ⟨T9, df9⟩ := a9
  obtain rfl : df9 = [] := hdf9
  obtain ⟨f, hf, rfl⟩ := spell30 T9 hsz9
  have X9 := fun k v h => (hf k).trans (slot_getD (hbs k v h))
  have x3 := (hf 3).trans w3
  have x4 := (hf 4).trans w4
  clear hbs hsl hf hsz9 hKN w3 w4
  simp only [X9 1 _ rfl, X9 2 _ rfl, x3, x4]
  clear x3 x4 X9
  replace k2 := k2.later hL9
  have LX := hl.trans hL9
  clear RA RB J30 hL9 hl k1
  go_wp2_with fail
  refine (HO1 _).mono ?_
  rintro e V1 ⟨rfl, m1⟩
  go_wp2_with fail
  refine (HO2 _).mono ?_
  rintro e V2 ⟨rfl, m2⟩
  go_wp2_with fail
  refine (HM _).mono ?_
  rintro e V3 ⟨rfl, m3⟩
  have LL := m1.trans (m2.trans m3)
  replace k2 := k2.later LL
  have L4 := LX.trans LL
  clear HO1 HO2 HM m1 m2 m3 LL
  have e0 := k2.cell 0
  have e1 := k2.cell 1
  have e2 := k2.cell 2
  have e3 := k2.cell 3
  have e4 := k2.cell 4
  have e5 := k2.cell 5
  have e6 := k2.cell 6
  have e7 := k2.cell 7
  have e8 := k2.cell 8
  have e9 := k2.cell 9
  have e10 := k2.cell 10
  have e11 := k2.cell 11
  have e12 := k2.cell 12
  have e13 := k2.cell 13
  have e14 := k2.cell 14
  have e15 := k2.cell 15
  have f0 := k2.frozen 0
  have f1 := k2.frozen 1
  have f2 := k2.frozen 2
  have f3 := k2.frozen 3
  have f4 := k2.frozen 4
  have f5 := k2.frozen 5
  have f6 := k2.frozen 6
  have f7 := k2.frozen 7
  have f8 := k2.frozen 8
  have f9 := k2.frozen 9
  have f10 := k2.frozen 10
  have f11 := k2.frozen 11
  have f12 := k2.frozen 12
  have f13 := k2.frozen 13
  have f14 := k2.frozen 14
  have f15 := k2.frozen 15
  have hlt := k2.lt
  go_wp2
  clear e0 e1 e2 e3 e4 e5 e6 e7 e8 e9 e10 e11 e12 e13 e14 e15
  clear f0 f1 f2 f3 f4 f5 f6 f7 f8 f9 f10 f11 f12 f13 f14 f15
  refine name_put16 (Q := fun W => bodyPost _ _ _ _ _ W) k2 ?_
  intro w9 k9 l9
  clear k2 hlt
  have e0 := k9.cell 0
  have e1 := k9.cell 1
  have e2 := k9.cell 2
  have e3 := k9.cell 3
  have e4 := k9.cell 4
  have e5 := k9.cell 5
  have e6 := k9.cell 6
  have e7 := k9.cell 7
  have e8 := k9.cell 8
  have e9 := k9.cell 9
  have e10 := k9.cell 10
  have e11 := k9.cell 11
  have e12 := k9.cell 12
  have e13 := k9.cell 13
  have e14 := k9.cell 14
  have e15 := k9.cell 15
  refine bodyPost_ret (v := .agg #[.int .u64 u.a0, .int .u64 u.a1, .int .u64 u.a2, .int .u64 u.a3, .int .u64 u.a4, .int .u64 u.a5, .int .u64 u.a6, .int .u64 u.a7, .int .u64 v.a0, .int .u64 v.a1, .int .u64 v.a2, .int .u64 v.a3, .int .u64 v.a4, .int .u64 v.a5, .int .u64 v.a6, .int .u64 v.a7]) (by simp [results, Tryz.results19, go_sem, e0, e1, e2, e3, e4, e5, e6, e7, e8, e9, e10, e11, e12, e13, e14, e15]) rfl ?_
  exact ⟨rfl, l9.narrow L4 hg2⟩
theorem rUnit_from (b1 b2 : Bool) (A1 A2 : Option Addr) (n1 c1 n2 c2 : Nat) (l1 l2 p q a b r k z dd : Int) (zw dw u v : W8) (HS1 : ∀ w, Calls Tryz.prog 55 #[.agg #[.bool b1, .slice A1 n1 c1, .int .u32 l1]] w (fun e w' => e = .returned (.int .i64 p) ∧ Lat w w')) (HS2 : ∀ w, Calls Tryz.prog 55 #[.agg #[.bool b2, .slice A2 n2 c2, .int .u32 l2]] w (fun e w' => e = .returned (.int .i64 q) ∧ Lat w w'))
  (HP : (p < 0 ∧ wrap64 (-p) = a) ∨ (¬ p < 0 ∧ p = a)) (HQ : (q < 0 ∧ wrap64 (-q) = b) ∨ (¬ q < 0 ∧ q = b)) (f1 : b.tmod 24 = r) (f2 : wrap64 r = r) (f3 : wrap64 (2 + r) = k) (f4 : wrap64 (1 + r) = dd) (f5 : ¬ k = 0) (f6 : a.tmod k = z) (f7 : wrap64 z = z)
  (HO1 : ∀ w, Calls Tryz.prog 12 #[.int .i64 z] w (fun e w' => e = .returned (.agg #[.int .u64 zw.a0, .int .u64 zw.a1, .int .u64 zw.a2, .int .u64 zw.a3, .int .u64 zw.a4, .int .u64 zw.a5, .int .u64 zw.a6, .int .u64 zw.a7]) ∧ Lat w w')) (HO2 : ∀ w, Calls Tryz.prog 12 #[.int .i64 dd] w (fun e w' => e = .returned (.agg #[.int .u64 dw.a0, .int .u64 dw.a1, .int .u64 dw.a2, .int .u64 dw.a3, .int .u64 dw.a4, .int .u64 dw.a5, .int .u64 dw.a6, .int .u64 dw.a7]) ∧ Lat w w')) (HM : ∀ w, Calls Tryz.prog 56 #[.agg #[.int .u64 zw.a0, .int .u64 zw.a1, .int .u64 zw.a2, .int .u64 zw.a3, .int .u64 zw.a4, .int .u64 zw.a5, .int .u64 zw.a6, .int .u64 zw.a7], .agg #[.int .u64 dw.a0, .int .u64 dw.a1, .int .u64 dw.a2, .int .u64 dw.a3, .int .u64 dw.a4, .int .u64 dw.a5, .int .u64 dw.a6, .int .u64 dw.a7]] w (fun e w' => e = .returned (.agg #[.int .u64 u.a0, .int .u64 u.a1, .int .u64 u.a2, .int .u64 u.a3, .int .u64 u.a4, .int .u64 u.a5, .int .u64 u.a6, .int .u64 u.a7, .int .u64 v.a0, .int .u64 v.a1, .int .u64 v.a2, .int .u64 v.a3, .int .u64 v.a4, .int .u64 v.a5, .int .u64 v.a6, .int .u64 v.a7]) ∧ Lat w w')) (w : World) :
  Calls Tryz.prog 19 #[.agg #[.bool b1, .slice A1 n1 c1, .int .u32 l1, .bool b2, .slice A2 n2 c2, .int .u32 l2]] w (fun e w' => e = .returned (.agg #[.int .u64 u.a0, .int .u64 u.a1, .int .u64 u.a2, .int .u64 u.a3, .int .u64 u.a4, .int .u64 u.a5, .int .u64 u.a6, .int .u64 u.a7, .int .u64 v.a0, .int .u64 v.a1, .int .u64 v.a2, .int .u64 v.a3, .int .u64 v.a4, .int .u64 v.a5, .int .u64 v.a6, .int .u64 v.a7]) ∧ Lat w w') := by
 rcases HP with ⟨hp, wp⟩ | ⟨hp, wp⟩
 ·rcases HQ with ⟨hq, wq⟩ | ⟨hq, wq⟩
  ·exact rUnit_nn b1 b2 A1 A2 n1 c1 n2 c2 l1 l2 p q a b r k z dd zw dw u v HS1 HS2 hp wp hq wq f1 f2 f3 f4 f5 f6 f7 HO1 HO2 HM w
  ·exact rUnit_np b1 b2 A1 A2 n1 c1 n2 c2 l1 l2 p q a b r k z dd zw dw u v HS1 HS2 hp wp hq wq f1 f2 f3 f4 f5 f6 f7 HO1 HO2 HM w
 ·rcases HQ with ⟨hq, wq⟩ | ⟨hq, wq⟩
  ·exact rUnit_pn b1 b2 A1 A2 n1 c1 n2 c2 l1 l2 p q a b r k z dd zw dw u v HS1 HS2 hp wp hq wq f1 f2 f3 f4 f5 f6 f7 HO1 HO2 HM w
  ·exact rUnit_pp b1 b2 A1 A2 n1 c1 n2 c2 l1 l2 p q a b r k z dd zw dw u v HS1 HS2 hp wp hq wq f1 f2 f3 f4 f5 f6 f7 HO1 HO2 HM w
theorem un_abs {p : Int} (h : -1000000 ≤ p ∧ p ≤ 1000000) : ∃ a, ((p < 0 ∧ wrap64 (-p) = a) ∨ (¬ p < 0 ∧ p = a)) ∧ 0 ≤ a ∧ a ≤ 1000000 := by
 by_cases hp : p < 0
 ·exact ⟨-p, .inl ⟨hp, IntWalk.wrap64_in _ (by omega)⟩, by omega, by omega⟩
 ·exact ⟨p, .inr ⟨hp, rfl⟩, by omega, by omega⟩
end Go.Proofs.YtogkkhaepfablaaGreat
