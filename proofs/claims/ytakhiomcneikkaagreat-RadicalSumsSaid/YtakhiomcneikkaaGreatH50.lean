/- Several texts in one: RdRs. -/
import Derived.Test.YtakhiomcneikkaaGreatH42
namespace Go.Proofs.YtakhiomcneikkaaGreat
open Go.RowKit
set_option linter.unusedSimpArgs false
set_option linter.unusedVariables false
set_option maxRecDepth 100000
theorem spell26 (T : Array Value) (h : T.size = 26) : ∃ f : Nat → Value, (∀ k, f k = T.getD k undef) ∧ T = #[f 0, f 1, f 2, f 3, f 4, f 5, f 6, f 7, f 8, f 9, f 10, f 11, f 12, f 13, f 14, f 15, f 16, f 17, f 18, f 19, f 20, f 21, f 22, f 23, f 24, f 25] := ⟨fun k => T.getD k undef, fun _ => rfl, (spell 26 T h).trans (by kernel_rfl)⟩
noncomputable def rs6a_rows (g o n c g2 o2 c2 : Nat) (t u x y : Int) (k : Nat) : List SRow := [
 ⟨.move (.tmp 0), some 17, none, [], fun v _ => v = .slice (some ⟨g, o, none⟩) n c⟩,
 ⟨.move (.tmp 5), some 18, none, [], fun v _ => v = .int .i64 (k : Int)⟩,
 ⟨.indexAddr 27 (.tmp 17) (.tmp 18), some 19, none, [0, 1], fun v _ => v = .pointer (some ⟨g, o + k * 2, none⟩)⟩,
 ⟨.load 68 (.tmp 19), some 20, none, [2], fun v _ => v = .agg #[.int .i64 t, .int .i64 u]⟩,
 ⟨.move (.tmp 1), some 21, none, [], fun v _ => v = .slice (some ⟨g2, o2, none⟩) n c2⟩,
 ⟨.move (.tmp 5), some 22, none, [], fun v _ => v = .int .i64 (k : Int)⟩,
 ⟨.indexAddr 27 (.tmp 21) (.tmp 22), some 23, none, [4, 5], fun v _ => v = .pointer (some ⟨g2, o2 + k * 2, none⟩)⟩,
 ⟨.load 68 (.tmp 23), some 24, none, [6], fun v _ => v = .agg #[.int .i64 x, .int .i64 y]⟩,
 ⟨.binOp .neq 68 (.tmp 20) (.tmp 24) 68, some 25, none, [3, 7], fun v _ => v = .bool false⟩]
noncomputable def rs6a_base (g o n c g2 o2 c2 : Nat) (t u x y : Int) (k : Nat) (v2 v3 v4 v6 v7 v8 v9 v10 v11 v12 v13 v14 v15 v16 : Value) : List (Nat × Value) := [(0, .slice (some ⟨g, o, none⟩) n c), (1, .slice (some ⟨g2, o2, none⟩) n c2), (5, .int .i64 (k : Int)), (2, v2), (3, v3), (4, v4), (6, v6), (7, v7), (8, v8), (9, v9), (10, v10), (11, v11), (12, v12), (13, v13), (14, v14), (15, v15), (16, v16)]
set_option maxHeartbeats 4000000 in
theorem rs6a_steps (V : World) (g o n c g2 o2 c2 : Nat) (t u x y : Int) (k : Nat) (v2 v3 v4 v6 v7 v8 v9 v10 v11 v12 v13 v14 v15 v16 : Value) (H0 : ∀ w', Lat V w' → w'.cell? ⟨g, o + k * 2, none⟩ = some (.int .i64 t)) (H1 : ∀ w', Lat V w' → w'.cell? ⟨g, o + k * 2 + 1, none⟩ = some (.int .i64 u)) (H2 : ∀ w', Lat V w' → w'.cell? ⟨g2, o2 + k * 2, none⟩ = some (.int .i64 x)) (H3 : ∀ w', Lat V w' → w'.cell? ⟨g2, o2 + k * 2 + 1, none⟩ = some (.int .i64 y)) (hkn : (k : Int) < (n : Int)) (hk0 : (0 : Int) ≤ (k : Int)) (h1 : t = x) (h2 : u = y) :
  AllStepsN Tryz.prog (rs6a_rows g o n c g2 o2 c2 t u x y k) (rs6a_base g o n c g2 o2 c2 t u x y k v2 v3 v4 v6 v7 v8 v9 v10 v11 v12 v13 v14 v15 v16) V (rs6a_rows g o n c g2 o2 c2 t u x y k) := by
 refine n1 ?_ (eb 0) (fun ev w hl ec e1 d ty p af g => ?_)
 refine n1 ?_ (eb 5) (fun ev w hl ec e1 d ty p af g => ?_)
 refine n2 ?_ (ed 0) (ed 1) (fun ev w hl ec e1 e2 d ty p af g => ?_)
 refine n1 ?_ (ed 2) (fun ev w hl ec e1 d ty p af g => by unfold execOp; simp only [e1, ec]; have hc := H0 w hl; have hc1 := H1 w hl; go_simp)
 refine n1 ?_ (eb 1) (fun ev w hl ec e1 d ty p af g => ?_)
 refine n1 ?_ (eb 5) (fun ev w hl ec e1 d ty p af g => ?_)
 refine n2 ?_ (ed 4) (ed 5) (fun ev w hl ec e1 e2 d ty p af g => ?_)
 refine n1 ?_ (ed 6) (fun ev w hl ec e1 d ty p af g => by unfold execOp; simp only [e1, ec]; have hc := H2 w hl; have hc1 := H3 w hl; go_simp)
 refine n2 ?_ (ed 3) (ed 7) (fun ev w hl ec e1 e2 d ty p af g => ?_)
 ·exact AllStepsN.none
 all_goals (unfold execOp; first | simp only [e1, e2, ec] | simp only [e1, ec] | simp only [ec])
 all_goals go_simp
noncomputable def rs6b_rows (g o n c g2 o2 c2 : Nat) (t u x y : Int) (k : Nat) : List SRow := [
 ⟨.move (.tmp 0), some 17, none, [], fun v _ => v = .slice (some ⟨g, o, none⟩) n c⟩,
 ⟨.move (.tmp 5), some 18, none, [], fun v _ => v = .int .i64 (k : Int)⟩,
 ⟨.indexAddr 27 (.tmp 17) (.tmp 18), some 19, none, [0, 1], fun v _ => v = .pointer (some ⟨g, o + k * 2, none⟩)⟩,
 ⟨.load 68 (.tmp 19), some 20, none, [2], fun v _ => v = .agg #[.int .i64 t, .int .i64 u]⟩,
 ⟨.move (.tmp 1), some 21, none, [], fun v _ => v = .slice (some ⟨g2, o2, none⟩) n c2⟩,
 ⟨.move (.tmp 5), some 22, none, [], fun v _ => v = .int .i64 (k : Int)⟩,
 ⟨.indexAddr 27 (.tmp 21) (.tmp 22), some 23, none, [4, 5], fun v _ => v = .pointer (some ⟨g2, o2 + k * 2, none⟩)⟩,
 ⟨.load 68 (.tmp 23), some 24, none, [6], fun v _ => v = .agg #[.int .i64 x, .int .i64 y]⟩,
 ⟨.binOp .neq 68 (.tmp 20) (.tmp 24) 68, some 25, none, [3, 7], fun v _ => v = .bool true⟩]
noncomputable def rs6b_base (g o n c g2 o2 c2 : Nat) (t u x y : Int) (k : Nat) (v2 v3 v4 v6 v7 v8 v9 v10 v11 v12 v13 v14 v15 v16 : Value) : List (Nat × Value) := [(0, .slice (some ⟨g, o, none⟩) n c), (1, .slice (some ⟨g2, o2, none⟩) n c2), (5, .int .i64 (k : Int)), (2, v2), (3, v3), (4, v4), (6, v6), (7, v7), (8, v8), (9, v9), (10, v10), (11, v11), (12, v12), (13, v13), (14, v14), (15, v15), (16, v16)]
set_option maxHeartbeats 4000000 in
theorem rs6b_steps (V : World) (g o n c g2 o2 c2 : Nat) (t u x y : Int) (k : Nat) (v2 v3 v4 v6 v7 v8 v9 v10 v11 v12 v13 v14 v15 v16 : Value) (H0 : ∀ w', Lat V w' → w'.cell? ⟨g, o + k * 2, none⟩ = some (.int .i64 t)) (H1 : ∀ w', Lat V w' → w'.cell? ⟨g, o + k * 2 + 1, none⟩ = some (.int .i64 u)) (H2 : ∀ w', Lat V w' → w'.cell? ⟨g2, o2 + k * 2, none⟩ = some (.int .i64 x)) (H3 : ∀ w', Lat V w' → w'.cell? ⟨g2, o2 + k * 2 + 1, none⟩ = some (.int .i64 y)) (hkn : (k : Int) < (n : Int)) (hk0 : (0 : Int) ≤ (k : Int)) (h1 : ¬ t = x) (h1b : (t == x) = false) :
  AllStepsN Tryz.prog (rs6b_rows g o n c g2 o2 c2 t u x y k) (rs6b_base g o n c g2 o2 c2 t u x y k v2 v3 v4 v6 v7 v8 v9 v10 v11 v12 v13 v14 v15 v16) V (rs6b_rows g o n c g2 o2 c2 t u x y k) := by
 refine n1 ?_ (eb 0) (fun ev w hl ec e1 d ty p af g => ?_)
 refine n1 ?_ (eb 5) (fun ev w hl ec e1 d ty p af g => ?_)
 refine n2 ?_ (ed 0) (ed 1) (fun ev w hl ec e1 e2 d ty p af g => ?_)
 refine n1 ?_ (ed 2) (fun ev w hl ec e1 d ty p af g => by unfold execOp; simp only [e1, ec]; have hc := H0 w hl; have hc1 := H1 w hl; go_simp)
 refine n1 ?_ (eb 1) (fun ev w hl ec e1 d ty p af g => ?_)
 refine n1 ?_ (eb 5) (fun ev w hl ec e1 d ty p af g => ?_)
 refine n2 ?_ (ed 4) (ed 5) (fun ev w hl ec e1 e2 d ty p af g => ?_)
 refine n1 ?_ (ed 6) (fun ev w hl ec e1 d ty p af g => by unfold execOp; simp only [e1, ec]; have hc := H2 w hl; have hc1 := H3 w hl; go_simp)
 refine n2 ?_ (ed 3) (ed 7) (fun ev w hl ec e1 e2 d ty p af g => ?_)
 ·exact AllStepsN.none
 all_goals (unfold execOp; first | simp only [e1, e2, ec] | simp only [e1, ec] | simp only [ec])
 all_goals go_simp
noncomputable def rs6c_rows (g o n c g2 o2 c2 : Nat) (t u x y : Int) (k : Nat) : List SRow := [
 ⟨.move (.tmp 0), some 17, none, [], fun v _ => v = .slice (some ⟨g, o, none⟩) n c⟩,
 ⟨.move (.tmp 5), some 18, none, [], fun v _ => v = .int .i64 (k : Int)⟩,
 ⟨.indexAddr 27 (.tmp 17) (.tmp 18), some 19, none, [0, 1], fun v _ => v = .pointer (some ⟨g, o + k * 2, none⟩)⟩,
 ⟨.load 68 (.tmp 19), some 20, none, [2], fun v _ => v = .agg #[.int .i64 t, .int .i64 u]⟩,
 ⟨.move (.tmp 1), some 21, none, [], fun v _ => v = .slice (some ⟨g2, o2, none⟩) n c2⟩,
 ⟨.move (.tmp 5), some 22, none, [], fun v _ => v = .int .i64 (k : Int)⟩,
 ⟨.indexAddr 27 (.tmp 21) (.tmp 22), some 23, none, [4, 5], fun v _ => v = .pointer (some ⟨g2, o2 + k * 2, none⟩)⟩,
 ⟨.load 68 (.tmp 23), some 24, none, [6], fun v _ => v = .agg #[.int .i64 x, .int .i64 y]⟩,
 ⟨.binOp .neq 68 (.tmp 20) (.tmp 24) 68, some 25, none, [3, 7], fun v _ => v = .bool true⟩]
noncomputable def rs6c_base (g o n c g2 o2 c2 : Nat) (t u x y : Int) (k : Nat) (v2 v3 v4 v6 v7 v8 v9 v10 v11 v12 v13 v14 v15 v16 : Value) : List (Nat × Value) := [(0, .slice (some ⟨g, o, none⟩) n c), (1, .slice (some ⟨g2, o2, none⟩) n c2), (5, .int .i64 (k : Int)), (2, v2), (3, v3), (4, v4), (6, v6), (7, v7), (8, v8), (9, v9), (10, v10), (11, v11), (12, v12), (13, v13), (14, v14), (15, v15), (16, v16)]
set_option maxHeartbeats 4000000 in
theorem rs6c_steps (V : World) (g o n c g2 o2 c2 : Nat) (t u x y : Int) (k : Nat) (v2 v3 v4 v6 v7 v8 v9 v10 v11 v12 v13 v14 v15 v16 : Value) (H0 : ∀ w', Lat V w' → w'.cell? ⟨g, o + k * 2, none⟩ = some (.int .i64 t)) (H1 : ∀ w', Lat V w' → w'.cell? ⟨g, o + k * 2 + 1, none⟩ = some (.int .i64 u)) (H2 : ∀ w', Lat V w' → w'.cell? ⟨g2, o2 + k * 2, none⟩ = some (.int .i64 x)) (H3 : ∀ w', Lat V w' → w'.cell? ⟨g2, o2 + k * 2 + 1, none⟩ = some (.int .i64 y)) (hkn : (k : Int) < (n : Int)) (hk0 : (0 : Int) ≤ (k : Int)) (h1 : t = x) (h2 : ¬ u = y) (h2b : (u == y) = false) :
  AllStepsN Tryz.prog (rs6c_rows g o n c g2 o2 c2 t u x y k) (rs6c_base g o n c g2 o2 c2 t u x y k v2 v3 v4 v6 v7 v8 v9 v10 v11 v12 v13 v14 v15 v16) V (rs6c_rows g o n c g2 o2 c2 t u x y k) := by
 refine n1 ?_ (eb 0) (fun ev w hl ec e1 d ty p af g => ?_)
 refine n1 ?_ (eb 5) (fun ev w hl ec e1 d ty p af g => ?_)
 refine n2 ?_ (ed 0) (ed 1) (fun ev w hl ec e1 e2 d ty p af g => ?_)
 refine n1 ?_ (ed 2) (fun ev w hl ec e1 d ty p af g => by unfold execOp; simp only [e1, ec]; have hc := H0 w hl; have hc1 := H1 w hl; go_simp)
 refine n1 ?_ (eb 1) (fun ev w hl ec e1 d ty p af g => ?_)
 refine n1 ?_ (eb 5) (fun ev w hl ec e1 d ty p af g => ?_)
 refine n2 ?_ (ed 4) (ed 5) (fun ev w hl ec e1 e2 d ty p af g => ?_)
 refine n1 ?_ (ed 6) (fun ev w hl ec e1 d ty p af g => by unfold execOp; simp only [e1, ec]; have hc := H2 w hl; have hc1 := H3 w hl; go_simp)
 refine n2 ?_ (ed 3) (ed 7) (fun ev w hl ec e1 e2 d ty p af g => ?_)
 ·exact AllStepsN.none
 all_goals (unfold execOp; first | simp only [e1, e2, ec] | simp only [e1, ec] | simp only [ec])
 all_goals go_simp
set_option maxHeartbeats 4000000 in
theorem rSameR_any (A : Option Addr) (n c : Nat) (a : List (Int × Int)) (A' : Option Addr) (m c2 : Nat) (b : List (Int × Int)) (w : World) (hs : RowM w A 2 n (tRows a)) (ks : RowM w A' 2 m (tRows b)) (hn : n ≤ 1000000) :
  Calls Tryz.prog 10 #[.slice A n c, .slice A' m c2] w (fun e w' => e = .returned (.bool (decide (a = b))) ∧ Lat w w') := by
 have hln := hs.1
 have hlm := ks.1
 rw [tRows_len] at hln hlm
 obtain ⟨v, hv⟩ : ∃ v, decide (a = b) = v := ⟨_, rfl⟩
 rw [hv]
 have HV := Lib.hid hv
 have HS := Lib.hid hs
 have KS := Lib.hid ks
 have HLN := Lib.hid hln
 have HLM := Lib.hid hlm
 clear hv hs ks hln hlm
 by_cases hnm : n = m
 ·subst hnm
  have HB := Lib.hid hn
  clear hn
  go_enter Tryz.func10, Tryz.ntmps10
  go_wp2
  go_loopw [5] (fun iv wr => ∃ k : Nat, k ≤ n ∧ iv = .int .i64 (k : Nat) ∧ Hid (a.take k = b.take k) ∧ Lat w wr) (fun iv _ => n - (intOf iv).toNat)
  case atStart => exact ⟨0, Nat.zero_le _, rfl, rfl, Lat.refl _⟩
  case round =>
   obtain ⟨k, hk, rfl, hI, hl⟩ := hrel
   by_cases hkn : k < n
   ·obtain ⟨g, o, x0, rfl, hg, hx, c0, c1⟩ := row_term (HS.out.later hl) hkn
    obtain ⟨g2, o2, y0, rfl, hg', hy, d0, d1⟩ := row_term (KS.out.later hl) hkn
    obtain ⟨t, u⟩ := x0
    obtain ⟨x, y⟩ := y0
    simp only at c0 c1 d0 d1
    have hkI : (k : Int) < (n : Int) := by omega
    have hk0 : (0 : Int) ≤ (k : Int) := by omega
    have wk : wrap64 ((k : Int) + 1) = (k : Int) + 1 := IntWalk.wrap64_in _ (by have := HB.out; omega)
    have HKN := Lib.hid hkn
    have H0 : ∀ w', Lat wr w' → w'.cell? ⟨g, o + k * 2, none⟩ = some (.int .i64 t) := fun w' hl' => hl'.cell (p := ⟨g, o + k * 2, none⟩) hg c0
    have H1 : ∀ w', Lat wr w' → w'.cell? ⟨g, o + k * 2 + 1, none⟩ = some (.int .i64 u) := fun w' hl' => hl'.cell (p := ⟨g, o + k * 2 + 1, none⟩) hg c1
    have H2 : ∀ w', Lat wr w' → w'.cell? ⟨g2, o2 + k * 2, none⟩ = some (.int .i64 x) := fun w' hl' => hl'.cell (p := ⟨g2, o2 + k * 2, none⟩) hg' d0
    have H3 : ∀ w', Lat wr w' → w'.cell? ⟨g2, o2 + k * 2 + 1, none⟩ = some (.int .i64 y) := fun w' hl' => hl'.cell (p := ⟨g2, o2 + k * 2 + 1, none⟩) hg' d1
    have hne : ¬ (t, u) = (x, y) → v = false := fun he => by
     rw [← HV.out]
     refine decide_eq_false fun h => he ?_
     rw [h, hy] at hx
     cases hx; rfl
    have heq : (t, u) = (x, y) → a.take (k + 1) = b.take (k + 1) := fun he => by
     obtain ⟨h1, h2⟩ := List.getElem?_eq_some_iff.1 hx
     obtain ⟨h3, h4⟩ := List.getElem?_eq_some_iff.1 hy
     rw [List.take_succ_eq_append_getElem h1, List.take_succ_eq_append_getElem h3, h2, h4, hI.out, he]
    have HNE := Lib.hid hne
    have HEQ := Lib.hid heq
    clear hx hy hg hg' hk hkn hne heq c0 c1 d0 d1 hI
    go_upto_region 6 with (fail)
    by_cases h1 : t = x
    ·by_cases h2 : u = y
     ·have HRel : ∀ W, Lat wr W → ∃ q : Nat, q ≤ n ∧ (Value.int .i64 (wrap64 ((k : Int) + 1))) = .int .i64 (q : Nat) ∧ Hid (a.take q = b.take q) ∧ Lat w W := fun W h => ⟨k + 1, HKN.out, by rw [wk]; exact me_succ k, HEQ.out (by rw [h1, h2]), hl.trans h⟩
      as_aux_lemma =>
       rename_i KN hKN
       refine wp_region_slotsN (rs6a_rows g o n c g2 o2 c2 t u x y k) (rs6a_base g o n c g2 o2 c2 t u x y k _ _ _ _ _ _ _ _ _ _ _ _ _ _) 26 9 [[], [], [0, 1], [2], [], [], [4, 5], [6], [3, 7]] (by kernel_rfl) (by kernel_rfl) (by kernel_rfl) (by kernel_rfl) (by kernel_rfl) (by kernel_rfl) (by rfl) rfl (base_of (by repeat (first | exact base_nil _ | refine base_consL rfl ?_))) (rs6a_steps wr g o n c g2 o2 c2 t u x y k _ _ _ _ _ _ _ _ _ _ _ _ _ _ H0 H1 H2 H3 hkI hk0 h1 h2) ?_
       ·intro a9 W9 hsz9 hdf9 hL9 hbs hsl
        obtain ⟨v9, h9, q9⟩ := hsl 8 _ _ rfl rfl
        obtain rfl : v9 = .bool false := q9
        have w25 := slot_getD h9
        clear h9
        refine hKN _ _ ?_
        obtain ⟨T9, df9⟩ := a9
        obtain rfl : df9 = [] := hdf9
        obtain ⟨f, hf, rfl⟩ := spell26 T9 hsz9
        have XX := fun k v h => (hf k).trans (slot_getD (hbs k v h))
        have x0 : f 0 = .slice (some ⟨g, o, none⟩) n c := XX 0 _ rfl
        have x1 : f 1 = .slice (some ⟨g2, o2, none⟩) n c2 := XX 1 _ rfl
        have x5 : f 5 = .int .i64 (k : Int) := XX 5 _ rfl
        have x25 := (hf 25).trans w25
        clear hbs hsl hf hsz9 hKN w25
        simp only [x0, x1, x5, XX 2 _ rfl, XX 3 _ rfl, XX 4 _ rfl, XX 6 _ rfl, XX 7 _ rfl, XX 8 _ rfl, XX 9 _ rfl, XX 10 _ rfl, XX 11 _ rfl, XX 12 _ rfl, XX 13 _ rfl, XX 14 _ rfl, XX 15 _ rfl, XX 16 _ rfl, x25]
        clear XX x0 x1 x5 x25
        have HRel2 := HRel _ hL9
        clear HRel hL9 h1 h2 H0 H1 H2 H3 HEQ HNE
        obtain ⟨W8, rfl⟩ : ∃ z, z = W9 := ⟨_, rfl⟩
        go_wp2
        have HRel := HRel2
        go_roundw
        case rel => first | exact HRel | exact ⟨_, HRel, rfl⟩ | exact ⟨_, _, HRel, rfl⟩ | exact ⟨_, _, _, HRel, rfl⟩ | exact ⟨_, _, _, _, HRel, rfl⟩ | exact ⟨_, _, _, _, _, HRel, rfl⟩ | exact ⟨_, _, _, _, _, _, HRel, rfl⟩ | exact ⟨_, _, _, _, _, _, _, HRel, rfl⟩ | exact ⟨_, _, _, _, _, _, _, _, HRel, rfl⟩ | exact ⟨_, _, _, _, _, _, _, _, _, HRel, rfl⟩
        case measure => (rw [wk]; exact me_up HKN.out)
     ·have h2b : (u == y) = false := by simpa using h2
      obtain rfl := HNE.out (fun h => h2 (Prod.mk.inj h).2)
      as_aux_lemma =>
       rename_i KN hKN
       refine wp_region_slotsN (rs6c_rows g o n c g2 o2 c2 t u x y k) (rs6c_base g o n c g2 o2 c2 t u x y k _ _ _ _ _ _ _ _ _ _ _ _ _ _) 26 9 [[], [], [0, 1], [2], [], [], [4, 5], [6], [3, 7]] (by kernel_rfl) (by kernel_rfl) (by kernel_rfl) (by kernel_rfl) (by kernel_rfl) (by kernel_rfl) (by rfl) rfl (base_of (by repeat (first | exact base_nil _ | refine base_consL rfl ?_))) (rs6c_steps wr g o n c g2 o2 c2 t u x y k _ _ _ _ _ _ _ _ _ _ _ _ _ _ H0 H1 H2 H3 hkI hk0 h1 h2 h2b) ?_
       ·intro a9 W9 hsz9 hdf9 hL9 hbs hsl
        obtain ⟨v9, h9, q9⟩ := hsl 8 _ _ rfl rfl
        obtain rfl : v9 = .bool true := q9
        have w25 := slot_getD h9
        clear h9
        refine hKN _ _ ?_
        obtain ⟨T9, df9⟩ := a9
        obtain rfl : df9 = [] := hdf9
        obtain ⟨f, hf, rfl⟩ := spell26 T9 hsz9
        have XX := fun k v h => (hf k).trans (slot_getD (hbs k v h))
        have x0 : f 0 = .slice (some ⟨g, o, none⟩) n c := XX 0 _ rfl
        have x1 : f 1 = .slice (some ⟨g2, o2, none⟩) n c2 := XX 1 _ rfl
        have x5 : f 5 = .int .i64 (k : Int) := XX 5 _ rfl
        have x25 := (hf 25).trans w25
        clear hbs hsl hf hsz9 hKN w25
        simp only [x0, x1, x5, XX 2 _ rfl, XX 3 _ rfl, XX 4 _ rfl, XX 6 _ rfl, XX 7 _ rfl, XX 8 _ rfl, XX 9 _ rfl, XX 10 _ rfl, XX 11 _ rfl, XX 12 _ rfl, XX 13 _ rfl, XX 14 _ rfl, XX 15 _ rfl, XX 16 _ rfl, x25]
        clear XX x0 x1 x5 x25
        have LF := Lib.hid (hl.trans hL9)
        clear hL9 hl H0 H1 H2 H3
        go_wp2
        go_ret
        exact ⟨rfl, LF.out⟩
    ·have h1b : (t == x) = false := by simpa using h1
     obtain rfl := HNE.out (fun h => h1 (Prod.mk.inj h).1)
     as_aux_lemma =>
      rename_i KN hKN
      refine wp_region_slotsN (rs6b_rows g o n c g2 o2 c2 t u x y k) (rs6b_base g o n c g2 o2 c2 t u x y k _ _ _ _ _ _ _ _ _ _ _ _ _ _) 26 9 [[], [], [0, 1], [2], [], [], [4, 5], [6], [3, 7]] (by kernel_rfl) (by kernel_rfl) (by kernel_rfl) (by kernel_rfl) (by kernel_rfl) (by kernel_rfl) (by rfl) rfl (base_of (by repeat (first | exact base_nil _ | refine base_consL rfl ?_))) (rs6b_steps wr g o n c g2 o2 c2 t u x y k _ _ _ _ _ _ _ _ _ _ _ _ _ _ H0 H1 H2 H3 hkI hk0 h1 h1b) ?_
      ·intro a9 W9 hsz9 hdf9 hL9 hbs hsl
       obtain ⟨v9, h9, q9⟩ := hsl 8 _ _ rfl rfl
       obtain rfl : v9 = .bool true := q9
       have w25 := slot_getD h9
       clear h9
       refine hKN _ _ ?_
       obtain ⟨T9, df9⟩ := a9
       obtain rfl : df9 = [] := hdf9
       obtain ⟨f, hf, rfl⟩ := spell26 T9 hsz9
       have XX := fun k v h => (hf k).trans (slot_getD (hbs k v h))
       have x0 : f 0 = .slice (some ⟨g, o, none⟩) n c := XX 0 _ rfl
       have x1 : f 1 = .slice (some ⟨g2, o2, none⟩) n c2 := XX 1 _ rfl
       have x5 : f 5 = .int .i64 (k : Int) := XX 5 _ rfl
       have x25 := (hf 25).trans w25
       clear hbs hsl hf hsz9 hKN w25
       simp only [x0, x1, x5, XX 2 _ rfl, XX 3 _ rfl, XX 4 _ rfl, XX 6 _ rfl, XX 7 _ rfl, XX 8 _ rfl, XX 9 _ rfl, XX 10 _ rfl, XX 11 _ rfl, XX 12 _ rfl, XX 13 _ rfl, XX 14 _ rfl, XX 15 _ rfl, XX 16 _ rfl, x25]
       clear XX x0 x1 x5 x25
       have LF := Lib.hid (hl.trans hL9)
       clear hL9 hl H0 H1 H2 H3
       go_wp2
       go_ret
       exact ⟨rfl, LF.out⟩
   ·obtain rfl : k = n := by omega
    obtain rfl : v = true := by
     rw [← HV.out]
     refine decide_eq_true ?_
     have := hI.out
     rwa [List.take_of_length_le (by have := HLN.out; omega), List.take_of_length_le (by have := HLM.out; omega)] at this
    have hge : ¬ (k : Int) < (k : Int) := by omega
    clear hkn hI
    go_wp2
    go_ret
    exact ⟨rfl, hl⟩
 ·obtain rfl : v = false := by
   rw [← HV.out]
   refine decide_eq_false fun h => hnm ?_
   have := HLN.out
   have := HLM.out
   rw [h] at *
   omega
  have hne : (((n : Nat) : Int) != ((m : Nat) : Int)) = true := by simp; omega
  clear hnm
  go_enter Tryz.func10, Tryz.ntmps10
  go_wp2
  go_ret
  exact ⟨rfl, Lat.refl _⟩
end Go.Proofs.YtakhiomcneikkaaGreat
