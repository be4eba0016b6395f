/- Several texts in one: MapIt, Ofs, EqS. -/
import Derived.Test.YtbgngmamnonlbaaGreatH23
import Derived.Laws.IdiomRangeMap
import Derived.Test.YtbgngmamnonlbaaGreatH27
import Derived.Test.YtbgngmamnonlbaaGreatH40
import Derived.Test.YtbgngmamnonlbaaGreatH28
import Derived.Deep.DeepCutAuto
namespace Go.Proofs.YtbgngmamnonlbaaGreat
open Go.RowKit
theorem run_next_at {P : Program} (w : World) (ty : TypeId) (bm it since c0 : Nat) (seen : Array Nat) (es : Array MapEntry) (clock : Nat) (hi : w.heap[it]? = some (.mapIter (some bm) since seen c0)) (hb : w.heap[bm]? = some (.map es clock))
  (hold : ∀ x ∈ es.toList, x.born < since) (hsc : since ≤ c0) :
  ((Go.leftOf es seen).size = 0 ∧ (Instr.next (.pointer (some ⟨it, 0, none⟩)) false ty).run P w = .ok (.tuple #[.bool false]) w) ∨
  ∃ e ∈ (Go.leftOf es seen).toList, ∃ w1 : World, (w1 = w ∨ w1 = w.drew) ∧ (Instr.next (.pointer (some ⟨it, 0, none⟩)) false ty).run P w = .ok (.tuple #[.bool true, e.key, e.val]) (w1.putObj it (.mapIter (some bm) since (seen.push e.born) clock)) := by
 simp only [Instr.next, getObj, Sem.run_bind, Sem.run, hi, hb, Result.andThen, next_test_false seen es since c0 hold hsc, Bool.false_eq_true, if_false]
 unfold Go.leftOf
 have hmem : ∀ x ∈ (Array.filter (fun e => !seen.contains e.born) es).toList, x.born < since := fun x hx => hold x (by simp at hx ⊢; exact hx.1)
 generalize Array.filter (fun e => !seen.contains e.born) es = L at hmem ⊢
 have e1 : L.filter (fun x => decide (x.born < since)) = L := Array.filter_eq_self.2 (fun x hx => by simpa using hmem x (by simpa using hx))
 have e2 : L.filter (fun x => decide (x.born ≥ since)) = #[] := by
  rw [Array.filter_eq_empty_iff]
  intro x hx
  have := hmem x (by simpa using hx)
  simp
  omega
 simp only [e1, e2, Array.append_empty]
 by_cases h0 : L.size = 0
 ·left
  have : L = #[] := Array.eq_empty_of_size_eq_zero h0
  subst this
  refine ⟨rfl, ?_⟩
  simp [choose, Sem.run, Question.forced]
 ·right
  have hne : L.isEmpty = false := by simp [Array.isEmpty, h0]
  simp only [hne, Bool.false_eq_true, if_false, Array.empty_append, Array.size_map]
  have hch : ∃ (j : Nat) (w1 : World), j < L.size ∧ (w1 = w ∨ w1 = w.drew) ∧ (choose (Question.mapNext L.size)).run P w = .ok j w1 := by
   by_cases hf : L.size ≤ 1
   ·exact ⟨0, w, by omega, .inl rfl, by simp [choose, Sem.run, Question.forced, hf]⟩
   ·exact ⟨_, w.drew, Nat.mod_lt _ (by omega), .inr rfl, by
     simp only [choose, Sem.run, Question.forced, decide_eq_true_eq, hf, if_false, Question.cut]
     rfl⟩
  obtain ⟨j, w1, hj, hal, hrun⟩ := hch
  refine ⟨L[j], by simp, w1, hal, ?_⟩
  have h1 : w1.heap[it]? = some (.mapIter (some bm) since seen c0) := by rcases hal with rfl | rfl <;> exact hi
  have hset : ∀ o' : Obj, (setObj it o').run P w1 = .ok () (w1.putObj it o') := fun o' => by
   simp only [setObj, Sem.run, h1]
   rfl
  simp only [hrun, Array.getElem?_map, Array.getElem?_eq_getElem hj, Option.map_some, Sem.run_bind, hset, Result.andThen]
  rfl
theorem run_entry_at {P : Program} (w : World) (bm it since : Nat) (seen : Array Nat) (es : Array MapEntry) (clock : Nat) (e : MapEntry) (hi : w.heap[it]? = some (.mapIter (some bm) since (seen.push e.born) clock)) (hb : w.heap[bm]? = some (.map es clock)) (he : e ∈ es.toList) (hn : (es.toList.map (·.born)).Nodup) :
  (Instr.entry (.pointer (some ⟨it, 0, none⟩))).run P w = .ok (.tuple #[e.key, e.val]) w := by
 have hf : es.find? (·.born == e.born) = some e := by rw [← Array.find?_toList]; exact find_born e es.toList hn he
 simp only [Instr.entry, getObj, Sem.run_bind, Sem.run, hi, hb, Result.andThen, Array.back?_push, bne_self_eq_false, Bool.false_eq_true, if_false, hf]
 rfl
end Go.Proofs.YtbgngmamnonlbaaGreat
namespace Go.Proofs.YtbgngmamnonlbaaGreat
open Go.RowKit
set_option linter.unusedSimpArgs false
set_option maxRecDepth 100000 in
set_option maxHeartbeats 2000000 in
theorem l6_of (n d : Int) (w : World) (h0 : 0 < d) (h1 : d ≤ 9223372036854775807) (h2 : -9223372036854775808 ≤ n) (h3 : n ≤ 9223372036854775807) :
  Calls Tryz.prog 36 #[.int .i64 n, .int .i64 d] w (fun e w' => e = .returned (.agg (shA n d)) ∧ Lat w w') := by
 have HO : ∀ w, Calls Tryz.prog 46 #[.int .i64 n, .int .i64 d] w (ShR w (shA n d) 0) := fun w => (rOf_ok n d (by omega) h2 (by omega) (by omega) (by omega) w).mono fun _ _ h => (h.fits (fits_small h0 h1 h2 h3)).r
 obtain ⟨u, v, hX⟩ : ∃ u v : W8, shA n d = #[.int .u64 u.a0, .int .u64 u.a1, .int .u64 u.a2, .int .u64 u.a3, .int .u64 u.a4, .int .u64 u.a5, .int .u64 u.a6, .int .u64 u.a7, .int .u64 v.a0, .int .u64 v.a1, .int .u64 v.a2, .int .u64 v.a3, .int .u64 v.a4, .int .u64 v.a5, .int .u64 v.a6, .int .u64 v.a7] := ⟨_, _, rfl⟩
 have hG := shA_good n d
 obtain ⟨X, hX'⟩ : ∃ X, shA n d = X := ⟨_, rfl⟩
 rw [hX'] at HO hX hG ⊢
 have HX := Lib.hid hX
 have X1 := Lib.hid hG.1
 have X2 := Lib.hid hG.2.1
 have i16 : Hid ((Tryz.prog.info? 42).map (·.size) = some X.size) := by show _ = _; rw [X1.out]; exact shareInfo16
 clear hX hX' hG h0 h1 h2 h3
 go_enter Tryz.func36, Tryz.ntmps36
 go_wp2_with fail
 refine name1 (Q := fun W => Calls _ _ _ W _) ?_
 intro W hl hs k1
 refine (HO W).mono ?_
 rintro e w1 ⟨rfl, l1⟩
 have K1 := k1.later l1
 have L := hl.trans l1
 have hlt := K1.lt
 have K0 := Blk.new w1 42 #[.int .u64 W8.zero.a0, .int .u64 W8.zero.a1, .int .u64 W8.zero.a2, .int .u64 W8.zero.a3, .int .u64 W8.zero.a4, .int .u64 W8.zero.a5, .int .u64 W8.zero.a6, .int .u64 W8.zero.a7, .int .u64 W8.zero.a0, .int .u64 W8.zero.a1, .int .u64 W8.zero.a2, .int .u64 W8.zero.a3, .int .u64 W8.zero.a4, .int .u64 W8.zero.a5, .int .u64 W8.zero.a6, .int .u64 W8.zero.a7]
 clear k1 hl l1 HO
 go_wp2_with (first
  | (refine wpList_put rfl 42 (.tmp 5) (.tmp 11) (by rfl) (by rfl) w1.heap.size (by rfl) X (by rfl) K0 (by rw [X1.out]; rfl) i16.out X2.out ?_; intro w5 hput;
      have KX := hput.blk; have L5 := hput.lat w (L.trans (Lat.alloc _ _)) (by have := L.size; omega); have KR := hput.keep (K1.alloc _) (by omega))
  | (refine wpList_get (by rfl) 42 (.tmp 5) (by rfl) w1.heap.size (by rfl) KX _ Tryz.underlying42 rfl i16.out ?_)
  | (refine wpList_put rfl 42 (.tmp 4) (.tmp 13) (by rfl) (by rfl) w.heap.size (by rfl) X (by rfl) KR (by rw [X1.out]; rfl) i16.out X2.out ?_; intro w6 hput6; have KS := hput6.blk; have L6 := hput6.lat w L5 (Nat.le_refl _)))
 obtain ⟨u, v, rfl⟩ := HX.out
 have e0 := KS.cell 0
 have e1 := KS.cell 1
 have e2 := KS.cell 2
 have e3 := KS.cell 3
 have e4 := KS.cell 4
 have e5 := KS.cell 5
 have e6 := KS.cell 6
 have e7 := KS.cell 7
 have e8 := KS.cell 8
 have e9 := KS.cell 9
 have e10 := KS.cell 10
 have e11 := KS.cell 11
 have e12 := KS.cell 12
 have e13 := KS.cell 13
 have e14 := KS.cell 14
 have e15 := KS.cell 15
 clear KX KR hput hput6 K0 K1
 refine bodyPost_ret (v := .agg #[.int .u64 u.a0, .int .u64 u.a1, .int .u64 u.a2, .int .u64 u.a3, .int .u64 u.a4, .int .u64 u.a5, .int .u64 u.a6, .int .u64 u.a7, .int .u64 v.a0, .int .u64 v.a1, .int .u64 v.a2, .int .u64 v.a3, .int .u64 v.a4, .int .u64 v.a5, .int .u64 v.a6, .int .u64 v.a7]) (by simp [results, Tryz.results36, go_sem, e0, e1, e2, e3, e4, e5, e6, e7, e8, e9, e10, e11, e12, e13, e14, e15]) rfl ?_
 exact ⟨rfl, L6⟩
end Go.Proofs.YtbgngmamnonlbaaGreat
namespace Go.Proofs.YtbgngmamnonlbaaGreat
open Go.RowKit
set_option linter.unusedSimpArgs false
set_option linter.unusedVariables false
theorem spell26 (T : Array Value) (h : T.size = 26) : ∃ f : Nat → Value, (∀ k, f k = T.getD k undef) ∧ T = #[f 0, f 1, f 2, f 3, f 4, f 5, f 6, f 7, f 8, f 9, f 10, f 11, f 12, f 13, f 14, f 15, f 16, f 17, f 18, f 19, f 20, f 21, f 22, f 23, f 24, f 25] := ⟨fun k => T.getD k undef, fun _ => rfl, (spell 26 T h).trans (by kernel_rfl)⟩
noncomputable def eqs6_rows (g g2 n c1 c2 k : Nat) (Y : List Value) : List SRow := [
 ⟨Op.move (Operand.tmp 0), some 16, none, [], fun v _ => v = .slice (some ⟨g, 0, none⟩) n c1⟩,
 ⟨Op.move (Operand.tmp 5), some 17, none, [], fun v _ => v = .int .i64 (k : Int)⟩,
 ⟨Op.indexAddr 45 (Operand.tmp 16) (Operand.tmp 17), some 18, none, [0, 1], fun v _ => v = .pointer (some ⟨g, k * 16, none⟩)⟩,
 ⟨Op.load 42 (Operand.tmp 18), some 19, none, [2], fun v _ => v = .agg Y.toArray⟩,
 ⟨Op.move (Operand.tmp 1), some 20, none, [], fun v _ => v = .slice (some ⟨g2, 0, none⟩) n c2⟩,
 ⟨Op.move (Operand.tmp 5), some 21, none, [], fun v _ => v = .int .i64 (k : Int)⟩,
 ⟨Op.indexAddr 45 (Operand.tmp 20) (Operand.tmp 21), some 22, none, [4, 5], fun v _ => v = .pointer (some ⟨g2, k * 16, none⟩)⟩,
 ⟨Op.load 42 (Operand.tmp 22), some 23, none, [6], fun v _ => v = .agg Y.toArray⟩,
 ⟨Op.binOp BinOp.neq 42 (Operand.tmp 19) (Operand.tmp 23) 42, some 24, none, [3, 7], fun v _ => v = .bool false⟩]
noncomputable def eqs6_base (g g2 n c1 c2 k : Nat) (Y : List Value) (v2 v3 v4 v6 v7 v8 v9 v10 v11 v12 v13 v14 v15 v25 : Value) : List (Nat × Value) := [(0, .slice (some ⟨g, 0, none⟩) n c1), (1, .slice (some ⟨g2, 0, none⟩) n c2), (5, .int .i64 (k : Int)), (2, v2), (3, v3), (4, v4), (6, v6), (7, v7), (8, v8), (9, v9), (10, v10), (11, v11), (12, v12), (13, v13), (14, v14), (15, v15), (25, v25)]
set_option maxRecDepth 100000 in
set_option maxHeartbeats 4000000 in
theorem eqs6_steps (V : World) (g g2 n c1 c2 k : Nat) (Y : List Value) (v2 v3 v4 v6 v7 v8 v9 v10 v11 v12 v13 v14 v15 v25 : Value) (hk : (k : Int) < (n : Int)) (hk0 : (0 : Int) ≤ (k : Int)) (R1 : ∀ w', Lat V w' → w'.rangeAt g (k * 16) Y) (R2 : ∀ w', Lat V w' → w'.rangeAt g2 (k * 16) Y) (J : (Tryz.prog.info? 42).map (·.size) = some Y.length) (hgd : Tryz.prog.eqGuardType Tryz.prog.depth 42 = false) (HN : ∀ w, (binOp .neq 42 (.agg Y.toArray) (.agg Y.toArray)).run Tryz.prog w = .ok (.bool false) w) :
  AllSteps Tryz.prog (eqs6_rows g g2 n c1 c2 k Y) (eqs6_base g g2 n c1 c2 k Y v2 v3 v4 v6 v7 v8 v9 v10 v11 v12 v13 v14 v15 v25) V (eqs6_rows g g2 n c1 c2 k Y) := by
 refine AllSteps.next (fun _ _ _ h _ => h) (fun j b h => by cases h) (fun a w hl hb hd o ho => by have e1 := hb 0 _ rfl; exact Runs.val (yv_move (S := fun _ => True) e1 o w ho trivial) ⟨Lat.refl _, fun _ => rfl⟩) ?_
 refine AllSteps.next (fun _ _ _ h _ => h) (fun j b h => by cases h) (fun a w hl hb hd o ho => by have e1 := hb 5 _ rfl; exact Runs.val (yv_move (S := fun _ => True) e1 o w ho trivial) ⟨Lat.refl _, fun _ => rfl⟩) ?_
 refine AllSteps.next (fun _ _ _ h _ => h) (fun j b h => by cases h) (fun a w hl hb hd o ho => by obtain ⟨v1, e1, q1⟩ := hd 0 _ _ (by simp) rfl rfl; subst q1; obtain ⟨v2, e2, q2⟩ := hd 1 _ _ (by simp) rfl rfl; subst q2; obtain ⟨d, op, ty, p, af, g⟩ := o; simp only at ho; subst ho; have ec : ∀ v, a.eval (.const v) = v := fun _ => rfl; exact Runs.val (by unfold execOp; generalize a.eval = ev at e1 e2 ec ⊢; simp only [e1, e2, ec]; go_simp) ⟨Lat.refl _, fun _ => rfl⟩) ?_
 refine AllSteps.next (fun _ _ _ h _ => h) (fun j b h => by cases h) (fun a w hl hb hd o ho => by obtain ⟨v1, e1, q1⟩ := hd 2 _ _ (by simp) rfl rfl; subst q1; exact Runs.val (yv_loadO (S := Lat V) e1 R1 Tryz.underlying42 rfl J o w ho hl) ⟨Lat.refl _, fun _ => rfl⟩) ?_
 refine AllSteps.next (fun _ _ _ h _ => h) (fun j b h => by cases h) (fun a w hl hb hd o ho => by have e1 := hb 1 _ rfl; exact Runs.val (yv_move (S := fun _ => True) e1 o w ho trivial) ⟨Lat.refl _, fun _ => rfl⟩) ?_
 refine AllSteps.next (fun _ _ _ h _ => h) (fun j b h => by cases h) (fun a w hl hb hd o ho => by have e1 := hb 5 _ rfl; exact Runs.val (yv_move (S := fun _ => True) e1 o w ho trivial) ⟨Lat.refl _, fun _ => rfl⟩) ?_
 refine AllSteps.next (fun _ _ _ h _ => h) (fun j b h => by cases h) (fun a w hl hb hd o ho => by obtain ⟨v1, e1, q1⟩ := hd 4 _ _ (by simp) rfl rfl; subst q1; obtain ⟨v2, e2, q2⟩ := hd 5 _ _ (by simp) rfl rfl; subst q2; obtain ⟨d, op, ty, p, af, g⟩ := o; simp only at ho; subst ho; have ec : ∀ v, a.eval (.const v) = v := fun _ => rfl; exact Runs.val (by unfold execOp; generalize a.eval = ev at e1 e2 ec ⊢; simp only [e1, e2, ec]; go_simp) ⟨Lat.refl _, fun _ => rfl⟩) ?_
 refine AllSteps.next (fun _ _ _ h _ => h) (fun j b h => by cases h) (fun a w hl hb hd o ho => by obtain ⟨v1, e1, q1⟩ := hd 6 _ _ (by simp) rfl rfl; subst q1; exact Runs.val (yv_loadO (S := Lat V) e1 R2 Tryz.underlying42 rfl J o w ho hl) ⟨Lat.refl _, fun _ => rfl⟩) ?_
 refine AllSteps.next (fun _ _ _ h _ => h) (fun j b h => by cases h) (fun a w hl hb hd o ho => by obtain ⟨v1, e1, q1⟩ := hd 3 _ _ (by simp) rfl rfl; obtain ⟨v2, e2, q2⟩ := hd 7 _ _ (by simp) rfl rfl; subst q1; subst q2; exact Runs.val (yv_bin (S := fun _ => True) e1 e2 hgd HN o w ho trivial) ⟨Lat.refl _, fun _ => rfl⟩) ?_
 exact AllSteps.none
set_option maxRecDepth 100000 in
set_option maxHeartbeats 2000000 in
theorem equalS_yes (g n c1 g2 c2 : Nat) (xs : List (List Value)) (w : World) (h1 : RowB w g 42 16 xs) (h2 : RowB w g2 42 16 xs) (hn : xs.length = n) (hn1 : n ≤ 1000000)
  (hx : ∀ x ∈ xs, ∀ w, (binOp .neq 42 (.agg x.toArray) (.agg x.toArray)).run Tryz.prog w = .ok (.bool false) w) :
  Calls Tryz.prog 22 #[.slice (some ⟨g, 0, none⟩) n c1, .slice (some ⟨g2, 0, none⟩) n c2] w (fun e w' => e = .returned (.bool true) ∧ Lat w w') := by
 have HX := Lib.hid hx
 have hgd : Tryz.prog.eqGuardType Tryz.prog.depth 42 = false := by kernel_rfl
 have HGD := Lib.hid hgd
 clear hx hgd
 go_enter Tryz.func22, Tryz.ntmps22
 go_wp2
 go_loopw [13] (fun i wr => ∃ k : Nat, k ≤ n ∧ i = .int .i64 (k : Nat) ∧ Lat w wr) (fun i _ => n - (intOf i).toNat)
 case atStart => exact ⟨0, Nat.zero_le _, rfl, Lat.refl _⟩
 case round =>
  rename_i wr
  obtain ⟨k, hk, rfl, hlr⟩ := hrel
  by_cases hlt : k < n
  ·obtain ⟨Y, hY⟩ : ∃ y, xs[k]? = some y := ⟨_, List.getElem?_eq_getElem (by omega)⟩
   have hkI : (k : Int) < (n : Int) := by omega
   have hk0 : (0 : Int) ≤ (k : Int) := by omega
   have R1 : Hid (∀ w', Lat wr w' → w'.rangeAt g (k * 16) Y) := fun w' h => ((h1.later hlr).later h).range hY
   have R2 : Hid (∀ w', Lat wr w' → w'.rangeAt g2 (k * 16) Y) := fun w' h => ((h2.later hlr).later h).range hY
   have J : Hid ((Tryz.prog.info? 42).map (·.size) = some Y.length) := by show _ = _; rw [(h1.1 Y (List.mem_of_getElem? hY)).1]; exact shareInfo16
   have HN := Lib.hid (HX.out Y (List.mem_of_getElem? hY))
   clear hY
   go_upto_region 6 with (fail)
   rename_i KN hKN
   refine wp_region_slots (eqs6_rows g g2 n c1 c2 k Y) (eqs6_base g g2 n c1 c2 k Y _ _ _ _ _ _ _ _ _ _ _ _ _ _) 26 9 [[], [], [0, 1], [2], [], [], [4, 5], [6], [3, 7]] (by kernel_rfl) (by kernel_rfl) (by kernel_rfl) (by kernel_rfl) (by kernel_rfl) (by kernel_rfl) (by rfl) rfl (base_of (base_cons rfl (base_cons rfl (base_cons rfl (base_cons rfl (base_cons rfl (base_cons rfl (base_cons rfl (base_cons rfl (base_cons rfl (base_cons rfl (base_cons rfl (base_cons rfl (base_cons rfl (base_cons rfl (base_cons rfl (base_cons rfl (base_cons rfl (base_nil _))))))))))))))))))) (eqs6_steps wr g g2 n c1 c2 k Y _ _ _ _ _ _ _ _ _ _ _ _ _ _ hkI hk0 R1.out R2.out J.out HGD.out HN.out) ?_
   ·intro a9 W9 hsz9 hdf9 hL9 hbs hsl
    obtain ⟨v9, h9, q9⟩ := hsl 8 _ _ rfl rfl
    obtain rfl : v9 = .bool false := q9
    have w24 := slot_getD h9
    clear h9
    refine hKN _ _ ?_
    obtain ⟨T9, df9⟩ := a9
    obtain rfl : df9 = [] := hdf9
    obtain ⟨f, hf, rfl⟩ := spell26 T9 hsz9
    have x0 : f 0 = .slice (some ⟨g, 0, none⟩) n c1 := (hf 0).trans (slot_getD (hbs 0 _ rfl))
    have x1 : f 1 = .slice (some ⟨g2, 0, none⟩) n c2 := (hf 1).trans (slot_getD (hbs 1 _ rfl))
    have x5 : f 5 = .int .i64 (k : Int) := (hf 5).trans (slot_getD (hbs 5 _ rfl))
    have x2 := (hf 2).trans (slot_getD (hbs 2 _ rfl))
    have x3 := (hf 3).trans (slot_getD (hbs 3 _ rfl))
    have x4 := (hf 4).trans (slot_getD (hbs 4 _ rfl))
    have x6 := (hf 6).trans (slot_getD (hbs 6 _ rfl))
    have x7 := (hf 7).trans (slot_getD (hbs 7 _ rfl))
    have x8 := (hf 8).trans (slot_getD (hbs 8 _ rfl))
    have x9 := (hf 9).trans (slot_getD (hbs 9 _ rfl))
    have x10 := (hf 10).trans (slot_getD (hbs 10 _ rfl))
    have x11 := (hf 11).trans (slot_getD (hbs 11 _ rfl))
    have x12 := (hf 12).trans (slot_getD (hbs 12 _ rfl))
    have x13 := (hf 13).trans (slot_getD (hbs 13 _ rfl))
    have x14 := (hf 14).trans (slot_getD (hbs 14 _ rfl))
    have x15 := (hf 15).trans (slot_getD (hbs 15 _ rfl))
    have x25 := (hf 25).trans (slot_getD (hbs 25 _ rfl))
    have x24 := (hf 24).trans w24
    clear hbs hsl hf hsz9 hKN w24
    simp only [x0, x1, x5, x2, x3, x4, x6, x7, x8, x9, x10, x11, x12, x13, x14, x15, x25, x24]
    clear x0 x1 x5 x2 x3 x4 x6 x7 x8 x9 x10 x11 x12 x13 x14 x15 x25 x24
    go_wp2
    go_roundw
    case rel =>
     have HRel : ∃ k' : Nat, k' ≤ n ∧ Value.int .i64 ((k : Int) + 1) = .int .i64 (k' : Nat) ∧ Lat w W9 := ⟨k + 1, by omega, by go_num, hlr.trans hL9⟩
     first | exact HRel | exact ⟨_, _, _, _, _, _, _, _, _, _, HRel, rfl⟩ | exact ⟨_, _, _, _, _, _, _, _, _, _, _, HRel, rfl⟩ | exact ⟨_, _, _, _, _, _, _, _, _, _, _, _, HRel, rfl⟩ | exact ⟨_, _, _, _, _, _, _, _, _, _, _, _, _, HRel, rfl⟩ | exact ⟨_, _, _, _, _, _, _, _, _, _, _, _, _, _, HRel, rfl⟩ | exact ⟨_, _, _, _, _, _, _, _, _, _, _, _, _, _, _, HRel, rfl⟩ | exact ⟨_, _, _, _, _, _, _, _, _, _, _, _, _, _, _, _, HRel, rfl⟩
    case measure => simp [intOf]; omega
  ·obtain rfl : k = n := by omega
   go_wp2
   go_ret
   exact ⟨rfl, hlr⟩
end Go.Proofs.YtbgngmamnonlbaaGreat
