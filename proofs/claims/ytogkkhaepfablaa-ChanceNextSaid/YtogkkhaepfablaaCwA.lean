/- Chance: the law's small functions: draws, fails, q. -/
import Derived.Test.YtogkkhaepfablaaChV
import Derived.Test.YtogkkhaepfablaaJ15
import Derived.Test.YtogkkhaepfablaaSlq
namespace Go.Proofs.Ytogkkhaepfablaa
open Go.RowKit Go.Shelf
set_option linter.unusedSimpArgs false

theorem draws_any (n : Int) (b : Bool) (w : World) : Calls Try.prog 23 #[.int .i64 n, .bool b] w (fun e w' => ∃ b1 b2 : Nat, e = .returned (.func (.func 39) #[] #[.pointer (some ⟨b1, 0, none⟩), .pointer (some ⟨b2, 0, none⟩)]) ∧
    Blk w' b1 3 #[.int .i64 n] ∧ Blk w' b2 4 #[.bool b] ∧ Lat w w') := by
  go_enter Try.func23, Try.ntmps23
  go_wp2
  refine name2 (Q := fun W => bodyPost _ _ _ _ _ W) ?_
  intro W hl hs k1 k2
  go_ret
  exact ⟨_, _, rfl, k1, k2, hl⟩
theorem fails_any (n : Int) (w : World) : Calls Try.prog 20 #[.int .i64 n] w (fun e w' => ∃ b1 : Nat, e = .returned (.func (.func 35) #[] #[.pointer (some ⟨b1, 0, none⟩)]) ∧ Blk w' b1 29 #[.int .i64 n] ∧ Lat w w') := by
  go_enter Try.func20, Try.ntmps20
  go_wp2
  refine name1 (Q := fun W => bodyPost _ _ _ _ _ W) ?_
  intro W hl hs k1
  go_ret
  exact ⟨_, rfl, k1, hl⟩
theorem cells24 : Try.prog.cellsOf 24 = 1 := by kernel_rfl
theorem key24 {n : Int} (h : 0 ≤ n ∧ n < W64) (d : Nat) : Try.prog.keyLits (d + 2) 24 [.int .u64 n] = some [.int .u64 n] := by
  have h0 := key28 h d
  unfold Program.keyLits
  rw [Try.underlying24]
  simp [cells28, cells24, h0]
theorem chance_in {s t : Int} (hs : 0 ≤ s ∧ s < W64) (ht : 0 ≤ t ∧ t < W64) (w : World) : (Op.equalIn 10000 24 (.agg #[.int .u64 s]) (.agg #[.int .u64 t])).run Try.prog w = .ok (decide (s = t)) w := by
  obtain ⟨r, hr, hi⟩ := run_equalIn_deep (P := Try.prog) 9990 10 24 (by kernel_rfl) w 10 10 (.agg #[.int .u64 s]) (.agg #[.int .u64 t]) _ _ (by kernel_rfl) (by kernel_rfl) (key24 hs 8) (key24 ht 8)
  have e : r = decide (s = t) := by
    rw [Bool.eq_iff_iff, decide_eq_true_eq, hi]
    simp
  rw [hr, e]
theorem chance_eql {s t : Int} (hs : 0 ≤ s ∧ s < W64) (ht : 0 ≤ t ∧ t < W64) (w : World) : (binOp .eql 24 (.agg #[.int .u64 s]) (.agg #[.int .u64 t])).run Try.prog w = .ok (.bool (decide (s = t))) w := by
  rw [run_eql_struct, chance_in hs ht]
  rfl
theorem chance_neq {s t : Int} (hs : 0 ≤ s ∧ s < W64) (ht : 0 ≤ t ∧ t < W64) (w : World) : (binOp .neq 24 (.agg #[.int .u64 s]) (.agg #[.int .u64 t])).run Try.prog w = .ok (.bool (!decide (s = t))) w := by
  rw [run_neq_struct, chance_in hs ht]
  rfl

set_option maxRecDepth 100000 in
set_option maxHeartbeats 4000000 in
theorem fails_yes (n : Int) (b1 : Nat) (w : World) (k : Blk w b1 29 #[.int .i64 n]) :
    Calls Try.prog 35 #[.int .i64 0, .agg #[.int .u64 0], .int .i64 n, .pointer (some ⟨b1, 0, none⟩)] w (fun e w' => e = .returned (.bool true) ∧ Lat w w') := by
  have hE := Lib.hid (fun w => chance_eql (s := 0) (t := 0) (by decide) (by decide) w)
  have kl := k.lt
  have c0 : w.cell? ⟨b1, 0, none⟩ = some (.int .i64 n) := k.cell 0
  go_enter Try.func35, Try.ntmps35
  go_wp2_with (refine wpList_bin rfl .eql 24 24 (.tmp 11) (.tmp 12) (by rfl) #[.int .u64 0] #[.int .u64 0] _ (by rfl) (by rfl) (by kernel_rfl) (hE.out _) ?_)
  refine name1 (Q := fun W => bodyPost _ _ _ _ _ W) ?_
  intro W hl hs k1
  go_ret
  exact ⟨rfl, hl⟩

set_option maxRecDepth 100000 in
set_option maxHeartbeats 4000000 in
theorem draws_yes (n t : Int) (ht : 0 ≤ t ∧ t < W64) (nb : Bool) (hnb : decide (t = 0) = nb) (b1 b2 : Nat) (w : World) (k1 : Blk w b1 3 #[.int .i64 n]) (k2 : Blk w b2 4 #[.bool (!nb)]) :
    Calls Try.prog 39 #[.int .i64 n, .agg #[.int .u64 t], .int .i64 0, .pointer (some ⟨b1, 0, none⟩), .pointer (some ⟨b2, 0, none⟩)] w (fun e w' => e = .returned (.bool true) ∧ Lat w w') := by
  have HI : ∀ w, (Op.equalIn 10000 24 (.agg #[.int .u64 t]) (.agg #[.int .u64 0])).run Try.prog w = .ok nb w := fun w => by rw [← hnb]; exact chance_in ht (by decide) w
  clear hnb ht
  go_enter Try.func39, Try.ntmps39
  go_upto_region 1 with (fail)
  refine name1 (Q := fun W => Code.wp _ _ _ _ W) ?_
  intro W hl hs k6
  have R1 : ∀ w', Lat W w' → w'.cell? ⟨b1, 0, none⟩ = some (.int .i64 n) := fun w' h => ((k1.later hl).later h).cell 0
  have R2 : ∀ w', Lat W w' → w'.cell? ⟨b2, 0, none⟩ = some (.bool (!nb)) := fun w' h => ((k2.later hl).later h).cell 0
  have R6 : ∀ w', Lat W w' → w'.cell? ⟨w.heap.size, 0, none⟩ = some (.int .u64 t) := fun w' h => (k6.later h).cell 0
  have L0 := Lat.drew W
  refine wp_region_held_drew (S := fun w' => Lat W w') (by kernel_rfl) L0 (fun hHeld => ?_)
  generalize W.drew = V0 at L0 hHeld ⊢
  refine wpAnyH_take (i := 0) (v := .int .i64 n) rfl (by kernel_rfl) (by kernel_rfl) (by kernel_rfl) (fun _ _ _ h => h) (Or.inl ⟨by rfl, by intro w' hS; go_simp⟩) hHeld ?_
  simp only [Act.put, List.getElem_toArray, List.getElem_cons_succ, List.getElem_cons_zero, List.setIfInBounds_toArray, List.set_cons_zero, List.set_cons_succ]
  refine wpAnyH_take (i := 1) (v := .int .i64 n) rfl (by kernel_rfl) (by kernel_rfl) (by kernel_rfl) (fun _ _ _ h => h) (Or.inl ⟨by rfl, by intro w' hS; have hc := R1 w' hS; go_simp⟩) hHeld ?_
  simp only [Act.put, List.getElem_toArray, List.getElem_cons_succ, List.getElem_cons_zero, List.setIfInBounds_toArray, List.set_cons_zero, List.set_cons_succ]
  refine wpAnyH_take (i := 2) (v := .bool true) rfl (by kernel_rfl) (by kernel_rfl) (by kernel_rfl) (fun _ _ _ h => h) (Or.inl ⟨by rfl, by intro w' hS; go_simp⟩) hHeld ?_
  simp only [Act.put, List.getElem_toArray, List.getElem_cons_succ, List.getElem_cons_zero, List.setIfInBounds_toArray, List.set_cons_zero, List.set_cons_succ]
  refine wpAnyH_take (i := 3) (v := .bool true) rfl (by kernel_rfl) (by kernel_rfl) (by kernel_rfl) (fun _ _ _ h => h) (Or.inl ⟨by rfl, by intro w' hS; go_simp⟩) hHeld ?_
  simp only [Act.put, List.getElem_toArray, List.getElem_cons_succ, List.getElem_cons_zero, List.setIfInBounds_toArray, List.set_cons_zero, List.set_cons_succ]
  refine wpAnyH_take (i := 4) (v := .agg #[.int .u64 t]) rfl (by kernel_rfl) (by kernel_rfl) (by kernel_rfl) (fun _ _ _ h => h) (Or.inl ⟨by rfl, by intro w' hS; have hc := R6 w' hS; go_simp⟩) hHeld ?_
  simp only [Act.put, List.getElem_toArray, List.getElem_cons_succ, List.getElem_cons_zero, List.setIfInBounds_toArray, List.set_cons_zero, List.set_cons_succ]
  refine wpAnyH_take (i := 5) (v := .agg #[.int .u64 0]) rfl (by kernel_rfl) (by kernel_rfl) (by kernel_rfl) (fun _ _ _ h => h) (Or.inl ⟨by rfl, by intro w' hS; go_simp⟩) hHeld ?_
  simp only [Act.put, List.getElem_toArray, List.getElem_cons_succ, List.getElem_cons_zero, List.setIfInBounds_toArray, List.set_cons_zero, List.set_cons_succ]
  refine wpAnyH_take (i := 6) (v := .bool (!nb)) rfl (by kernel_rfl) (by kernel_rfl) (by kernel_rfl) (fun _ _ _ h => h) (Or.inl ⟨by rfl, by intro w' hS; have hc := HI w'; go_simp⟩) hHeld ?_
  simp only [Act.put, List.getElem_toArray, List.getElem_cons_succ, List.getElem_cons_zero, List.setIfInBounds_toArray, List.set_cons_zero, List.set_cons_succ]
  refine wpAnyH_take (i := 7) (v := .bool (!nb)) rfl (by kernel_rfl) (by kernel_rfl) (by kernel_rfl) (fun _ _ _ h => h) (Or.inl ⟨by rfl, by intro w' hS; have hc := R2 w' hS; go_simp⟩) hHeld ?_
  simp only [Act.put, List.getElem_toArray, List.getElem_cons_succ, List.getElem_cons_zero, List.setIfInBounds_toArray, List.set_cons_zero, List.set_cons_succ]
  refine wpAnyH_take (i := 8) (v := .bool true) rfl (by kernel_rfl) (by kernel_rfl) (by kernel_rfl) (fun _ _ _ h => h) (Or.inl ⟨by rfl, by intro w' hS; cases nb <;> go_simp⟩) hHeld ?_
  simp only [Act.put, List.getElem_toArray, List.getElem_cons_succ, List.getElem_cons_zero, List.setIfInBounds_toArray, List.set_cons_zero, List.set_cons_succ]
  refine wpAnyH_take (i := 9) (v := .bool true) rfl (by kernel_rfl) (by kernel_rfl) (by kernel_rfl) (fun _ _ _ h => h) (Or.inl ⟨by rfl, by intro w' hS; go_simp⟩) hHeld ?_
  simp only [Act.put, List.getElem_toArray, List.getElem_cons_succ, List.getElem_cons_zero, List.setIfInBounds_toArray, List.set_cons_zero, List.set_cons_succ]
  refine wpAnyH_take (i := 10) (v := .bool true) rfl (by kernel_rfl) (by kernel_rfl) (by kernel_rfl) (fun _ _ _ h => h) (Or.inl ⟨by rfl, by intro w' hS; go_simp⟩) hHeld ?_
  simp only [Act.put, List.getElem_toArray, List.getElem_cons_succ, List.getElem_cons_zero, List.setIfInBounds_toArray, List.set_cons_zero, List.set_cons_succ]
  refine wpAnyH_take (i := 11) (v := .int .i64 0) rfl (by kernel_rfl) (by kernel_rfl) (by kernel_rfl) (fun _ _ _ h => h) (Or.inl ⟨by rfl, by intro w' hS; go_simp⟩) hHeld ?_
  simp only [Act.put, List.getElem_toArray, List.getElem_cons_succ, List.getElem_cons_zero, List.setIfInBounds_toArray, List.set_cons_zero, List.set_cons_succ]
  refine wpAnyH_take (i := 12) (v := .bool true) rfl (by kernel_rfl) (by kernel_rfl) (by kernel_rfl) (fun _ _ _ h => h) (Or.inl ⟨by rfl, by intro w' hS; go_simp⟩) hHeld ?_
  simp only [Act.put, List.getElem_toArray, List.getElem_cons_succ, List.getElem_cons_zero, List.setIfInBounds_toArray, List.set_cons_zero, List.set_cons_succ]
  refine wpAnyH_take (i := 13) (v := .bool true) rfl (by kernel_rfl) (by kernel_rfl) (by kernel_rfl) (fun _ _ _ h => h) (Or.inl ⟨by rfl, by intro w' hS; go_simp⟩) hHeld ?_
  simp only [Act.put, List.getElem_toArray, List.getElem_cons_succ, List.getElem_cons_zero, List.setIfInBounds_toArray, List.set_cons_zero, List.set_cons_succ]
  refine wpAnyH_take (i := 14) (v := .bool true) rfl (by kernel_rfl) (by kernel_rfl) (by kernel_rfl) (fun _ _ _ h => h) (Or.inl ⟨by rfl, by intro w' hS; go_simp⟩) hHeld ?_
  simp only [Act.put, List.getElem_toArray, List.getElem_cons_succ, List.getElem_cons_zero, List.setIfInBounds_toArray, List.set_cons_zero, List.set_cons_succ]
  refine wpAnyH_done (by kernel_rfl) ?_ _
  go_wp2
  go_ret
  exact ⟨rfl, hl.trans L0⟩
  
theorem qPost_any (w : World) : Calls Try.prog 24 #[.int .i64 1, .int .i64 2] w (fun e w' => ∃ u v : W8, e = .returned (.agg #[.int .u64 u.a0, .int .u64 u.a1, .int .u64 u.a2, .int .u64 u.a3, .int .u64 u.a4, .int .u64 u.a5, .int .u64 u.a6, .int .u64 u.a7, .int .u64 v.a0, .int .u64 v.a1, .int .u64 v.a2, .int .u64 v.a3, .int .u64 v.a4, .int .u64 v.a5, .int .u64 v.a6, .int .u64 v.a7]) ∧ u.ok ∧ v.ok ∧ u.toInt = 1 ∧ v.toInt = 2 ∧ Lat w w') := by
  have hO := shOf_ok 1 2 (by decide) (by decide) (by decide) (by decide) (by decide)
  go_enter Try.func24, Try.ntmps24
  go_wp2_with fail
  refine name1 (Q := fun W => Calls _ _ _ W _) ?_
  intro W hl hs k4
  refine (hO W).mono ?_
  rintro e w1 ⟨u, v, r, rfl, hq, l1⟩
  have hq1 : u = W8.of 1 ∧ v = W8.of 2 := by
    have e1 : lowN 1 2 = 1 := by decide
    have e2 : lowD 1 2 = 2 := by decide
    rw [e1, e2] at hq
    have hp := P511_pos
    have h2 : (2 : Int) < P511 := by decide
    rcases hq with ⟨_, _, _, _, h, h', _⟩ | ⟨h, _⟩
    · exact ⟨h, h'⟩
    · omega
  have K4 := k4.later l1
  have L1 := hl.trans l1
  have hs1 : w.heap.size < w1.heap.size := by have := l1.size; omega
  have HQ := Lib.hid hq1
  clear hq hO k4 hl l1 hs hq1
  go_upto_region 2 with (fail)
  refine name1 (Q := fun W => Code.wp _ _ _ _ W) ?_
  intro U1 m1 hsu k5
  have K5 := K4.later m1
  have M1 := L1.trans m1
  go_wp2_with (first
    | (refine wpList_get rfl 55 (.tmp 5) (by rfl) w1.heap.size (by rfl) k5 _ Try.underlying55 rfl (by kernel_rfl) ?_)
    | (refine wpList_put rfl 55 (.tmp 4) (.tmp 13) (by rfl) (by rfl) w.heap.size (by rfl) #[.int .u64 u.a0, .int .u64 u.a1, .int .u64 u.a2, .int .u64 u.a3, .int .u64 u.a4, .int .u64 u.a5, .int .u64 u.a6, .int .u64 u.a7, .int .u64 v.a0, .int .u64 v.a1, .int .u64 v.a2, .int .u64 v.a3, .int .u64 v.a4, .int .u64 v.a5, .int .u64 v.a6, .int .u64 v.a7] (by rfl) K5 (by rfl) (by kernel_rfl) (by simp [Value.oneCell']) ?_; intro U2 hp2; have M2 := hp2.lat w M1 (Nat.le_refl _); have K6 := hp2.blk))
  have e0 := K6.cell 0
  have e1 := K6.cell 1
  have e2 := K6.cell 2
  have e3 := K6.cell 3
  have e4 := K6.cell 4
  have e5 := K6.cell 5
  have e6 := K6.cell 6
  have e7 := K6.cell 7
  have e8 := K6.cell 8
  have e9 := K6.cell 9
  have e10 := K6.cell 10
  have e11 := K6.cell 11
  have e12 := K6.cell 12
  have e13 := K6.cell 13
  have e14 := K6.cell 14
  have e15 := K6.cell 15
  refine bodyPost_ret (v := .agg #[.int .u64 u.a0, .int .u64 u.a1, .int .u64 u.a2, .int .u64 u.a3, .int .u64 u.a4, .int .u64 u.a5, .int .u64 u.a6, .int .u64 u.a7, .int .u64 v.a0, .int .u64 v.a1, .int .u64 v.a2, .int .u64 v.a3, .int .u64 v.a4, .int .u64 v.a5, .int .u64 v.a6, .int .u64 v.a7]) (by simp [results, Try.results24, go_sem, e0, e1, e2, e3, e4, e5, e6, e7, e8, e9, e10, e11, e12, e13, e14, e15]) rfl ?_
  obtain ⟨rfl, rfl⟩ := HQ.out
  exact ⟨_, _, rfl, W8.of_ok _, W8.of_ok _, W8.of_toInt (by decide) (by decide), W8.of_toInt (by decide) (by decide), M2⟩
end Go.Proofs.Ytogkkhaepfablaa

