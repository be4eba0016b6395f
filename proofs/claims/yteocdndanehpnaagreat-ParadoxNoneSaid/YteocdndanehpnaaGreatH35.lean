/- Several texts in one: QuH. -/
import Derived.Test.YteocdndanehpnaaGreatH33
import Derived.Test.YteocdndanehpnaaGreatH20
import Derived.Test.YteocdndanehpnaaGreatH27
import Derived.Laws.EntriesVeiled
namespace Go.Proofs.YteocdndanehpnaaGreat
open Go.RowKit
set_option linter.unusedSimpArgs false
set_option linter.unusedVariables false
theorem dr_nums {P s : Int} (hP : 0 ≤ P) (hP1 : P ≤ 70000000000) (hs : 1 ≤ s) (hs1 : s ≤ 1000) : ¬ s + 1 = 0 ∧ Int.tdiv P (s + 1) = P / (s + 1) ∧ wrap64 (P / (s + 1)) = P / (s + 1) ∧ IntKind.i64.wrap (P / (s + 1)) = P / (s + 1) ∧
  wrap64 (P / (s + 1) + 1) = P / (s + 1) + 1 ∧ IntKind.i64.wrap (P / (s + 1) + 1) = P / (s + 1) + 1 ∧ 0 ≤ P / (s + 1) ∧ P / (s + 1) ≤ 70000000000 := by
 have h1 := Int.ediv_nonneg hP (show 0 ≤ s + 1 by omega)
 have h2 := Int.ediv_le_self (s + 1) hP
 refine ⟨by omega, Int.tdiv_eq_ediv_of_nonneg hP, IntWalk.wrap64_in _ (by omega), IntWalk.i64_in _ (by omega), IntWalk.wrap64_in _ (by omega), IntWalk.i64_in _ (by omega), h1, by omega⟩
set_option maxRecDepth 100000 in
set_option maxHeartbeats 1000000 in
theorem h_hare (P s : Int) (hP : 0 ≤ P) (hP1 : P ≤ 70000000000) (hs : 1 ≤ s) (hs1 : s ≤ 1000) (w : World) : Calls Tryz.prog 85 #[.agg #[.int .i64 P, .int .i64 s]] w (fun e w' => e = .returned (.tuple #[.int .i64 P, .int .i64 s]) ∧ Lat w w') := by
 go_enter Tryz.func85, Tryz.ntmps85
 go_upto_region 1 with (fail)
 refine name1 (Q := fun W => Code.wp _ _ _ _ W) ?_
 intro W hl hsz k1
 have c0 := k1.ever (i := 0) rfl
 have c1 := k1.ever (i := 1) rfl
 have c2 := k1.cell 0
 have c3 := k1.cell 1
 have L0 := Lat.drew W
 go_region
 go_wp2
 go_ret2
 first | exact ⟨rfl, Lat.alloc _ _⟩ | exact ⟨rfl, hl.trans L0⟩ | exact ⟨rfl, hl⟩
set_option maxRecDepth 100000 in
set_option maxHeartbeats 1000000 in
theorem h_droop (P s : Int) (hP : 0 ≤ P) (hP1 : P ≤ 70000000000) (hs : 1 ≤ s) (hs1 : s ≤ 1000) (w : World) : Calls Tryz.prog 86 #[.agg #[.int .i64 P, .int .i64 s]] w (fun e w' => e = .returned (.tuple #[.int .i64 (P / (s + 1) + 1), .int .i64 1]) ∧ Lat w w') := by
 obtain ⟨a1, a2, a3, a4, a5, a6, _, _⟩ := dr_nums hP hP1 hs hs1
 go_enter Tryz.func86, Tryz.ntmps86
 go_wp2
 go_ret2
 first | exact ⟨rfl, Lat.alloc _ _⟩ | exact ⟨rfl, hl.trans L0⟩ | exact ⟨rfl, hl⟩
set_option maxRecDepth 100000 in
set_option maxHeartbeats 1000000 in
theorem h_hagenbach (P s : Int) (hP : 0 ≤ P) (hP1 : P ≤ 70000000000) (hs : 1 ≤ s) (hs1 : s ≤ 1000) (w : World) : Calls Tryz.prog 87 #[.agg #[.int .i64 P, .int .i64 s]] w (fun e w' => e = .returned (.tuple #[.int .i64 P, .int .i64 (s + 1)]) ∧ Lat w w') := by
 go_enter Tryz.func87, Tryz.ntmps87
 go_upto_region 1 with (fail)
 refine name1 (Q := fun W => Code.wp _ _ _ _ W) ?_
 intro W hl hsz k1
 have c0 := k1.ever (i := 0) rfl
 have c1 := k1.ever (i := 1) rfl
 have c2 := k1.cell 0
 have c3 := k1.cell 1
 have L0 := Lat.drew W
 go_region
 go_wp2
 go_ret2
 first | exact ⟨rfl, Lat.alloc _ _⟩ | exact ⟨rfl, hl.trans L0⟩ | exact ⟨rfl, hl⟩
set_option maxRecDepth 100000 in
set_option maxHeartbeats 1000000 in
theorem h_imperiali (P s : Int) (hP : 0 ≤ P) (hP1 : P ≤ 70000000000) (hs : 1 ≤ s) (hs1 : s ≤ 1000) (w : World) : Calls Tryz.prog 88 #[.agg #[.int .i64 P, .int .i64 s]] w (fun e w' => e = .returned (.tuple #[.int .i64 P, .int .i64 (s + 2)]) ∧ Lat w w') := by
 go_enter Tryz.func88, Tryz.ntmps88
 go_upto_region 1 with (fail)
 refine name1 (Q := fun W => Code.wp _ _ _ _ W) ?_
 intro W hl hsz k1
 have c0 := k1.ever (i := 0) rfl
 have c1 := k1.ever (i := 1) rfl
 have c2 := k1.cell 0
 have c3 := k1.cell 1
 have L0 := Lat.drew W
 go_region
 go_wp2
 go_ret2
 first | exact ⟨rfl, Lat.alloc _ _⟩ | exact ⟨rfl, hl.trans L0⟩ | exact ⟨rfl, hl⟩
theorem qnd_range {k P s : Int} (hP : 0 < P) (hP1 : P ≤ 70000000000) (hs : 1 ≤ s) (hs1 : s ≤ 1000) : 1 ≤ quoN k P s ∧ quoN k P s ≤ 70000000001 ∧ 1 ≤ quoD k s ∧ quoD k s ≤ 1002 := by
 obtain ⟨_, _, _, _, _, _, h1, h2⟩ := dr_nums (show 0 ≤ P by omega) hP1 hs hs1
 unfold quoN quoD
 refine ⟨?_, ?_, ?_, ?_⟩ <;> repeat (first | omega | split)
set_option maxRecDepth 100000 in
set_option maxHeartbeats 4000000 in
theorem hQuo_hare (P s : Int) (hP : 0 < P) (hP1 : P ≤ 70000000000) (hs : 1 ≤ s) (hs1 : s ≤ 1000) (w : World) : Calls Tryz.prog 60 #[.agg #[.int .i64 P, .int .i64 s], .int .i64 1] w (ShR w (shA (quoN 1 P s) (quoD 1 s)) 0) := by
 obtain ⟨r1, r2, r3, r4⟩ := qnd_range (k := 1) hP hP1 hs hs1
 have HQ : ∀ w, Calls Tryz.prog 85 #[.agg #[.int .i64 P, .int .i64 s]] w (fun e w' => e = .returned (.tuple #[.int .i64 (quoN 1 P s), .int .i64 (quoD 1 s)]) ∧ Lat w w') := by
  have en : quoN 1 P s = P := by unfold quoN; simp
  have ed : quoD 1 s = s := by unfold quoD; simp
  rw [en, ed]
  exact h_hare P s (by omega) hP1 hs hs1
 have HO := shOf_ok (quoN 1 P s) (quoD 1 s) (by omega) (by omega) (by omega) (by omega) (by omega)
 have HF : Hid (Fits (quoN 1 P s) (quoD 1 s)) := fits_small (by omega) (by omega) (by omega) (by omega)
 revert HQ HO HF
 generalize quoN 1 P s = N
 generalize quoD 1 s = D
 intro HQ HO HF
 clear r1 r2 r3 r4 hP hP1 hs hs1
 go_enter Tryz.func60, Tryz.ntmps60
 go_upto_region 2 with (fail)
 refine name3 (Q := fun W => Code.wp _ _ _ _ W) ?_
 intro W hl hs k1 k2 k3
 have hne1 : w.heap.size ∉ [w.heap.size + 1] := by simp
 have hne2 : w.heap.size + 1 + 1 ∉ [w.heap.size + 1] := by simp
 have a0 := k1.evS hne1 0 rfl
 have a1 := k1.evS hne1 1 rfl
 have d0 := k3.evS hne2 0 rfl
 have d1 := k3.evS hne2 1 rfl
 have d2 := k3.evS hne2 2 rfl
 have d3 := k3.evS hne2 3 rfl
 have d4 := k3.evS hne2 4 rfl
 have L0 := Lat.drew W
 have M0 := L0.s [w.heap.size + 1]
 go_region_held3 (fun w' => LatS W [w.heap.size + 1] w') (first | (with_reducible assumption) | ((iterate 16 (refine LatS.set ?_ (by simp) _)); with_reducible assumption))
  (first
    | (have _h := HQ; go_at_call 85; (with_reducible refine (HQ _).mono ?_); rintro e w2 ⟨rfl, q3⟩; have L2 := L0.trans q3; have M2 := L2.s [w.heap.size + 1]; clear HQ _h)
    | (have _h := HO; go_at_call 64; (with_reducible refine (HO _).mono ?_); rintro e w5 ⟨x, y, r, rfl, t1, t2⟩; have L5 := L2.trans t2; have M5 := L5.s [w.heap.size + 1]; have T1 := Lib.hid t1; clear t1 HO _h; have K5 := k2.later L5
       have e0 := K5.cell 0
       have e1 := K5.cell 1
       have e2 := K5.cell 2
       have e3 := K5.cell 3
       have e4 := K5.cell 4
       have e5 := K5.cell 5
       have e6 := K5.cell 6
       have e7 := K5.cell 7
       have e8 := K5.cell 8
       have e9 := K5.cell 9
       have e10 := K5.cell 10
       have e11 := K5.cell 11
       have e12 := K5.cell 12
       have e13 := K5.cell 13
       have e14 := K5.cell 14
       have e15 := K5.cell 15
       have f0 := K5.frozen 0
       have f1 := K5.frozen 1
       have f2 := K5.frozen 2
       have f3 := K5.frozen 3
       have f4 := K5.frozen 4
       have f5 := K5.frozen 5
       have f6 := K5.frozen 6
       have f7 := K5.frozen 7
       have f8 := K5.frozen 8
       have f9 := K5.frozen 9
       have f10 := K5.frozen 10
       have f11 := K5.frozen 11
       have f12 := K5.frozen 12
       have f13 := K5.frozen 13
       have f14 := K5.frozen 14
       have f15 := K5.frozen 15
       have _u := True.intro))
 go_wp2
 refine bodyPost_ret (v := .tuple #[.agg #[.int .u64 x.a0, .int .u64 x.a1, .int .u64 x.a2, .int .u64 x.a3, .int .u64 x.a4, .int .u64 x.a5, .int .u64 x.a6, .int .u64 x.a7, .int .u64 y.a0, .int .u64 y.a1, .int .u64 y.a2, .int .u64 y.a3, .int .u64 y.a4, .int .u64 y.a5, .int .u64 y.a6, .int .u64 y.a7], .int .i64 r]) (by simp [results, Tryz.results60, go_sem, e0, e1, e2, e3, e4, e5, e6, e7, e8, e9, e10, e11, e12, e13, e14, e15]) rfl ?_
 refine (SharePost.fits (w := w) ⟨x, y, r, rfl, T1.out, ?_⟩ HF.out).r
 iterate 16 (refine Lat.setCell ?_ (by simp; try omega) _)
 exact hl.trans L5
set_option maxRecDepth 100000 in
set_option maxHeartbeats 4000000 in
theorem hQuo_droop (P s : Int) (hP : 0 < P) (hP1 : P ≤ 70000000000) (hs : 1 ≤ s) (hs1 : s ≤ 1000) (w : World) : Calls Tryz.prog 60 #[.agg #[.int .i64 P, .int .i64 s], .int .i64 2] w (ShR w (shA (quoN 2 P s) (quoD 2 s)) 0) := by
 obtain ⟨r1, r2, r3, r4⟩ := qnd_range (k := 2) hP hP1 hs hs1
 have HQ : ∀ w, Calls Tryz.prog 86 #[.agg #[.int .i64 P, .int .i64 s]] w (fun e w' => e = .returned (.tuple #[.int .i64 (quoN 2 P s), .int .i64 (quoD 2 s)]) ∧ Lat w w') := by
  have en : quoN 2 P s = (P / (s + 1) + 1) := by unfold quoN; simp
  have ed : quoD 2 s = 1 := by unfold quoD; simp
  rw [en, ed]
  exact h_droop P s (by omega) hP1 hs hs1
 have HO := shOf_ok (quoN 2 P s) (quoD 2 s) (by omega) (by omega) (by omega) (by omega) (by omega)
 have HF : Hid (Fits (quoN 2 P s) (quoD 2 s)) := fits_small (by omega) (by omega) (by omega) (by omega)
 revert HQ HO HF
 generalize quoN 2 P s = N
 generalize quoD 2 s = D
 intro HQ HO HF
 clear r1 r2 r3 r4 hP hP1 hs hs1
 go_enter Tryz.func60, Tryz.ntmps60
 go_upto_region 2 with (fail)
 refine name3 (Q := fun W => Code.wp _ _ _ _ W) ?_
 intro W hl hs k1 k2 k3
 have hne1 : w.heap.size ∉ [w.heap.size + 1] := by simp
 have hne2 : w.heap.size + 1 + 1 ∉ [w.heap.size + 1] := by simp
 have a0 := k1.evS hne1 0 rfl
 have a1 := k1.evS hne1 1 rfl
 have d0 := k3.evS hne2 0 rfl
 have d1 := k3.evS hne2 1 rfl
 have d2 := k3.evS hne2 2 rfl
 have d3 := k3.evS hne2 3 rfl
 have d4 := k3.evS hne2 4 rfl
 have L0 := Lat.drew W
 have M0 := L0.s [w.heap.size + 1]
 go_region_held3 (fun w' => LatS W [w.heap.size + 1] w') (first | (with_reducible assumption) | ((iterate 16 (refine LatS.set ?_ (by simp) _)); with_reducible assumption))
  (first
    | (have _h := HQ; go_at_call 86; (with_reducible refine (HQ _).mono ?_); rintro e w2 ⟨rfl, q3⟩; have L2 := L0.trans q3; have M2 := L2.s [w.heap.size + 1]; clear HQ _h)
    | (have _h := HO; go_at_call 64; (with_reducible refine (HO _).mono ?_); rintro e w5 ⟨x, y, r, rfl, t1, t2⟩; have L5 := L2.trans t2; have M5 := L5.s [w.heap.size + 1]; have T1 := Lib.hid t1; clear t1 HO _h; have K5 := k2.later L5
       have e0 := K5.cell 0
       have e1 := K5.cell 1
       have e2 := K5.cell 2
       have e3 := K5.cell 3
       have e4 := K5.cell 4
       have e5 := K5.cell 5
       have e6 := K5.cell 6
       have e7 := K5.cell 7
       have e8 := K5.cell 8
       have e9 := K5.cell 9
       have e10 := K5.cell 10
       have e11 := K5.cell 11
       have e12 := K5.cell 12
       have e13 := K5.cell 13
       have e14 := K5.cell 14
       have e15 := K5.cell 15
       have f0 := K5.frozen 0
       have f1 := K5.frozen 1
       have f2 := K5.frozen 2
       have f3 := K5.frozen 3
       have f4 := K5.frozen 4
       have f5 := K5.frozen 5
       have f6 := K5.frozen 6
       have f7 := K5.frozen 7
       have f8 := K5.frozen 8
       have f9 := K5.frozen 9
       have f10 := K5.frozen 10
       have f11 := K5.frozen 11
       have f12 := K5.frozen 12
       have f13 := K5.frozen 13
       have f14 := K5.frozen 14
       have f15 := K5.frozen 15
       have _u := True.intro))
 go_wp2
 refine bodyPost_ret (v := .tuple #[.agg #[.int .u64 x.a0, .int .u64 x.a1, .int .u64 x.a2, .int .u64 x.a3, .int .u64 x.a4, .int .u64 x.a5, .int .u64 x.a6, .int .u64 x.a7, .int .u64 y.a0, .int .u64 y.a1, .int .u64 y.a2, .int .u64 y.a3, .int .u64 y.a4, .int .u64 y.a5, .int .u64 y.a6, .int .u64 y.a7], .int .i64 r]) (by simp [results, Tryz.results60, go_sem, e0, e1, e2, e3, e4, e5, e6, e7, e8, e9, e10, e11, e12, e13, e14, e15]) rfl ?_
 refine (SharePost.fits (w := w) ⟨x, y, r, rfl, T1.out, ?_⟩ HF.out).r
 iterate 16 (refine Lat.setCell ?_ (by simp; try omega) _)
 exact hl.trans L5
set_option maxRecDepth 100000 in
set_option maxHeartbeats 4000000 in
theorem hQuo_hagenbach (P s : Int) (hP : 0 < P) (hP1 : P ≤ 70000000000) (hs : 1 ≤ s) (hs1 : s ≤ 1000) (w : World) : Calls Tryz.prog 60 #[.agg #[.int .i64 P, .int .i64 s], .int .i64 3] w (ShR w (shA (quoN 3 P s) (quoD 3 s)) 0) := by
 obtain ⟨r1, r2, r3, r4⟩ := qnd_range (k := 3) hP hP1 hs hs1
 have HQ : ∀ w, Calls Tryz.prog 87 #[.agg #[.int .i64 P, .int .i64 s]] w (fun e w' => e = .returned (.tuple #[.int .i64 (quoN 3 P s), .int .i64 (quoD 3 s)]) ∧ Lat w w') := by
  have en : quoN 3 P s = P := by unfold quoN; simp
  have ed : quoD 3 s = (s + 1) := by unfold quoD; simp
  rw [en, ed]
  exact h_hagenbach P s (by omega) hP1 hs hs1
 have HO := shOf_ok (quoN 3 P s) (quoD 3 s) (by omega) (by omega) (by omega) (by omega) (by omega)
 have HF : Hid (Fits (quoN 3 P s) (quoD 3 s)) := fits_small (by omega) (by omega) (by omega) (by omega)
 revert HQ HO HF
 generalize quoN 3 P s = N
 generalize quoD 3 s = D
 intro HQ HO HF
 clear r1 r2 r3 r4 hP hP1 hs hs1
 go_enter Tryz.func60, Tryz.ntmps60
 go_upto_region 2 with (fail)
 refine name3 (Q := fun W => Code.wp _ _ _ _ W) ?_
 intro W hl hs k1 k2 k3
 have hne1 : w.heap.size ∉ [w.heap.size + 1] := by simp
 have hne2 : w.heap.size + 1 + 1 ∉ [w.heap.size + 1] := by simp
 have a0 := k1.evS hne1 0 rfl
 have a1 := k1.evS hne1 1 rfl
 have d0 := k3.evS hne2 0 rfl
 have d1 := k3.evS hne2 1 rfl
 have d2 := k3.evS hne2 2 rfl
 have d3 := k3.evS hne2 3 rfl
 have d4 := k3.evS hne2 4 rfl
 have L0 := Lat.drew W
 have M0 := L0.s [w.heap.size + 1]
 go_region_held3 (fun w' => LatS W [w.heap.size + 1] w') (first | (with_reducible assumption) | ((iterate 16 (refine LatS.set ?_ (by simp) _)); with_reducible assumption))
  (first
    | (have _h := HQ; go_at_call 87; (with_reducible refine (HQ _).mono ?_); rintro e w2 ⟨rfl, q3⟩; have L2 := L0.trans q3; have M2 := L2.s [w.heap.size + 1]; clear HQ _h)
    | (have _h := HO; go_at_call 64; (with_reducible refine (HO _).mono ?_); rintro e w5 ⟨x, y, r, rfl, t1, t2⟩; have L5 := L2.trans t2; have M5 := L5.s [w.heap.size + 1]; have T1 := Lib.hid t1; clear t1 HO _h; have K5 := k2.later L5
       have e0 := K5.cell 0
       have e1 := K5.cell 1
       have e2 := K5.cell 2
       have e3 := K5.cell 3
       have e4 := K5.cell 4
       have e5 := K5.cell 5
       have e6 := K5.cell 6
       have e7 := K5.cell 7
       have e8 := K5.cell 8
       have e9 := K5.cell 9
       have e10 := K5.cell 10
       have e11 := K5.cell 11
       have e12 := K5.cell 12
       have e13 := K5.cell 13
       have e14 := K5.cell 14
       have e15 := K5.cell 15
       have f0 := K5.frozen 0
       have f1 := K5.frozen 1
       have f2 := K5.frozen 2
       have f3 := K5.frozen 3
       have f4 := K5.frozen 4
       have f5 := K5.frozen 5
       have f6 := K5.frozen 6
       have f7 := K5.frozen 7
       have f8 := K5.frozen 8
       have f9 := K5.frozen 9
       have f10 := K5.frozen 10
       have f11 := K5.frozen 11
       have f12 := K5.frozen 12
       have f13 := K5.frozen 13
       have f14 := K5.frozen 14
       have f15 := K5.frozen 15
       have _u := True.intro))
 go_wp2
 refine bodyPost_ret (v := .tuple #[.agg #[.int .u64 x.a0, .int .u64 x.a1, .int .u64 x.a2, .int .u64 x.a3, .int .u64 x.a4, .int .u64 x.a5, .int .u64 x.a6, .int .u64 x.a7, .int .u64 y.a0, .int .u64 y.a1, .int .u64 y.a2, .int .u64 y.a3, .int .u64 y.a4, .int .u64 y.a5, .int .u64 y.a6, .int .u64 y.a7], .int .i64 r]) (by simp [results, Tryz.results60, go_sem, e0, e1, e2, e3, e4, e5, e6, e7, e8, e9, e10, e11, e12, e13, e14, e15]) rfl ?_
 refine (SharePost.fits (w := w) ⟨x, y, r, rfl, T1.out, ?_⟩ HF.out).r
 iterate 16 (refine Lat.setCell ?_ (by simp; try omega) _)
 exact hl.trans L5
set_option maxRecDepth 100000 in
set_option maxHeartbeats 4000000 in
theorem hQuo_imperiali (P s : Int) (hP : 0 < P) (hP1 : P ≤ 70000000000) (hs : 1 ≤ s) (hs1 : s ≤ 1000) (w : World) : Calls Tryz.prog 60 #[.agg #[.int .i64 P, .int .i64 s], .int .i64 4] w (ShR w (shA (quoN 4 P s) (quoD 4 s)) 0) := by
 obtain ⟨r1, r2, r3, r4⟩ := qnd_range (k := 4) hP hP1 hs hs1
 have HQ : ∀ w, Calls Tryz.prog 88 #[.agg #[.int .i64 P, .int .i64 s]] w (fun e w' => e = .returned (.tuple #[.int .i64 (quoN 4 P s), .int .i64 (quoD 4 s)]) ∧ Lat w w') := by
  have en : quoN 4 P s = P := by unfold quoN; simp
  have ed : quoD 4 s = (s + 2) := by unfold quoD; simp
  rw [en, ed]
  exact h_imperiali P s (by omega) hP1 hs hs1
 have HO := shOf_ok (quoN 4 P s) (quoD 4 s) (by omega) (by omega) (by omega) (by omega) (by omega)
 have HF : Hid (Fits (quoN 4 P s) (quoD 4 s)) := fits_small (by omega) (by omega) (by omega) (by omega)
 revert HQ HO HF
 generalize quoN 4 P s = N
 generalize quoD 4 s = D
 intro HQ HO HF
 clear r1 r2 r3 r4 hP hP1 hs hs1
 go_enter Tryz.func60, Tryz.ntmps60
 go_upto_region 2 with (fail)
 refine name3 (Q := fun W => Code.wp _ _ _ _ W) ?_
 intro W hl hs k1 k2 k3
 have hne1 : w.heap.size ∉ [w.heap.size + 1] := by simp
 have hne2 : w.heap.size + 1 + 1 ∉ [w.heap.size + 1] := by simp
 have a0 := k1.evS hne1 0 rfl
 have a1 := k1.evS hne1 1 rfl
 have d0 := k3.evS hne2 0 rfl
 have d1 := k3.evS hne2 1 rfl
 have d2 := k3.evS hne2 2 rfl
 have d3 := k3.evS hne2 3 rfl
 have d4 := k3.evS hne2 4 rfl
 have L0 := Lat.drew W
 have M0 := L0.s [w.heap.size + 1]
 go_region_held3 (fun w' => LatS W [w.heap.size + 1] w') (first | (with_reducible assumption) | ((iterate 16 (refine LatS.set ?_ (by simp) _)); with_reducible assumption))
  (first
    | (have _h := HQ; go_at_call 88; (with_reducible refine (HQ _).mono ?_); rintro e w2 ⟨rfl, q3⟩; have L2 := L0.trans q3; have M2 := L2.s [w.heap.size + 1]; clear HQ _h)
    | (have _h := HO; go_at_call 64; (with_reducible refine (HO _).mono ?_); rintro e w5 ⟨x, y, r, rfl, t1, t2⟩; have L5 := L2.trans t2; have M5 := L5.s [w.heap.size + 1]; have T1 := Lib.hid t1; clear t1 HO _h; have K5 := k2.later L5
       have e0 := K5.cell 0
       have e1 := K5.cell 1
       have e2 := K5.cell 2
       have e3 := K5.cell 3
       have e4 := K5.cell 4
       have e5 := K5.cell 5
       have e6 := K5.cell 6
       have e7 := K5.cell 7
       have e8 := K5.cell 8
       have e9 := K5.cell 9
       have e10 := K5.cell 10
       have e11 := K5.cell 11
       have e12 := K5.cell 12
       have e13 := K5.cell 13
       have e14 := K5.cell 14
       have e15 := K5.cell 15
       have f0 := K5.frozen 0
       have f1 := K5.frozen 1
       have f2 := K5.frozen 2
       have f3 := K5.frozen 3
       have f4 := K5.frozen 4
       have f5 := K5.frozen 5
       have f6 := K5.frozen 6
       have f7 := K5.frozen 7
       have f8 := K5.frozen 8
       have f9 := K5.frozen 9
       have f10 := K5.frozen 10
       have f11 := K5.frozen 11
       have f12 := K5.frozen 12
       have f13 := K5.frozen 13
       have f14 := K5.frozen 14
       have f15 := K5.frozen 15
       have _u := True.intro))
 go_wp2
 refine bodyPost_ret (v := .tuple #[.agg #[.int .u64 x.a0, .int .u64 x.a1, .int .u64 x.a2, .int .u64 x.a3, .int .u64 x.a4, .int .u64 x.a5, .int .u64 x.a6, .int .u64 x.a7, .int .u64 y.a0, .int .u64 y.a1, .int .u64 y.a2, .int .u64 y.a3, .int .u64 y.a4, .int .u64 y.a5, .int .u64 y.a6, .int .u64 y.a7], .int .i64 r]) (by simp [results, Tryz.results60, go_sem, e0, e1, e2, e3, e4, e5, e6, e7, e8, e9, e10, e11, e12, e13, e14, e15]) rfl ?_
 refine (SharePost.fits (w := w) ⟨x, y, r, rfl, T1.out, ?_⟩ HF.out).r
 iterate 16 (refine Lat.setCell ?_ (by simp; try omega) _)
 exact hl.trans L5
theorem hQuo_any (k P s : Int) (hk : 1 ≤ k) (hk4 : k ≤ 4) (hP : 0 < P) (hP1 : P ≤ 70000000000) (hs : 1 ≤ s) (hs1 : s ≤ 1000) (w : World) : Calls Tryz.prog 60 #[.agg #[.int .i64 P, .int .i64 s], .int .i64 k] w (ShR w (shA (quoN k P s) (quoD k s)) 0) := by
 have hm : k = 1 ∨ k = 2 ∨ k = 3 ∨ k = 4 := by omega
 rcases hm with rfl | rfl | rfl | rfl
 ·exact hQuo_hare P s hP hP1 hs hs1 w
 ·exact hQuo_droop P s hP hP1 hs hs1 w
 ·exact hQuo_hagenbach P s hP hP1 hs hs1 w
 ·exact hQuo_imperiali P s hP hP1 hs hs1 w
end Go.Proofs.YteocdndanehpnaaGreat
