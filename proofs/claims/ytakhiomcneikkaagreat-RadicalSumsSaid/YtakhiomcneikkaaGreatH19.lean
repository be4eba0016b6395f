/- Several texts in one: ShareB, ShareC, ShareD, RefT, RefV, RefW. -/
import Derived.Test.YtakhiomcneikkaaGreatH12
import Derived.Test.YtakhiomcneikkaaGreatH18
import Derived.Deep.DrawnRows
namespace Go.Proofs.YtakhiomcneikkaaGreat
open Go.RowKit
def ShareIs (N D : Int) (u v : W8) (r : Int) : Prop :=
 (-P511 ≤ N ∧ N < P511 ∧ -P511 ≤ D ∧ D < P511 ∧ u = W8.of N ∧ v = W8.of D ∧ r = 0) ∨ ((N < -P511 ∨ P511 ≤ N ∨ D < -P511 ∨ P511 ≤ D) ∧ u = W8.zero ∧ v = W8.zero ∧ r = 6)
def SharePost (w : World) (N D : Int) (e : Ending) (w' : World) : Prop :=
 ∃ (u v : W8) (r : Int), e = .returned (.tuple #[.agg #[.int .u64 u.a0, .int .u64 u.a1, .int .u64 u.a2, .int .u64 u.a3, .int .u64 u.a4, .int .u64 u.a5, .int .u64 u.a6, .int .u64 u.a7, .int .u64 v.a0, .int .u64 v.a1, .int .u64 v.a2, .int .u64 v.a3, .int .u64 v.a4, .int .u64 v.a5, .int .u64 v.a6, .int .u64 v.a7], .int .i64 r]) ∧ ShareIs N D u v r ∧ Lat w w'
theorem sharePost_ok {w w' : World} {N D : Int} {u v : W8} (h1 : -P511 ≤ N ∧ N < P511 ∧ u = W8.of N) (h2 : -P511 ≤ D ∧ D < P511 ∧ v = W8.of D) (hl : Lat w w') : SharePost w N D (.returned (.tuple #[.agg #[.int .u64 u.a0, .int .u64 u.a1, .int .u64 u.a2, .int .u64 u.a3, .int .u64 u.a4, .int .u64 u.a5, .int .u64 u.a6, .int .u64 u.a7, .int .u64 v.a0, .int .u64 v.a1, .int .u64 v.a2, .int .u64 v.a3, .int .u64 v.a4, .int .u64 v.a5, .int .u64 v.a6, .int .u64 v.a7], .int .i64 0])) w' :=
 ⟨u, v, 0, rfl, .inl ⟨h1.1, h1.2.1, h2.1, h2.2.1, h1.2.2, h2.2.2, rfl⟩, hl⟩
theorem sharePost_big {w w' : World} {N D : Int} (h : N < -P511 ∨ P511 ≤ N ∨ D < -P511 ∨ P511 ≤ D) (hl : Lat w w') : SharePost w N D (.returned (.tuple #[.agg #[.int .u64 W8.zero.a0, .int .u64 W8.zero.a1, .int .u64 W8.zero.a2, .int .u64 W8.zero.a3, .int .u64 W8.zero.a4, .int .u64 W8.zero.a5, .int .u64 W8.zero.a6, .int .u64 W8.zero.a7, .int .u64 W8.zero.a0, .int .u64 W8.zero.a1, .int .u64 W8.zero.a2, .int .u64 W8.zero.a3, .int .u64 W8.zero.a4, .int .u64 W8.zero.a5, .int .u64 W8.zero.a6, .int .u64 W8.zero.a7], .int .i64 6])) w' :=
 ⟨W8.zero, W8.zero, 6, rfl, .inr ⟨h, rfl, rfl, rfl⟩, hl⟩
set_option maxRecDepth 100000 in
set_option maxHeartbeats 4000000 in
theorem ratTold_any (b1 : Bool) (A1 : Option Addr) (n1 c1 : Nat) (x : Int) (b2 : Bool) (A2 : Option Addr) (n2 c2 : Nat) (y : Int) (w : World) (h1 : Lg w b1 A1 n1 c1 x) (h2 : Lg w b2 A2 n2 c2 y) (hn : n1 ≤ 1000000) (hm : n2 ≤ 1000000) :
  Calls Tryz.prog 58 #[.agg #[.bool b1, .slice A1 n1 c1, .bool b2, .slice A2 n2 c2]] w (SharePost w x y) := by
 have H1 := Lib.hid h1
 have H2 := Lib.hid h2
 clear h1 h2
 go_enter Tryz.func58, Tryz.ntmps58
 go_wp2_with fail
 refine name2 (Q := fun W => Calls _ _ _ W _) ?_
 intro W hl hs k1 k2
 refine (longTold_any b1 A1 n1 c1 x W (H1.out.later hl) hn).mono ?_
 rintro e w1 ⟨u, r, rfl, u1, u2⟩
 have LA := hl.trans u2
 have B1 := k1.later u2
 have B2 := k2.later u2
 have U1 := Lib.hid u1
 have hs1 := u2.size
 clear k1 k2 u1 u2 hl
 have c0 := B1.ever (i := 2) rfl
 have c1' := B1.ever (i := 3) rfl
 have L1 := Lat.alloc w1 (.cells #[.int .u64 u.a0, .int .u64 u.a1, .int .u64 u.a2, .int .u64 u.a3, .int .u64 u.a4, .int .u64 u.a5, .int .u64 u.a6, .int .u64 u.a7] 55)
 go_wp2_with fail
 refine name1 (Q := fun W => Calls _ _ _ W _) ?_
 intro W2 hl2 hs2 k3
 refine (longTold_any b2 A2 n2 c2 y W2 (H2.out.later (LA.trans hl2)) hm).mono ?_
 rintro e w2 ⟨v, s, rfl, v1, v2⟩
 have LB := (LA.trans hl2).trans v2
 have E2 := (B2.later hl2).later v2
 have E3 := k3.later v2
 have V1 := Lib.hid v1
 have hs3 := v2.size
 clear c0 c1' L1 B1 B2 k3 v1 v2 hl2 LA
 have L2 := Lat.alloc w2 (.cells #[.int .u64 v.a0, .int .u64 v.a1, .int .u64 v.a2, .int .u64 v.a3, .int .u64 v.a4, .int .u64 v.a5, .int .u64 v.a6, .int .u64 v.a7] 55)
 have f0 := E2.free 0
 have f1 := E2.free 1
 have f2 := E2.free 2
 have f3 := E2.free 3
 have f4 := E2.free 4
 have f5 := E2.free 5
 have f6 := E2.free 6
 have f7 := E2.free 7
 have f8 := E2.free 8
 have f9 := E2.free 9
 have f10 := E2.free 10
 have f11 := E2.free 11
 have f12 := E2.free 12
 have f13 := E2.free 13
 have f14 := E2.free 14
 have f15 := E2.free 15
 have e0 := E2.ever (i := 0) rfl
 have e1 := E2.ever (i := 1) rfl
 have e2 := E2.ever (i := 2) rfl
 have e3 := E2.ever (i := 3) rfl
 have e4 := E2.ever (i := 4) rfl
 have e5 := E2.ever (i := 5) rfl
 have e6 := E2.ever (i := 6) rfl
 have e7 := E2.ever (i := 7) rfl
 have e8 := E2.ever (i := 8) rfl
 have e9 := E2.ever (i := 9) rfl
 have e10 := E2.ever (i := 10) rfl
 have e11 := E2.ever (i := 11) rfl
 have e12 := E2.ever (i := 12) rfl
 have e13 := E2.ever (i := 13) rfl
 have e14 := E2.ever (i := 14) rfl
 have e15 := E2.ever (i := 15) rfl
 have d0 := E3.ever (i := 0) rfl
 have d1 := E3.ever (i := 1) rfl
 have d2 := E3.ever (i := 2) rfl
 have d3 := E3.ever (i := 3) rfl
 have d4 := E3.ever (i := 4) rfl
 have d5 := E3.ever (i := 5) rfl
 have d6 := E3.ever (i := 6) rfl
 have d7 := E3.ever (i := 7) rfl
 rcases U1.out with ⟨a1, a2, a3, a4⟩ | ⟨a1, a3, a4⟩
 all_goals
  rcases V1.out with ⟨z1, z2, z3, z4⟩ | ⟨z1, z3, z4⟩
  all_goals
   clear U1 V1
   subst a4
   subst z4
   have A3 := Lib.hid a3
   have Z3 := Lib.hid z3
   clear a3 z3
   go_wp2
 ·refine bodyPost_ret (v := .tuple #[.agg #[.int .u64 u.a0, .int .u64 u.a1, .int .u64 u.a2, .int .u64 u.a3, .int .u64 u.a4, .int .u64 u.a5, .int .u64 u.a6, .int .u64 u.a7, .int .u64 v.a0, .int .u64 v.a1, .int .u64 v.a2, .int .u64 v.a3, .int .u64 v.a4, .int .u64 v.a5, .int .u64 v.a6, .int .u64 v.a7], .int .i64 0]) (by simp [results, Tryz.results58, go_sem, L2, e0, e1, e2, e3, e4, e5, e6, e7, e8, e9, e10, e11, e12, e13, e14, e15]) rfl ?_
  refine sharePost_ok ⟨a1, a2, A3.out⟩ ⟨z1, z2, Z3.out⟩ ?_
  iterate 16 (refine Lat.setCell ?_ (by simp; try omega) _)
  exact LB.trans L2
 ·refine bodyPost_ret (v := .tuple #[.agg #[.int .u64 W8.zero.a0, .int .u64 W8.zero.a1, .int .u64 W8.zero.a2, .int .u64 W8.zero.a3, .int .u64 W8.zero.a4, .int .u64 W8.zero.a5, .int .u64 W8.zero.a6, .int .u64 W8.zero.a7, .int .u64 W8.zero.a0, .int .u64 W8.zero.a1, .int .u64 W8.zero.a2, .int .u64 W8.zero.a3, .int .u64 W8.zero.a4, .int .u64 W8.zero.a5, .int .u64 W8.zero.a6, .int .u64 W8.zero.a7], .int .i64 6]) (by simp [results, Tryz.results58, go_sem, L2, e0, e1, e2, e3, e4, e5, e6, e7, e8, e9, e10, e11, e12, e13, e14, e15, W8.zero]) rfl ?_
  refine sharePost_big (by omega) ?_
  iterate 16 (refine Lat.setCell ?_ (by simp; try omega) _)
  exact LB.trans L2
 ·refine bodyPost_ret (v := .tuple #[.agg #[.int .u64 W8.zero.a0, .int .u64 W8.zero.a1, .int .u64 W8.zero.a2, .int .u64 W8.zero.a3, .int .u64 W8.zero.a4, .int .u64 W8.zero.a5, .int .u64 W8.zero.a6, .int .u64 W8.zero.a7, .int .u64 W8.zero.a0, .int .u64 W8.zero.a1, .int .u64 W8.zero.a2, .int .u64 W8.zero.a3, .int .u64 W8.zero.a4, .int .u64 W8.zero.a5, .int .u64 W8.zero.a6, .int .u64 W8.zero.a7], .int .i64 6]) (by simp [results, Tryz.results58, go_sem, L2, e0, e1, e2, e3, e4, e5, e6, e7, e8, e9, e10, e11, e12, e13, e14, e15, W8.zero]) rfl ?_
  refine sharePost_big (by omega) ?_
  iterate 16 (refine Lat.setCell ?_ (by simp; try omega) _)
  exact LB.trans L2
 ·refine bodyPost_ret (v := .tuple #[.agg #[.int .u64 W8.zero.a0, .int .u64 W8.zero.a1, .int .u64 W8.zero.a2, .int .u64 W8.zero.a3, .int .u64 W8.zero.a4, .int .u64 W8.zero.a5, .int .u64 W8.zero.a6, .int .u64 W8.zero.a7, .int .u64 W8.zero.a0, .int .u64 W8.zero.a1, .int .u64 W8.zero.a2, .int .u64 W8.zero.a3, .int .u64 W8.zero.a4, .int .u64 W8.zero.a5, .int .u64 W8.zero.a6, .int .u64 W8.zero.a7], .int .i64 6]) (by simp [results, Tryz.results58, go_sem, L2, e0, e1, e2, e3, e4, e5, e6, e7, e8, e9, e10, e11, e12, e13, e14, e15, W8.zero]) rfl ?_
  refine sharePost_big (by omega) ?_
  iterate 16 (refine Lat.setCell ?_ (by simp; try omega) _)
  exact LB.trans L2
set_option maxRecDepth 100000 in
set_option maxHeartbeats 4000000 in
theorem ratRead_any (u v : W8) (hu : u.ok) (hv : v.ok) (w : World) :
  Calls Tryz.prog 61 #[.agg #[.int .u64 u.a0, .int .u64 u.a1, .int .u64 u.a2, .int .u64 u.a3, .int .u64 u.a4, .int .u64 u.a5, .int .u64 u.a6, .int .u64 u.a7, .int .u64 v.a0, .int .u64 v.a1, .int .u64 v.a2, .int .u64 v.a3, .int .u64 v.a4, .int .u64 v.a5, .int .u64 v.a6, .int .u64 v.a7]] w (RatPost w u.toInt v.toInt 8) := by
 go_enter Tryz.func61, Tryz.ntmps61
 go_wp2
 refine name2 (Q := fun W => Code.wp _ _ _ _ W) ?_
 intro W hl hs k1 k2
 have HX : ∀ w1, Lat W w1 → Calls Tryz.prog 71 #[.agg #[.int .u64 u.a0, .int .u64 u.a1, .int .u64 u.a2, .int .u64 u.a3, .int .u64 u.a4, .int .u64 u.a5, .int .u64 u.a6, .int .u64 u.a7]] w1 (LongPost w1 u.toInt 8) := fun w1 _ => longer_any u hu w1
 have HY : ∀ w1, Lat W w1 → Calls Tryz.prog 71 #[.agg #[.int .u64 v.a0, .int .u64 v.a1, .int .u64 v.a2, .int .u64 v.a3, .int .u64 v.a4, .int .u64 v.a5, .int .u64 v.a6, .int .u64 v.a7]] w1 (LongPost w1 v.toInt 8) := fun w1 _ => longer_any v hv w1
 have hne : w.heap.size ∉ [w.heap.size + 1] := by simp
 have a0 := k1.evS hne 0 rfl
 have a1 := k1.evS hne 1 rfl
 have a2 := k1.evS hne 2 rfl
 have a3 := k1.evS hne 3 rfl
 have a4 := k1.evS hne 4 rfl
 have a5 := k1.evS hne 5 rfl
 have a6 := k1.evS hne 6 rfl
 have a7 := k1.evS hne 7 rfl
 have a8 := k1.evS hne 8 rfl
 have a9 := k1.evS hne 9 rfl
 have a10 := k1.evS hne 10 rfl
 have a11 := k1.evS hne 11 rfl
 have a12 := k1.evS hne 12 rfl
 have a13 := k1.evS hne 13 rfl
 have a14 := k1.evS hne 14 rfl
 have a15 := k1.evS hne 15 rfl
 have L0 := Lat.drew W
 have M0 := L0.s [w.heap.size + 1]
 have _t := True.intro
 go_region_held3 (fun w' => LatS W [w.heap.size + 1] w') (first | assumption | ((repeat refine LatS.set ?_ (by simp) _); assumption))
  (first
    | (have _h := HX; go_at_call 71; (with_reducible refine (HX _ ?_).mono ?_); exact L0; rintro e w1 ⟨b, A, n, c, rfl, q1, q2, q3⟩; have L1 := L0.trans q3; have M1 := L1.s [w.heap.size + 1]; clear HX _h)
    | (go_at_call 71; (with_reducible refine (HY _ ?_).mono ?_); exact L1; rintro e w2 ⟨b', A', n', c', rfl, r1, r2, r3⟩; have L2 := L1.trans r3; have M2 := L2.s [w.heap.size + 1]; have K2 := k2.later L2; have d0 := K2.cell 0; have d1 := K2.cell 1; have d2 := K2.cell 2; have d3 := K2.cell 3; have f0 := K2.frozen 0; have f1 := K2.frozen 1; have f2 := K2.frozen 2; have f3 := K2.frozen 3))
 go_wp2
 refine bodyPost_ret (v := .agg #[.bool b, .slice A n c, .bool b', .slice A' n' c']) (by simp [results, Tryz.results61, go_sem, d0, d1, d2, d3]) rfl ?_
 exact RatPost.close K2 (q1.later r3) r1 (hl.trans L2) (by omega) q2 r2
set_option maxRecDepth 100000 in
set_option maxHeartbeats 4000000 in
theorem ratCmp_any (b1 : Bool) (A1 : Option Addr) (n1 c1 : Nat) (x1 : Int) (b2 : Bool) (A2 : Option Addr) (n2 c2 : Nat) (y1 : Int) (b3 : Bool) (A3 : Option Addr) (n3 c3 : Nat) (x2 : Int) (b4 : Bool) (A4 : Option Addr) (n4 c4 : Nat) (y2 : Int) (w : World)
  (h1 : Lg w b1 A1 n1 c1 x1) (h2 : Lg w b2 A2 n2 c2 y1) (h3 : Lg w b3 A3 n3 c3 x2) (h4 : Lg w b4 A4 n4 c4 y2) (g1 : n1 ≤ 100000) (g2 : n2 ≤ 100000) (g3 : n3 ≤ 100000) (g4 : n4 ≤ 100000) :
  Calls Tryz.prog 63 #[.agg #[.bool b1, .slice A1 n1 c1, .bool b2, .slice A2 n2 c2], .agg #[.bool b3, .slice A3 n3 c3, .bool b4, .slice A4 n4 c4]] w (fun e w' => e = .returned (.int .i64 (sideOf (x1 * y2 - x2 * y1))) ∧ Lat w w') := by
 have H1 := Lib.hid h1
 have H2 := Lib.hid h2
 have H3 := Lib.hid h3
 have H4 := Lib.hid h4
 clear h1 h2 h3 h4
 go_enter Tryz.func63, Tryz.ntmps63
 go_wp2
 refine name2 (Q := fun W => Code.wp _ _ _ _ W) ?_
 intro W hl hs k1 k2
 have HX : ∀ w1, Lat W w1 → Calls Tryz.prog 35 #[.agg #[.bool b1, .slice A1 n1 c1], .agg #[.bool b4, .slice A4 n4 c4]] w1 (LongPost w1 (x1 * y2) (n1 + n4)) := fun w1 h => ltimes_any b1 A1 n1 c1 x1 b4 A4 n4 c4 y2 w1 (H1.out.later (hl.trans h)) (H4.out.later (hl.trans h)) (by omega) (by omega)
 have HY : ∀ w1, Lat W w1 → Calls Tryz.prog 35 #[.agg #[.bool b3, .slice A3 n3 c3], .agg #[.bool b2, .slice A2 n2 c2]] w1 (LongPost w1 (x2 * y1) (n3 + n2)) := fun w1 h => ltimes_any b3 A3 n3 c3 x2 b2 A2 n2 c2 y1 w1 (H3.out.later (hl.trans h)) (H2.out.later (hl.trans h)) (by omega) (by omega)
 have hne1 : w.heap.size ∉ ([] : List Nat) := by simp
 have hne2 : w.heap.size + 1 ∉ ([] : List Nat) := by simp
 have a0 := k1.evS hne1 0 rfl
 have a1 := k1.evS hne1 1 rfl
 have a2 := k1.evS hne1 2 rfl
 have a3 := k1.evS hne1 3 rfl
 have d0 := k2.evS hne2 0 rfl
 have d1 := k2.evS hne2 1 rfl
 have d2 := k2.evS hne2 2 rfl
 have d3 := k2.evS hne2 3 rfl
 have L0 := Lat.drew W
 have M0 := L0.s []
 go_region_held3 (fun w' => LatS W [] w') (first | assumption)
  (first
    | (have _h := HX; go_at_call 35; (with_reducible refine (HX _ ?_).mono ?_); exact L0; rintro e w1 ⟨b, A, n, c, rfl, q1, q2, q3⟩; have L1 := L0.trans q3; have M1 := L1.s []; clear HX _h)
    | (have _h := HY; go_at_call 35; (with_reducible refine (HY _ ?_).mono ?_); exact L1; rintro e w2 ⟨b', A', n', c', rfl, r1, r2, r3⟩; have L2 := L1.trans r3; have M2 := L2.s []; clear HY _h)
    | (go_at_call 86; refine (lcmp_any b A n c (x1 * y2) b' A' n' c' (x2 * y1) _ (q1.later r3) r1 (by omega) (by omega)).mono ?_; rintro e w3 ⟨rfl, s5⟩; have L3 := L2.trans s5; have M3 := L3.s []))
 go_wp2
 go_ret
 exact ⟨rfl, hl.trans L3⟩
def ShOk (N D : Int) : Prop := 0 < D ∧ Int.gcd N D = 1
set_option maxRecDepth 100000 in
set_option maxHeartbeats 4000000 in
theorem shCheck_ok (u v : W8) (hu : u.ok) (hv : v.ok) (hok : ShOk u.toInt v.toInt) (w : World) :
  Calls Tryz.prog 60 #[.agg #[.int .u64 u.a0, .int .u64 u.a1, .int .u64 u.a2, .int .u64 u.a3, .int .u64 u.a4, .int .u64 u.a5, .int .u64 u.a6, .int .u64 u.a7, .int .u64 v.a0, .int .u64 v.a1, .int .u64 v.a2, .int .u64 v.a3, .int .u64 v.a4, .int .u64 v.a5, .int .u64 v.a6, .int .u64 v.a7]] w (fun e w' => e = .returned (.int .i64 0) ∧ Lat w w') := by
 obtain ⟨N, hN⟩ : ∃ N, N = u.toInt := ⟨_, rfl⟩
 obtain ⟨D, hD⟩ : ∃ D, D = v.toInt := ⟨_, rfl⟩
 have HR : ∀ w, Calls Tryz.prog 61 #[.agg #[.int .u64 u.a0, .int .u64 u.a1, .int .u64 u.a2, .int .u64 u.a3, .int .u64 u.a4, .int .u64 u.a5, .int .u64 u.a6, .int .u64 u.a7, .int .u64 v.a0, .int .u64 v.a1, .int .u64 v.a2, .int .u64 v.a3, .int .u64 v.a4, .int .u64 v.a5, .int .u64 v.a6, .int .u64 v.a7]] w (RatPost w N D 8) := by intro w; rw [hN, hD]; exact ratRead_any u v hu hv w
 rw [← hN, ← hD] at hok
 have HO := Lib.hid hok
 clear hok
 clear hN hD hu hv
 go_enter Tryz.func60, Tryz.ntmps60
 go_wp2_with fail
 refine name1 (Q := fun W => Calls _ _ _ W _) ?_
 intro W hl hs k1
 refine (from_any 1 (by decide) (by decide) W).mono ?_
 rintro e w1 ⟨b, A, n, c, rfl, p1, p2, p3⟩
 have LA := hl.trans p3
 have E1 := k1.later p3
 have P1 := Lib.hid p1
 have hs1 := p3.size
 have L1 := Lat.alloc w1 (.cells #[.bool b, .slice A n c] 77)
 clear p1 p3 hl k1
 have cc0 := E1.ever (i := 0) rfl
 have cc1 := E1.ever (i := 1) rfl
 have cc2 := E1.ever (i := 2) rfl
 have cc3 := E1.ever (i := 3) rfl
 have cc4 := E1.ever (i := 4) rfl
 have cc5 := E1.ever (i := 5) rfl
 have cc6 := E1.ever (i := 6) rfl
 have cc7 := E1.ever (i := 7) rfl
 have cc8 := E1.ever (i := 8) rfl
 have cc9 := E1.ever (i := 9) rfl
 have cc10 := E1.ever (i := 10) rfl
 have cc11 := E1.ever (i := 11) rfl
 have cc12 := E1.ever (i := 12) rfl
 have cc13 := E1.ever (i := 13) rfl
 have cc14 := E1.ever (i := 14) rfl
 have cc15 := E1.ever (i := 15) rfl
 go_wp2_with fail
 refine name1 (Q := fun W => Calls _ _ _ W _) ?_
 intro W2 hl2 hs2 k2
 refine (HR W2).mono ?_
 rintro e w2 ⟨b1, A1, n1, c1, b2, A2, n2, c2, rfl, q1, q2, q3, q4, q5⟩
 have LB := (LA.trans hl2).trans q5
 have P2 := Lib.hid ((P1.out.later hl2).later q5)
 have K2 := k2.later q5
 have hs3 := q5.size
 have Q1 := Lib.hid q1
 have Q3 := Lib.hid q3
 clear E1 L1 P1 k2 q1 q3 q5 hl2 LA HR
 clear cc0 cc1 cc2 cc3 cc4 cc5 cc6 cc7 cc8 cc9 cc10 cc11 cc12 cc13 cc14 cc15
 have L2 := Lat.alloc w2 (.cells #[.bool b1, .slice A1 n1 c1, .bool b2, .slice A2 n2 c2] 107)
 go_wp2_with fail
 refine name1 (Q := fun W => Code.wp _ _ _ _ W) ?_
 intro W3 hl3 hs4 k3
 have K2' := K2.later hl3
 have LC := LB.trans hl3
 have hne1 : w2.heap.size ∉ ([] : List Nat) := by simp
 have hne2 : w1.heap.size ∉ ([] : List Nat) := by simp
 have a0 := k3.evS hne1 0 rfl
 have a1 := k3.evS hne1 1 rfl
 have a2 := k3.evS hne1 2 rfl
 have a3 := k3.evS hne1 3 rfl
 have d0 := K2'.evS hne2 0 rfl
 have d1 := K2'.evS hne2 1 rfl
 have L0 := Lat.drew W3
 have M0 := L0.s []
 have X1 := Lib.hid (Q1.out.later hl3)
 have X3 := Lib.hid (Q3.out.later hl3)
 have XP := Lib.hid (P2.out.later hl3)
 clear L2 LB Q1 Q3 P2 K2 hl3
 have HSide : ∀ (s : Int), sideOf D = s → ∀ w', Lat W3 w' → Calls Tryz.prog 90 #[.agg #[.bool b2, .slice A2 n2 c2]] w' (fun e w'' => e = .returned (.int .i64 s) ∧ Lat w' w'') := by
  intro s hs w' h
  rw [← hs]
  exact side_any b2 A2 n2 c2 D _ (X3.out.later h) (by omega)
 have HGcd : ∀ w', Lat W3 w' → Calls Tryz.prog 88 #[.agg #[.bool b1, .slice A1 n1 c1], .agg #[.bool b2, .slice A2 n2 c2]] w' (LongPost w' (Int.gcd N D) (max n1 n2)) := by
  intro w' h
  exact common_any b1 A1 n1 c1 N b2 A2 n2 c2 D _ (X1.out.later h) (X3.out.later h) (by omega) (by omega)
 have HCmp : ∀ (s : Int), sideOf ((Int.gcd N D : Int) - 1) = s → ∀ w' (b : Bool) (A : Option Addr) (n c : Nat) (b3 : Bool) (A3 : Option Addr) (n3 c3 : Nat), Lg w' b A n c (Int.gcd N D) → Lg w' b3 A3 n3 c3 1 → n ≤ 8 → n3 ≤ 8 → Calls Tryz.prog 86 #[.agg #[.bool b, .slice A n c], .agg #[.bool b3, .slice A3 n3 c3]] w' (fun e w'' => e = .returned (.int .i64 s) ∧ Lat w' w'') := by
  intro s hs w' b A n c b3 A3 n3 c3 h1 h2 h3 h4
  rw [← hs]
  exact lcmp_any b A n c _ b3 A3 n3 c3 1 _ h1 h2 (by omega) (by omega)
 have hD := HO.out.1
 have hg := HO.out.2
 have hS : sideOf D = 1 := by unfold sideOf; rw [if_neg (by omega), if_neg (by omega)]
 have HS := HSide 1 hS
 have hC : sideOf ((Int.gcd N D : Int) - 1) = 0 := by rw [hg]; decide
 have HC := HCmp 0 hC
 clear hg hD hC hS HSide HCmp
 go_region_held3 (fun w' => LatS W3 [] w') (first | assumption)
  (first
    | (go_at_call 90; (with_reducible refine (HS _ ?_).mono ?_); exact L0; rintro e w4 ⟨rfl, s5⟩; have L4 := L0.trans s5; have M4 := L4.s [])
    | (go_at_call 88; (with_reducible refine (HGcd _ ?_).mono ?_); exact L4; rintro e w5 ⟨bg, Ag, ng, cg, rfl, r1, r2, r3⟩; have L5 := L4.trans r3; have M5 := L5.s [])
    | (go_at_call 86; (with_reducible refine (HC _ _ _ _ _ _ _ _ _ ?_ ?_ ?_ ?_).mono ?_); exact r1; exact XP.out.later L5; omega; omega; rintro e w6 ⟨rfl, s6⟩; have L6 := L5.trans s6; have M6 := L6.s []))
 go_wp2
 go_ret
 exact ⟨rfl, LC.trans L6⟩
theorem Rg.neg_of {w : World} {A : Option Addr} {n c : Nat} {z : Int} (h : Rg w true A n c z) : z < 0 := by
 obtain ⟨_, xs, _, r, nz, hne, hv⟩ := h
 have := val_pos B32_pos r nz (hne rfl)
 rw [hv]; simp only [sgn, if_true]; omega
attribute [local go_sem ↓] Go.wp_at_zero Go.wp_at_succ
end Go.Proofs.YtakhiomcneikkaaGreat
