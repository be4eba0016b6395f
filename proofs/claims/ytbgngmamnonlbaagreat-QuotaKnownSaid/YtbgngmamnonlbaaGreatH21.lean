/- Several texts in one: RefU. -/
import Derived.Test.YtbgngmamnonlbaaGreatH20
import Derived.Test.YtbgngmamnonlbaaGreatH11
namespace Go.Proofs.YtbgngmamnonlbaaGreat
open Go.RowKit
set_option maxRecDepth 100000 in
set_option maxHeartbeats 4000000 in
theorem rrOut_any (b1 : Bool) (A1 : Option Addr) (n1 c1 : Nat) (x : Int) (b2 : Bool) (A2 : Option Addr) (n2 c2 : Nat) (y : Int) (w : World) (h1 : Rg w b1 A1 n1 c1 x) (h2 : Rg w b2 A2 n2 c2 y) (hn : n1 ≤ 1000000) (hm : n2 ≤ 1000000) :
  Calls Tryz.prog 69 #[.agg #[.bool b1, .slice A1 n1 c1, .bool b2, .slice A2 n2 c2]] w (SharePost w x y) := by
 have H1 := Lib.hid h1
 have H2 := Lib.hid h2
 clear h1 h2
 go_enter Tryz.func69, Tryz.ntmps69
 go_wp2_with fail
 refine name2 (Q := fun W => Calls _ _ _ W _) ?_
 intro W hl hs k1 k2
 refine (rOut_any b1 A1 n1 c1 x W (H1.out.later hl) hn).mono ?_
 rintro e w1 ⟨u, r, rfl, hu, l1⟩
 have B1 := k1.later l1
 have B2 := k2.later l1
 have LA := hl.trans l1
 have HU := Lib.hid hu
 clear k1 k2 hl l1 hu H1
 have d2 := B1.cell 2
 have d3 := B1.cell 3
 have hz := B2.lt
 have hz0 := B1.lt
 go_wp2_with fail
 refine name1 (Q := fun W => Calls _ _ _ W _) ?_
 intro W2 hl2 hs2 k3
 have LB := LA.trans hl2
 have E2 := B2.later hl2
 clear B1 B2 LA hl2 d2 d3
 refine (rOut_any b2 A2 n2 c2 y W2 (H2.out.later LB) hm).mono ?_
 rintro e w2 ⟨v, r', rfl, hv, l2⟩
 have F2 := E2.later l2
 have F3 := k3.later l2
 have LC := LB.trans l2
 have HV := Lib.hid hv
 clear E2 k3 l2 LB hv H2
 clear hz hz0
 have L3 := Lat.alloc w2 (.cells #[.int .u64 v.a0, .int .u64 v.a1, .int .u64 v.a2, .int .u64 v.a3, .int .u64 v.a4, .int .u64 v.a5, .int .u64 v.a6, .int .u64 v.a7] 40)
 rcases HU.out with ⟨u0, u1, u2, rfl⟩ | ⟨u0, u2, rfl⟩
 ·rcases HV.out with ⟨v0, v1, v2, rfl⟩ | ⟨v0, v2, rfl⟩
  ·have HI : Hid (ShareIs x y u v 0) := .inl ⟨u0, u1, v0, v1, u2, v2, rfl⟩
   clear u0 u1 u2 v0 v1 v2 HU HV
   have a0 := F3.ever 0 rfl
   have a1 := F3.ever 1 rfl
   have a2 := F3.ever 2 rfl
   have a3 := F3.ever 3 rfl
   have a4 := F3.ever 4 rfl
   have a5 := F3.ever 5 rfl
   have a6 := F3.ever 6 rfl
   have a7 := F3.ever 7 rfl
   have c0 := F2.ever 0 rfl
   have c1 := F2.ever 1 rfl
   have c2 := F2.ever 2 rfl
   have c3 := F2.ever 3 rfl
   have c4 := F2.ever 4 rfl
   have c5 := F2.ever 5 rfl
   have c6 := F2.ever 6 rfl
   have c7 := F2.ever 7 rfl
   have c8 := F2.ever 8 rfl
   have c9 := F2.ever 9 rfl
   have c10 := F2.ever 10 rfl
   have c11 := F2.ever 11 rfl
   have c12 := F2.ever 12 rfl
   have c13 := F2.ever 13 rfl
   have c14 := F2.ever 14 rfl
   have c15 := F2.ever 15 rfl
   have f0 := F2.free 0
   have f1 := F2.free 1
   have f2 := F2.free 2
   have f3 := F2.free 3
   have f4 := F2.free 4
   have f5 := F2.free 5
   have f6 := F2.free 6
   have f7 := F2.free 7
   have f8 := F2.free 8
   have f9 := F2.free 9
   have f10 := F2.free 10
   have f11 := F2.free 11
   have f12 := F2.free 12
   have f13 := F2.free 13
   have f14 := F2.free 14
   have f15 := F2.free 15
   go_wp2
   refine bodyPost_ret (v := .tuple #[.agg #[.int .u64 u.a0, .int .u64 u.a1, .int .u64 u.a2, .int .u64 u.a3, .int .u64 u.a4, .int .u64 u.a5, .int .u64 u.a6, .int .u64 u.a7, .int .u64 v.a0, .int .u64 v.a1, .int .u64 v.a2, .int .u64 v.a3, .int .u64 v.a4, .int .u64 v.a5, .int .u64 v.a6, .int .u64 v.a7], .int .i64 0]) (by simp [results, Tryz.results69, go_sem, L3, c0, c1, c2, c3, c4, c5, c6, c7, c8, c9, c10, c11, c12, c13, c14, c15]) rfl ?_
   refine ⟨u, v, 0, rfl, HI.out, ?_⟩
   iterate 16 (refine Lat.setCell ?_ (by simp; try omega) _)
   exact LC.trans L3
  ·have HI : Hid (ShareIs x y W8.zero W8.zero 6) := .inr ⟨by omega, rfl, rfl, rfl⟩
   clear u0 u1 u2 v0 v2 HU HV
   have c0 := F2.ever 0 rfl
   have c1 := F2.ever 1 rfl
   have c2 := F2.ever 2 rfl
   have c3 := F2.ever 3 rfl
   have c4 := F2.ever 4 rfl
   have c5 := F2.ever 5 rfl
   have c6 := F2.ever 6 rfl
   have c7 := F2.ever 7 rfl
   have c8 := F2.ever 8 rfl
   have c9 := F2.ever 9 rfl
   have c10 := F2.ever 10 rfl
   have c11 := F2.ever 11 rfl
   have c12 := F2.ever 12 rfl
   have c13 := F2.ever 13 rfl
   have c14 := F2.ever 14 rfl
   have c15 := F2.ever 15 rfl
   have f0 := F2.free 0
   have f1 := F2.free 1
   have f2 := F2.free 2
   have f3 := F2.free 3
   have f4 := F2.free 4
   have f5 := F2.free 5
   have f6 := F2.free 6
   have f7 := F2.free 7
   have f8 := F2.free 8
   have f9 := F2.free 9
   have f10 := F2.free 10
   have f11 := F2.free 11
   have f12 := F2.free 12
   have f13 := F2.free 13
   have f14 := F2.free 14
   have f15 := F2.free 15
   go_wp2
   refine bodyPost_ret (v := .tuple #[.agg #[.int .u64 W8.zero.a0, .int .u64 W8.zero.a1, .int .u64 W8.zero.a2, .int .u64 W8.zero.a3, .int .u64 W8.zero.a4, .int .u64 W8.zero.a5, .int .u64 W8.zero.a6, .int .u64 W8.zero.a7, .int .u64 W8.zero.a0, .int .u64 W8.zero.a1, .int .u64 W8.zero.a2, .int .u64 W8.zero.a3, .int .u64 W8.zero.a4, .int .u64 W8.zero.a5, .int .u64 W8.zero.a6, .int .u64 W8.zero.a7], .int .i64 6]) (by simp [results, Tryz.results69, go_sem, L3, W8.zero, c0, c1, c2, c3, c4, c5, c6, c7, c8, c9, c10, c11, c12, c13, c14, c15]) rfl ?_
   refine ⟨W8.zero, W8.zero, 6, rfl, HI.out, ?_⟩
   iterate 16 (refine Lat.setCell ?_ (by simp; try omega) _)
   exact LC.trans L3
 ·have HI : Hid (ShareIs x y W8.zero W8.zero 6) := .inr ⟨by omega, rfl, rfl, rfl⟩
  clear u0 u2 HU
  have hr' : r' = 0 ∨ r' = 6 := by
   rcases HV.out with ⟨_, _, _, h⟩ | ⟨_, _, h⟩
   ·exact .inl h
   ·exact .inr h
  clear HV
  have c0 := F2.ever 0 rfl
  have c1 := F2.ever 1 rfl
  have c2 := F2.ever 2 rfl
  have c3 := F2.ever 3 rfl
  have c4 := F2.ever 4 rfl
  have c5 := F2.ever 5 rfl
  have c6 := F2.ever 6 rfl
  have c7 := F2.ever 7 rfl
  have c8 := F2.ever 8 rfl
  have c9 := F2.ever 9 rfl
  have c10 := F2.ever 10 rfl
  have c11 := F2.ever 11 rfl
  have c12 := F2.ever 12 rfl
  have c13 := F2.ever 13 rfl
  have c14 := F2.ever 14 rfl
  have c15 := F2.ever 15 rfl
  have f0 := F2.free 0
  have f1 := F2.free 1
  have f2 := F2.free 2
  have f3 := F2.free 3
  have f4 := F2.free 4
  have f5 := F2.free 5
  have f6 := F2.free 6
  have f7 := F2.free 7
  have f8 := F2.free 8
  have f9 := F2.free 9
  have f10 := F2.free 10
  have f11 := F2.free 11
  have f12 := F2.free 12
  have f13 := F2.free 13
  have f14 := F2.free 14
  have f15 := F2.free 15
  rcases hr' with rfl | rfl
  all_goals
   go_wp2
   refine bodyPost_ret (v := .tuple #[.agg #[.int .u64 W8.zero.a0, .int .u64 W8.zero.a1, .int .u64 W8.zero.a2, .int .u64 W8.zero.a3, .int .u64 W8.zero.a4, .int .u64 W8.zero.a5, .int .u64 W8.zero.a6, .int .u64 W8.zero.a7, .int .u64 W8.zero.a0, .int .u64 W8.zero.a1, .int .u64 W8.zero.a2, .int .u64 W8.zero.a3, .int .u64 W8.zero.a4, .int .u64 W8.zero.a5, .int .u64 W8.zero.a6, .int .u64 W8.zero.a7], .int .i64 6]) (by simp [results, Tryz.results69, go_sem, L3, W8.zero, c0, c1, c2, c3, c4, c5, c6, c7, c8, c9, c10, c11, c12, c13, c14, c15]) rfl ?_
   refine ⟨W8.zero, W8.zero, 6, rfl, HI.out, ?_⟩
   iterate 16 (refine Lat.setCell ?_ (by simp; try omega) _)
   exact LC.trans L3
set_option maxRecDepth 100000 in
set_option maxHeartbeats 1000000 in
theorem rQuick_any (n d : Int) (w : World) (h0 : d ≠ 0) (n1 : -9223372036854775808 ≤ n) (n2 : n < 9223372036854775808) (h1 : -9223372036854775808 ≤ d) (h2 : d < 9223372036854775808) :
  Calls Tryz.prog 70 #[.int .i64 n, .int .i64 d] w (RratPost w (lowN n d) (lowD n d) 3) := by
 have HN := fun w => rLong1_any n w n1 n2
 have HD := fun w => rLong1_any d w h1 h2
 have H0 := Lib.hid h0
 clear h0 n1 n2 h1 h2
 go_enter Tryz.func70, Tryz.ntmps70
 go_wp2_with fail
 refine name1 (Q := fun W => Calls _ _ _ W _) ?_
 intro W hl hs k1
 refine (HN W).mono ?_
 rintro e w1 ⟨b, A, m, c, rfl, p1, p2, p3⟩
 go_wp2_with fail
 refine (HD w1).mono ?_
 rintro e w2 ⟨b', A', m', c', rfl, q1, q2, q3⟩
 have P1 := p1.later q3
 have K1 := k1.later (p3.trans q3)
 have LA := (hl.trans p3).trans q3
 clear p1 p3 q3 k1 hl HN HD
 go_wp2_with fail
 refine (rLowest_any b A m c n b' A' m' c' d w2 P1 q1 H0.out (by omega) (by omega)).mono ?_
 rintro e w3 ⟨b3, A3, m3, c3, b4, A4, m4, c4, rfl, r1, r2, r3, r4, r5⟩
 have K2 := K1.later r5
 have LB := LA.trans r5
 clear K1 LA r5 P1 q1
 have c0 := K2.cell 0
 have c1 := K2.cell 1
 have c2 := K2.cell 2
 have c3' := K2.cell 3
 have f0 := K2.frozen 0
 have f1 := K2.frozen 1
 have f2 := K2.frozen 2
 have f3 := K2.frozen 3
 go_wp2
 refine bodyPost_ret (v := .agg #[.bool b3, .slice A3 m3 c3, .bool b4, .slice A4 m4 c4]) (by simp [results, Tryz.results70, go_sem, c0, c1, c2, c3']) rfl ?_
 exact RratPost.close K2 r1 r3 LB (by omega) (by omega) (by omega)
set_option maxRecDepth 100000 in
set_option maxHeartbeats 2000000 in
theorem rOf_ok (n d : Int) (h0 : d ≠ 0) (n1 : -9223372036854775808 ≤ n) (n2 : n < 9223372036854775808) (h1 : -9223372036854775808 ≤ d) (h2 : d < 9223372036854775808) (w : World) :
  Calls Tryz.prog 46 #[.int .i64 n, .int .i64 d] w (SharePost w (lowN n d) (lowD n d)) := by
 have HQ := fun w => rQuick_any n d w h0 n1 n2 h1 h2
 have hd : ((d : Int) == 0) = false := by simpa using h0
 obtain ⟨N, hN⟩ : ∃ N, lowN n d = N := ⟨_, rfl⟩
 obtain ⟨D, hD⟩ : ∃ D, lowD n d = D := ⟨_, rfl⟩
 rw [hN, hD] at HQ ⊢
 clear hN hD h0 n1 n2 h1 h2
 go_enter Tryz.func46, Tryz.ntmps46
 go_wp2_with fail
 refine name1 (Q := fun W => Calls _ _ _ W _) ?_
 intro W hl hs k1
 refine (HQ W).mono ?_
 rintro e w1 ⟨b, A, m, c, b', A', m', c', rfl, p1, p2, p3, p4, p5⟩
 go_wp2_with fail
 refine (rrOut_any b A m c N b' A' m' c' D w1 p1 p3 (by omega) (by omega)).mono ?_
 rintro e w2 ⟨u, v, r, rfl, q1, q2⟩
 have L := (hl.trans p5).trans q2
 have K := k1.later (p5.trans q2)
 have Q := Lib.hid q1
 clear p1 p3 p5 q1 q2 k1 hl
 have e0 := K.cell 0
 have e1 := K.cell 1
 have e2 := K.cell 2
 have e3 := K.cell 3
 have e4 := K.cell 4
 have e5 := K.cell 5
 have e6 := K.cell 6
 have e7 := K.cell 7
 have e8 := K.cell 8
 have e9 := K.cell 9
 have e10 := K.cell 10
 have e11 := K.cell 11
 have e12 := K.cell 12
 have e13 := K.cell 13
 have e14 := K.cell 14
 have e15 := K.cell 15
 have f0 := K.frozen 0
 have f1 := K.frozen 1
 have f2 := K.frozen 2
 have f3 := K.frozen 3
 have f4 := K.frozen 4
 have f5 := K.frozen 5
 have f6 := K.frozen 6
 have f7 := K.frozen 7
 have f8 := K.frozen 8
 have f9 := K.frozen 9
 have f10 := K.frozen 10
 have f11 := K.frozen 11
 have f12 := K.frozen 12
 have f13 := K.frozen 13
 have f14 := K.frozen 14
 have f15 := K.frozen 15
 go_wp2
 refine bodyPost_ret (v := .tuple #[.agg #[.int .u64 u.a0, .int .u64 u.a1, .int .u64 u.a2, .int .u64 u.a3, .int .u64 u.a4, .int .u64 u.a5, .int .u64 u.a6, .int .u64 u.a7, .int .u64 v.a0, .int .u64 v.a1, .int .u64 v.a2, .int .u64 v.a3, .int .u64 v.a4, .int .u64 v.a5, .int .u64 v.a6, .int .u64 v.a7], .int .i64 r]) (by simp [results, Tryz.results46, go_sem, e0, e1, e2, e3, e4, e5, e6, e7, e8, e9, e10, e11, e12, e13, e14, e15]) rfl ?_
 refine ⟨u, v, r, rfl, Q.out, ?_⟩
 iterate 16 (refine Lat.setCell ?_ (by simp; try omega) _)
 exact L
end Go.Proofs.YtbgngmamnonlbaaGreat
