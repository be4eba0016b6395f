/- Several texts in one: WInt, ShDv, ShSx. -/
import Derived.Test.YteocdndanehpnaaGreatH23
import Derived.Test.YteocdndanehpnaaGreatH25
import Derived.Test.YteocdndanehpnaaGreatH12
namespace Go.Proofs.YteocdndanehpnaaGreat
open Go.RowKit
set_option linter.unusedSimpArgs false
theorem wide_in {u v : W8} (hu : u.ok) (hv : v.ok) (w : World) : (Op.equalIn 10000 97 (.agg #[.int .u64 u.a0, .int .u64 u.a1, .int .u64 u.a2, .int .u64 u.a3, .int .u64 u.a4, .int .u64 u.a5, .int .u64 u.a6, .int .u64 u.a7]) (.agg #[.int .u64 v.a0, .int .u64 v.a1, .int .u64 v.a2, .int .u64 v.a3, .int .u64 v.a4, .int .u64 v.a5, .int .u64 v.a6, .int .u64 v.a7])).run Tryz.prog w = .ok (decide (u.mag = v.mag)) w := by
 obtain ⟨r, hr, hi⟩ := run_equalIn_deep (P := Tryz.prog) 9990 10 97 (by kernel_rfl) w 10 10 (.agg #[.int .u64 u.a0, .int .u64 u.a1, .int .u64 u.a2, .int .u64 u.a3, .int .u64 u.a4, .int .u64 u.a5, .int .u64 u.a6, .int .u64 u.a7]) (.agg #[.int .u64 v.a0, .int .u64 v.a1, .int .u64 v.a2, .int .u64 v.a3, .int .u64 v.a4, .int .u64 v.a5, .int .u64 v.a6, .int .u64 v.a7]) _ _ (by kernel_rfl) (by kernel_rfl) (key30 hu 8) (key30 hv 8)
 have e : r = decide (u.mag = v.mag) := by
  rw [litsW_inj] at hi
  rw [Bool.eq_iff_iff, decide_eq_true_eq, hi]
  exact ⟨fun h => by rw [h], fun h => W8.mag_inj hu hv h⟩
 rw [hr, e]
theorem of_low64 {z : Int} (h0 : 0 ≤ z) (h1 : z < 18446744073709551616) : (W8.of z).a0 = z := by
 have hp : (18446744073709551616 : Int) ≤ P512 := by decide
 show z % P512 % W64 = z
 rw [Int.emod_eq_of_lt h0 (by omega)]
 exact Int.emod_eq_of_lt h0 (by unfold W64; omega)
set_option maxRecDepth 100000 in
set_option maxHeartbeats 2000000 in
theorem wInt_fit (z : Int) (h0 : 0 ≤ z) (h1 : z < 9223372036854775808) (w : World) :
  Calls Tryz.prog 63 #[.agg #[.int .u64 (W8.of z).a0, .int .u64 (W8.of z).a1, .int .u64 (W8.of z).a2, .int .u64 (W8.of z).a3, .int .u64 (W8.of z).a4, .int .u64 (W8.of z).a5, .int .u64 (W8.of z).a6, .int .u64 (W8.of z).a7]] w (fun e w' => e = .returned (.tuple #[.int .i64 z, .int .i64 0]) ∧ Lat w w') := by
 have HO := fun w => of_any z (by omega) h1 w
 have ha := of_low64 h0 (by omega)
 obtain ⟨u, hu⟩ : ∃ u, W8.of z = u := ⟨_, rfl⟩
 have HE : ∀ w, (Op.equalIn 10000 97 (.agg #[.int .u64 u.a0, .int .u64 u.a1, .int .u64 u.a2, .int .u64 u.a3, .int .u64 u.a4, .int .u64 u.a5, .int .u64 u.a6, .int .u64 u.a7]) (.agg #[.int .u64 u.a0, .int .u64 u.a1, .int .u64 u.a2, .int .u64 u.a3, .int .u64 u.a4, .int .u64 u.a5, .int .u64 u.a6, .int .u64 u.a7])).run Tryz.prog w = .ok true w := fun w => by
  have hok : u.ok := by rw [← hu]; exact W8.of_ok z
  rw [wide_in hok hok, decide_eq_true rfl]
 rw [hu] at HO ha ⊢
 have hw : IntKind.i64.wrap z = z := by rw [IntWalk.i64_left]; exact IntWalk.wrap64_in _ (by omega)
 simp only [ha] at HE
 clear hu h0 h1
 go_enter Tryz.func63, Tryz.ntmps63
 go_upto_region 1 with (fail)
 refine name1 (Q := fun W => Code.wp _ _ _ _ W) ?_
 intro W hl hs k1
 have c0 := k1.cell 0
 go_upto_region 2 with (fail)
 have L0 := Lat.drew W
 have a0 := k1.ever 0 rfl
 have a1 := k1.ever 1 rfl
 have a2 := k1.ever 2 rfl
 have a3 := k1.ever 3 rfl
 have a4 := k1.ever 4 rfl
 have a5 := k1.ever 5 rfl
 have a6 := k1.ever 6 rfl
 have a7 := k1.ever 7 rfl
 go_region_held3 (fun w' => Lat W w') (first | (with_reducible assumption))
  (first
    | (go_at_call 92; (with_reducible refine (HO _).mono ?_); rintro e w2 ⟨rfl, q3⟩; have L2 := L0.trans q3))
 go_wp2
 refine bodyPost_ret (v := .tuple #[.int .i64 z, .int .i64 0]) (by simp [results, Tryz.results63, go_sem]) rfl ?_
 exact ⟨rfl, hl.trans L2⟩
end Go.Proofs.YteocdndanehpnaaGreat
namespace Go.Proofs.YteocdndanehpnaaGreat
open Go.RowKit
set_option maxRecDepth 100000 in
set_option maxHeartbeats 4000000 in
theorem ratOver_any (b1 : Bool) (A1 : Option Addr) (n1 c1 : Nat) (x1 : Int) (b2 : Bool) (A2 : Option Addr) (n2 c2 : Nat) (y1 : Int) (b3 : Bool) (A3 : Option Addr) (n3 c3 : Nat) (x2 : Int) (b4 : Bool) (A4 : Option Addr) (n4 c4 : Nat) (y2 : Int) (w : World)
  (h1 : Lg w b1 A1 n1 c1 x1) (h2 : Lg w b2 A2 n2 c2 y1) (h3 : Lg w b3 A3 n3 c3 x2) (h4 : Lg w b4 A4 n4 c4 y2) (hy1 : y1 ≠ 0) (hx2 : x2 ≠ 0) (g1 : n1 ≤ 100000) (g2 : n2 ≤ 100000) (g3 : n3 ≤ 100000) (g4 : n4 ≤ 100000) :
  Calls Tryz.prog 109 #[.agg #[.bool b1, .slice A1 n1 c1, .bool b2, .slice A2 n2 c2], .agg #[.bool b3, .slice A3 n3 c3, .bool b4, .slice A4 n4 c4]] w (RatPost w (lowN (x1 * y2) (y1 * x2)) (lowD (x1 * y2) (y1 * x2)) (n1 + n3 + n2 + n4 + 2)) := by
 have H1 := Lib.hid h1
 have H2 := Lib.hid h2
 have H3 := Lib.hid h3
 have H4 := Lib.hid h4
 have hy : Hid (y1 * x2 ≠ 0) := Int.mul_ne_zero hy1 hx2
 clear h1 h2 h3 h4 hy1 hx2
 go_enter Tryz.func109, Tryz.ntmps109
 go_wp2
 refine name3 (Q := fun W => Code.wp _ _ _ _ W) ?_
 intro W hl hs k1 k2 k3
 have HX : ∀ w1, Lat W w1 → Calls Tryz.prog 120 #[.agg #[.bool b1, .slice A1 n1 c1], .agg #[.bool b4, .slice A4 n4 c4]] w1 (LongPost w1 (x1 * y2) (n1 + n4)) := fun w1 h => ltimes_any b1 A1 n1 c1 x1 b4 A4 n4 c4 y2 w1 (H1.out.later (hl.trans h)) (H4.out.later (hl.trans h)) (by omega) (by omega)
 have HY : ∀ w1, Lat W w1 → Calls Tryz.prog 120 #[.agg #[.bool b2, .slice A2 n2 c2], .agg #[.bool b3, .slice A3 n3 c3]] w1 (LongPost w1 (y1 * x2) (n2 + n3)) := fun w1 h => ltimes_any b2 A2 n2 c2 y1 b3 A3 n3 c3 x2 w1 (H2.out.later (hl.trans h)) (H3.out.later (hl.trans h)) (by omega) (by omega)
 have hne1 : w.heap.size ∉ [w.heap.size + 1 + 1] := by simp; omega
 have hne2 : w.heap.size + 1 ∉ [w.heap.size + 1 + 1] := by simp
 have a0 := k1.evS hne1 0 rfl
 have a1 := k1.evS hne1 1 rfl
 have a2 := k1.evS hne1 2 rfl
 have a3 := k1.evS hne1 3 rfl
 have d0 := k2.evS hne2 0 rfl
 have d1 := k2.evS hne2 1 rfl
 have d2 := k2.evS hne2 2 rfl
 have d3 := k2.evS hne2 3 rfl
 have L0 := Lat.drew W
 have M0 := L0.s [w.heap.size + 1 + 1]
 go_region_held3 (fun w' => LatS W [w.heap.size + 1 + 1] w') (first | assumption | ((repeat refine LatS.set ?_ (by simp) _); assumption))
  (first
    | (have _h := HX; go_at_call 120; (with_reducible refine (HX _ ?_).mono ?_); exact L0; rintro e w1 ⟨b, A, n, c, rfl, q1, q2, q3⟩; have L1 := L0.trans q3; have M1 := L1.s [w.heap.size + 1 + 1]; clear HX _h)
    | (have _h := HY; go_at_call 120; (with_reducible refine (HY _ ?_).mono ?_); exact L1; rintro e w2 ⟨b', A', n', c', rfl, r1, r2, r3⟩; have L2 := L1.trans r3; have M2 := L2.s [w.heap.size + 1 + 1]; clear HY _h)
    | (go_at_call 113; refine (lowest_any b A n c (x1 * y2) b' A' n' c' (y1 * x2) _ (q1.later r3) r1 hy.out (by omega) (by omega)).mono ?_; rintro e w3 ⟨b'', A'', n'', c'', b5, A5, n5, c5, rfl, s1, s2, s3, s4, s5⟩; have L3 := L2.trans s5; have M3 := L3.s [w.heap.size + 1 + 1]; have K3 := k3.later L3; have e0 := K3.cell 0; have e1 := K3.cell 1; have e2 := K3.cell 2; have e3 := K3.cell 3; have f0 := K3.frozen 0; have f1 := K3.frozen 1; have f2 := K3.frozen 2; have f3 := K3.frozen 3))
 go_wp2
 refine bodyPost_ret (v := .agg #[.bool b'', .slice A'' n'' c'', .bool b5, .slice A5 n5 c5]) (by simp [results, Tryz.results109, go_sem, e0, e1, e2, e3]) rfl ?_
 exact RatPost.close K3 s1 s3 (hl.trans L3) (by omega) (by omega) (by omega)
set_option maxRecDepth 100000 in
set_option maxHeartbeats 4000000 in
theorem shTwoO_ok (u1 v1 u2 v2 : W8) (hu1 : u1.ok) (hv1 : v1.ok) (hu2 : u2.ok) (hv2 : v2.ok) (ok1 : ShOk u1.toInt v1.toInt) (ok2 : ShOk u2.toInt v2.toInt) (hx : u2.toInt ≠ 0) (w : World) :
  Calls Tryz.prog 95 #[.agg #[.int .u64 u1.a0, .int .u64 u1.a1, .int .u64 u1.a2, .int .u64 u1.a3, .int .u64 u1.a4, .int .u64 u1.a5, .int .u64 u1.a6, .int .u64 u1.a7, .int .u64 v1.a0, .int .u64 v1.a1, .int .u64 v1.a2, .int .u64 v1.a3, .int .u64 v1.a4, .int .u64 v1.a5, .int .u64 v1.a6, .int .u64 v1.a7], .agg #[.int .u64 u2.a0, .int .u64 u2.a1, .int .u64 u2.a2, .int .u64 u2.a3, .int .u64 u2.a4, .int .u64 u2.a5, .int .u64 u2.a6, .int .u64 u2.a7, .int .u64 v2.a0, .int .u64 v2.a1, .int .u64 v2.a2, .int .u64 v2.a3, .int .u64 v2.a4, .int .u64 v2.a5, .int .u64 v2.a6, .int .u64 v2.a7], .func (.func 109) #[] #[]] w
   (fun e w' => ∃ b A n c b' A' n' c', e = .returned (.tuple #[.agg #[.bool b, .slice A n c, .bool b', .slice A' n' c'], .int .i64 0]) ∧ Lg w' b A n c (lowN (u1.toInt * v2.toInt) (v1.toInt * u2.toInt)) ∧ n ≤ 100 ∧ Lg w' b' A' n' c' (lowD (u1.toInt * v2.toInt) (v1.toInt * u2.toInt)) ∧ n' ≤ 100 ∧ Lat w w') := by
 have HV := shValid_two u1 v1 u2 v2 hu1 hv1 hu2 hv2 ok1 ok2
 have HR1 := ratRead_any u1 v1 hu1 hv1
 have HR2 := ratRead_any u2 v2 hu2 hv2
 have hd1 : v1.toInt ≠ 0 := by have := ok1.1; omega
 have HD1 := Lib.hid hd1
 have HD2 := Lib.hid hx
 clear hu1 hv1 hu2 hv2 ok1 ok2 hd1 hx
 go_enter Tryz.func95, Tryz.ntmps95
 go_wp2_with fail
 refine name4 (Q := fun W => Calls _ _ _ W _) ?_
 intro W hl hs k1 k2 k3 k4
 refine (HV W _ _ _ k4).mono ?_
 rintro e w1 ⟨rfl, h1⟩
 have LA := hl.trans h1
 have E1 : Blk w1 w.heap.size 99 #[.int .u64 u1.a0, .int .u64 u1.a1, .int .u64 u1.a2, .int .u64 u1.a3, .int .u64 u1.a4, .int .u64 u1.a5, .int .u64 u1.a6, .int .u64 u1.a7, .int .u64 v1.a0, .int .u64 v1.a1, .int .u64 v1.a2, .int .u64 v1.a3, .int .u64 v1.a4, .int .u64 v1.a5, .int .u64 v1.a6, .int .u64 v1.a7] := k1.later h1
 have E2 : Blk w1 (w.heap.size + 1) 99 #[.int .u64 u2.a0, .int .u64 u2.a1, .int .u64 u2.a2, .int .u64 u2.a3, .int .u64 u2.a4, .int .u64 u2.a5, .int .u64 u2.a6, .int .u64 u2.a7, .int .u64 v2.a0, .int .u64 v2.a1, .int .u64 v2.a2, .int .u64 v2.a3, .int .u64 v2.a4, .int .u64 v2.a5, .int .u64 v2.a6, .int .u64 v2.a7] := k2.later h1
 have E3 := k3.later h1
 clear k1 k2 k3 k4 HV
 have hne1 : w.heap.size ∉ [w.heap.size + 1 + 1] := by simp; omega
 have hne2 : w.heap.size + 1 ∉ [w.heap.size + 1 + 1] := by simp
 have a0 := E1.evS hne1 0 rfl
 have a1 := E1.evS hne1 1 rfl
 have a2 := E1.evS hne1 2 rfl
 have a3 := E1.evS hne1 3 rfl
 have a4 := E1.evS hne1 4 rfl
 have a5 := E1.evS hne1 5 rfl
 have a6 := E1.evS hne1 6 rfl
 have a7 := E1.evS hne1 7 rfl
 have a8 := E1.evS hne1 8 rfl
 have a9 := E1.evS hne1 9 rfl
 have a10 := E1.evS hne1 10 rfl
 have a11 := E1.evS hne1 11 rfl
 have a12 := E1.evS hne1 12 rfl
 have a13 := E1.evS hne1 13 rfl
 have a14 := E1.evS hne1 14 rfl
 have a15 := E1.evS hne1 15 rfl
 have d0 := E2.evS hne2 0 rfl
 have d1 := E2.evS hne2 1 rfl
 have d2 := E2.evS hne2 2 rfl
 have d3 := E2.evS hne2 3 rfl
 have d4 := E2.evS hne2 4 rfl
 have d5 := E2.evS hne2 5 rfl
 have d6 := E2.evS hne2 6 rfl
 have d7 := E2.evS hne2 7 rfl
 have d8 := E2.evS hne2 8 rfl
 have d9 := E2.evS hne2 9 rfl
 have d10 := E2.evS hne2 10 rfl
 have d11 := E2.evS hne2 11 rfl
 have d12 := E2.evS hne2 12 rfl
 have d13 := E2.evS hne2 13 rfl
 have d14 := E2.evS hne2 14 rfl
 have d15 := E2.evS hne2 15 rfl
 clear E1 E2
 go_wp2
 have L0 := Lat.drew w1
 have M0 := L0.s [w.heap.size + 1 + 1]
 go_region_held3 (fun w' => LatS w1 [w.heap.size + 1 + 1] w') (first | assumption | ((repeat refine LatS.set ?_ (by simp) _); assumption))
  (first
    | (have _h := HR1; go_at_call 110; (with_reducible refine (HR1 _).mono ?_); rintro e w2 ⟨b1, A1, n1, c1, b2, A2, n2, c2, rfl, q1, q2, q3, q4, q5⟩; have L2 := L0.trans q5; have M2 := L2.s [w.heap.size + 1 + 1]; clear HR1 _h)
    | (have _h := HR2; go_at_call 110; (with_reducible refine (HR2 _).mono ?_); rintro e w3 ⟨b3, A3, n3, c3, b4, A4, n4, c4, rfl, r1, r2, r3, r4, r5⟩; have L3 := L2.trans r5; have M3 := L3.s [w.heap.size + 1 + 1]; clear HR2 _h)
    | (go_at_call 109; refine (ratOver_any b1 A1 n1 c1 _ b2 A2 n2 c2 _ b3 A3 n3 c3 _ b4 A4 n4 c4 _ _ (q1.later r5) (q3.later r5) r1 r3 HD1.out HD2.out (by omega) (by omega) (by omega) (by omega)).mono ?_; rintro e w4 ⟨b, A, n, c, b', A', n', c', rfl, s1, s2, s3, s4, s5⟩; have L4 := L3.trans s5; have M4 := L4.s [w.heap.size + 1 + 1]; have K4 := E3.later L4; have e0 := K4.cell 0; have e1 := K4.cell 1; have e2 := K4.cell 2; have e3 := K4.cell 3; have f0 := K4.frozen 0; have f1 := K4.frozen 1; have f2 := K4.frozen 2; have f3 := K4.frozen 3))
 go_wp2
 refine bodyPost_ret (v := .tuple #[.agg #[.bool b, .slice A n c, .bool b', .slice A' n' c'], .int .i64 0]) (by simp [results, Tryz.results95, go_sem, e0, e1, e2, e3]) rfl ?_
 have := RatPost.close (N := 100) K4 s1 s3 (LA.trans L4) (by omega) (by omega) (by omega)
 obtain ⟨b5, A5, n5, c5, b6, A6, n6, c6, h0, t1, t2, t3, t4, t5⟩ := this
 cases h0
 exact ⟨_, _, _, _, _, _, _, _, rfl, t1, t2, t3, t4, t5⟩
end Go.Proofs.YteocdndanehpnaaGreat
namespace Go.Proofs.YteocdndanehpnaaGreat
open Go.RowKit
theorem sub_cross {a b c d : Int} (hb : 0 < b) (hd : 0 < d) : (lowN a b * lowD c d - lowN c d * lowD a b) * (b * d) = (a * d - c * b) * (lowD a b * lowD c d) := by
 obtain ⟨h1, h2⟩ := low_mul (x := a) hb
 obtain ⟨h3, h4⟩ := low_mul (x := c) hd
 generalize lowN a b = p at *
 generalize lowD a b = q at *
 generalize lowN c d = r at *
 generalize lowD c d = s at *
 generalize (Int.gcd a b : Int) = g at *
 generalize (Int.gcd c d : Int) = k at *
 rw [← h1, ← h2, ← h3, ← h4]
 grind
theorem low_sub {a b c d : Int} (hb : 0 < b) (hd : 0 < d) : lowN (lowN a b * lowD c d - lowN c d * lowD a b) (lowD a b * lowD c d) = lowN (a * d - c * b) (b * d) ∧ lowD (lowN a b * lowD c d - lowN c d * lowD a b) (lowD a b * lowD c d) = lowD (a * d - c * b) (b * d) :=
 low_congr (Int.mul_pos (lowD_pos hb) (lowD_pos hd)) (Int.mul_pos hb hd) (sub_cross hb hd)
theorem shSubX {a b c d : Int} (h1 : Fits a b) (h2 : Fits c d) (h3 : Fits (a * d - c * b) (b * d)) (w : World) :
  Calls Tryz.prog 65 #[.agg (shA a b), .agg (shA c d)] w (ShR w (shA (a * d - c * b) (b * d)) 0) := by
 obtain ⟨k1, k2, k3, k4, k5⟩ := (shV_self a b).facts h1
 obtain ⟨m1, m2, m3, m4, m5⟩ := (shV_self c d).facts h2
 have := shSub_ok _ _ _ _ k1 k2 m1 m2 k5 m5 w
 rw [k3, k4, m3, m4, (low_sub h1.1 h2.1).1, (low_sub h1.1 h2.1).2] at this
 exact this.mono fun _ _ h => (h.fits h3).r
theorem shCmpX {a b c d : Int} (h1 : Fits a b) (h2 : Fits c d) (w : World) :
  Calls Tryz.prog 71 #[.agg (shA a b), .agg (shA c d)] w (fun e w' => e = .returned (.tuple #[.int .i64 (sideOf (a * d - c * b)), .int .i64 0]) ∧ Lat w w') := by
 obtain ⟨k1, k2, k3, k4, k5⟩ := (shV_self a b).facts h1
 obtain ⟨m1, m2, m3, m4, m5⟩ := (shV_self c d).facts h2
 have := shCmp_ok _ _ _ _ k1 k2 m1 m2 k5 m5 w
 rw [k3, k4, m3, m4, side_low h1.1 h2.1] at this
 exact this
end Go.Proofs.YteocdndanehpnaaGreat
