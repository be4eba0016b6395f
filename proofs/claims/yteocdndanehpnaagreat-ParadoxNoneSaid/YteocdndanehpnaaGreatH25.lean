/- Several texts in one: ShX, RatA. -/
import Derived.Test.YteocdndanehpnaaGreatH13
import Derived.Test.YteocdndanehpnaaGreatH19
import Derived.Test.YteocdndanehpnaaGreatH23
import Derived.Test.YteocdndanehpnaaGreatH14
import Derived.Test.YteocdndanehpnaaGreatH20
import Derived.Test.YteocdndanehpnaaGreatH12
namespace Go.Proofs.YteocdndanehpnaaGreat
open Go.RowKit
def shA (N D : Int) : Array Value := #[.int .u64 (W8.of (lowN N D)).a0, .int .u64 (W8.of (lowN N D)).a1, .int .u64 (W8.of (lowN N D)).a2, .int .u64 (W8.of (lowN N D)).a3, .int .u64 (W8.of (lowN N D)).a4, .int .u64 (W8.of (lowN N D)).a5, .int .u64 (W8.of (lowN N D)).a6, .int .u64 (W8.of (lowN N D)).a7, .int .u64 (W8.of (lowD N D)).a0, .int .u64 (W8.of (lowD N D)).a1, .int .u64 (W8.of (lowD N D)).a2, .int .u64 (W8.of (lowD N D)).a3, .int .u64 (W8.of (lowD N D)).a4, .int .u64 (W8.of (lowD N D)).a5, .int .u64 (W8.of (lowD N D)).a6, .int .u64 (W8.of (lowD N D)).a7]
def GoodX (X : Array Value) : Prop := X.size = 16 ∧ X.all (·.oneCell') = true ∧ ∃ u v : W8, u.ok ∧ v.ok ∧ X = #[.int .u64 u.a0, .int .u64 u.a1, .int .u64 u.a2, .int .u64 u.a3, .int .u64 u.a4, .int .u64 u.a5, .int .u64 u.a6, .int .u64 u.a7, .int .u64 v.a0, .int .u64 v.a1, .int .u64 v.a2, .int .u64 v.a3, .int .u64 v.a4, .int .u64 v.a5, .int .u64 v.a6, .int .u64 v.a7]
theorem good_of {u v : W8} (hu : u.ok) (hv : v.ok) : GoodX #[.int .u64 u.a0, .int .u64 u.a1, .int .u64 u.a2, .int .u64 u.a3, .int .u64 u.a4, .int .u64 u.a5, .int .u64 u.a6, .int .u64 u.a7, .int .u64 v.a0, .int .u64 v.a1, .int .u64 v.a2, .int .u64 v.a3, .int .u64 v.a4, .int .u64 v.a5, .int .u64 v.a6, .int .u64 v.a7] := ⟨rfl, by simp [Value.oneCell'], u, v, hu, hv, rfl⟩
theorem shA_good (N D : Int) : GoodX (shA N D) := good_of (W8.of_ok _) (W8.of_ok _)
theorem GoodX.eql {X : Array Value} (h : GoodX X) (w : World) : (binOp .eql 99 (.agg X) (.agg X)).run Tryz.prog w = .ok (.bool true) w := by
 obtain ⟨_, _, u, v, hu, hv, rfl⟩ := h
 obtain ⟨r, hr, hi⟩ := share_eq hu hv hu hv w
 rw [run_eql_struct, hr, hi.2 ⟨rfl, rfl⟩]
 rfl
def ShR (w : World) (X : Array Value) (er : Int) (e : Ending) (w' : World) : Prop := e = .returned (.tuple #[.agg X, .int .i64 er]) ∧ Lat w w'
theorem ShPost.r {w w' : World} {N D : Int} {e : Ending} (h : ShPost w N D e w') : ShR w (shA N D) 0 e w' := by
 obtain ⟨u, v, rfl, ⟨rfl, rfl⟩, hl⟩ := h
 exact ⟨rfl, hl⟩
theorem shareInfo16 : (Tryz.prog.info? 99).map (·.size) = some 16 := by kernel_rfl
theorem GoodX.info {X : Array Value} (h : GoodX X) : (Tryz.prog.info? 99).map (·.size) = some X.size := by rw [h.1]; exact shareInfo16
theorem shOfX (n d : Int) (w : World) (h0 : 0 < d) (h1 : d ≤ 9223372036854775807) (h2 : -9223372036854775808 ≤ n) (h3 : n ≤ 9223372036854775807) :
  Calls Tryz.prog 64 #[.int .i64 n, .int .i64 d] w (ShR w (shA n d) 0) :=
 (shOf_ok n d (by omega) h2 (by omega) (by omega) (by omega) w).mono fun _ _ h => (h.fits (fits_small h0 h1 h2 h3)).r
theorem shV_self (N D : Int) : ShV (W8.of (lowN N D)) (W8.of (lowD N D)) N D := ⟨rfl, rfl⟩
end Go.Proofs.YteocdndanehpnaaGreat
namespace Go.Proofs.YteocdndanehpnaaGreat
open Go.RowKit
set_option maxRecDepth 100000 in
set_option maxHeartbeats 8000000 in
theorem ratPlus_any (b1 : Bool) (A1 : Option Addr) (n1 c1 : Nat) (x1 : Int) (b2 : Bool) (A2 : Option Addr) (n2 c2 : Nat) (y1 : Int) (b3 : Bool) (A3 : Option Addr) (n3 c3 : Nat) (x2 : Int) (b4 : Bool) (A4 : Option Addr) (n4 c4 : Nat) (y2 : Int) (w : World)
  (h1 : Lg w b1 A1 n1 c1 x1) (h2 : Lg w b2 A2 n2 c2 y1) (h3 : Lg w b3 A3 n3 c3 x2) (h4 : Lg w b4 A4 n4 c4 y2) (hy1 : y1 ≠ 0) (hy2 : y2 ≠ 0) (g1 : n1 ≤ 10000) (g2 : n2 ≤ 10000) (g3 : n3 ≤ 10000) (g4 : n4 ≤ 10000) :
  Calls Tryz.prog 116 #[.agg #[.bool b1, .slice A1 n1 c1, .bool b2, .slice A2 n2 c2], .agg #[.bool b3, .slice A3 n3 c3, .bool b4, .slice A4 n4 c4]] w (RatPost w (lowN (x1 * y2 + x2 * y1) (y1 * y2)) (lowD (x1 * y2 + x2 * y1) (y1 * y2)) (n1 + n2 + n2 + n3 + n4 + n4 + 4)) := by
 have H1 := Lib.hid h1
 have H2 := Lib.hid h2
 have H3 := Lib.hid h3
 have H4 := Lib.hid h4
 have hy : Hid (y1 * y2 ≠ 0) := Int.mul_ne_zero hy1 hy2
 clear h1 h2 h3 h4 hy1 hy2
 go_enter Tryz.func116, Tryz.ntmps116
 go_wp2
 refine name3 (Q := fun W => Code.wp _ _ _ _ W) ?_
 intro W hl hs k1 k2 k3
 have HX : ∀ w1, Lat W w1 → Calls Tryz.prog 120 #[.agg #[.bool b1, .slice A1 n1 c1], .agg #[.bool b4, .slice A4 n4 c4]] w1 (LongPost w1 (x1 * y2) (n1 + n4)) := fun w1 h => ltimes_any b1 A1 n1 c1 x1 b4 A4 n4 c4 y2 w1 (H1.out.later (hl.trans h)) (H4.out.later (hl.trans h)) (by omega) (by omega)
 have HY : ∀ w1, Lat W w1 → Calls Tryz.prog 120 #[.agg #[.bool b3, .slice A3 n3 c3], .agg #[.bool b2, .slice A2 n2 c2]] w1 (LongPost w1 (x2 * y1) (n3 + n2)) := fun w1 h => ltimes_any b3 A3 n3 c3 x2 b2 A2 n2 c2 y1 w1 (H3.out.later (hl.trans h)) (H2.out.later (hl.trans h)) (by omega) (by omega)
 have HZ : ∀ w1, Lat W w1 → Calls Tryz.prog 120 #[.agg #[.bool b2, .slice A2 n2 c2], .agg #[.bool b4, .slice A4 n4 c4]] w1 (LongPost w1 (y1 * y2) (n2 + n4)) := fun w1 h => ltimes_any b2 A2 n2 c2 y1 b4 A4 n4 c4 y2 w1 (H2.out.later (hl.trans h)) (H4.out.later (hl.trans h)) (by omega) (by omega)
 have hne1 : w.heap.size ∉ [w.heap.size + 1 + 1] := by simp; omega
 have hne2 : w.heap.size + 1 ∉ [w.heap.size + 1 + 1] := by simp
 have a0 := k1.evS hne1 0 rfl
 have a1 := k1.evS hne1 1 rfl
 have a2 := k1.evS hne1 2 rfl
 have a3 := k1.evS hne1 3 rfl
 have d0 := k2.evS hne2 0 rfl
 have d1 := k2.evS hne2 1 rfl
 have d2 := k2.evS hne2 2 rfl
 have d3 := k2.evS hne2 3 rfl
 have L0 := Lat.drew W
 have M0 := L0.s [w.heap.size + 1 + 1]
 go_region_held3 (fun w' => LatS W [w.heap.size + 1 + 1] w') (first | (with_reducible assumption) | ((repeat refine LatS.set ?_ (by simp) _); (with_reducible assumption)))
  (first
    | (have _h := HX; go_at_call 120; (with_reducible refine (HX _ ?_).mono ?_); (with_reducible assumption); rintro e w1 ⟨b, A, n, c, rfl, q1, q2, q3⟩; have L1 := L0.trans q3; have M1 := L1.s [w.heap.size + 1 + 1]; clear HX _h)
    | (have _h := HY; go_at_call 120; (with_reducible refine (HY _ ?_).mono ?_); (with_reducible assumption); rintro e w2 ⟨b', A', n', c', rfl, r1, r2, r3⟩; have L2 := L1.trans r3; have M2 := L2.s [w.heap.size + 1 + 1]; clear HY _h)
    | (go_at_call 139; refine (plus_any b A n c (x1 * y2) b' A' n' c' (x2 * y1) _ (q1.later r3) r1 (by omega) (by omega)).mono ?_; rintro e w3 ⟨b5, A5, n5, c5, rfl, s1, s2, s3⟩; have L3 := L2.trans s3; have M3 := L3.s [w.heap.size + 1 + 1])
    | (have _h := HZ; go_at_call 120; (with_reducible refine (HZ _ ?_).mono ?_); (with_reducible assumption); rintro e w4 ⟨b6, A6, n6, c6, rfl, t1, t2, t3⟩; have L4 := L3.trans t3; have M4 := L4.s [w.heap.size + 1 + 1]; clear HZ _h)
    | (go_at_call 113; refine (lowest_any b5 A5 n5 c5 (x1 * y2 + x2 * y1) b6 A6 n6 c6 (y1 * y2) _ (s1.later t3) t1 hy.out (by omega) (by omega)).mono ?_; rintro e w5 ⟨b7, A7, n7, c7, b8, A8, n8, c8, rfl, u1, u2, u3, u4, u5⟩; have L5 := L4.trans u5; have M5 := L5.s [w.heap.size + 1 + 1]; have K5 := k3.later L5; have e0 := K5.cell 0; have e1 := K5.cell 1; have e2 := K5.cell 2; have e3 := K5.cell 3; have f0 := K5.frozen 0; have f1 := K5.frozen 1; have f2 := K5.frozen 2; have f3 := K5.frozen 3))
 go_wp2
 refine bodyPost_ret (v := .agg #[.bool b7, .slice A7 n7 c7, .bool b8, .slice A8 n8 c8]) (by simp [results, Tryz.results116, go_sem, e0, e1, e2, e3]) rfl ?_
 exact RatPost.close K5 u1 u3 (hl.trans L5) (by omega) (by omega) (by omega)
set_option maxRecDepth 100000 in
set_option maxHeartbeats 4000000 in
theorem ratTurn_any (b1 : Bool) (A1 : Option Addr) (n1 c1 : Nat) (x1 : Int) (b2 : Bool) (A2 : Option Addr) (n2 c2 : Nat) (y1 : Int) (w : World)
  (h1 : Lg w b1 A1 n1 c1 x1) (h2 : Lg w b2 A2 n2 c2 y1) (g1 : n1 ≤ 100000) :
  Calls Tryz.prog 117 #[.agg #[.bool b1, .slice A1 n1 c1, .bool b2, .slice A2 n2 c2]] w (fun e w' => ∃ b A n c, e = .returned (.agg #[.bool b, .slice A n c, .bool b2, .slice A2 n2 c2]) ∧ Lg w' b A n c (- x1) ∧ n ≤ n1 ∧ Lg w' b2 A2 n2 c2 y1 ∧ Lat w w') := by
 have H1 := Lib.hid h1
 have H2 := Lib.hid h2
 clear h1 h2
 go_enter Tryz.func117, Tryz.ntmps117
 go_wp2
 refine name2 (Q := fun W => Code.wp _ _ _ _ W) ?_
 intro W hl hs k1 k2
 have HX : ∀ w1, Lat W w1 → Calls Tryz.prog 141 #[.agg #[.bool b1, .slice A1 n1 c1]] w1 (LongPost w1 (- x1) n1) := fun w1 h => turned_any b1 A1 n1 c1 x1 w1 (H1.out.later (hl.trans h)) (by omega)
 have hne : w.heap.size ∉ [w.heap.size + 1] := by simp
 have a0 := k1.evS hne 0 rfl
 have a1 := k1.evS hne 1 rfl
 have a2 := k1.evS hne 2 rfl
 have a3 := k1.evS hne 3 rfl
 have L0 := Lat.drew W
 have M0 := L0.s [w.heap.size + 1]
 go_region_held3 (fun w' => LatS W [w.heap.size + 1] w') (first | (with_reducible assumption) | ((repeat refine LatS.set ?_ (by simp) _); (with_reducible assumption)))
  ((have _h := HX; go_at_call 141; (with_reducible refine (HX _ ?_).mono ?_); exact L0; rintro e w1 ⟨b, A, n, c, rfl, q1, q2, q3⟩; have L1 := L0.trans q3; have M1 := L1.s [w.heap.size + 1]; have K2 := k2.later L1; have d0 := K2.cell 0; have d1 := K2.cell 1; have d2 := K2.cell 2; have d3 := K2.cell 3; have f0 := K2.frozen 0; have f1 := K2.frozen 1; have f2 := K2.frozen 2; have f3 := K2.frozen 3; clear HX _h))
 go_wp2
 refine bodyPost_ret (v := .agg #[.bool b, .slice A n c, .bool b2, .slice A2 n2 c2]) (by simp [results, Tryz.results117, go_sem, d0, d1, d2, d3]) rfl ?_
 have hq : Lg w1 b2 A2 n2 c2 y1 := H2.out.later (hl.trans L1)
 obtain ⟨b5, A5, n5, c5, b6, A6, n6, c6, h0, t1, t2, t3, t4, t5⟩ := RatPost.close (N := n1 + n2) K2 q1 hq (hl.trans L1) (by omega) (by omega) (by omega)
 cases h0
 exact ⟨_, _, _, _, rfl, t1, q2, t3, t5⟩
set_option maxRecDepth 100000 in
set_option maxHeartbeats 4000000 in
theorem ratMinus_any (b1 : Bool) (A1 : Option Addr) (n1 c1 : Nat) (x1 : Int) (b2 : Bool) (A2 : Option Addr) (n2 c2 : Nat) (y1 : Int) (b3 : Bool) (A3 : Option Addr) (n3 c3 : Nat) (x2 : Int) (b4 : Bool) (A4 : Option Addr) (n4 c4 : Nat) (y2 : Int) (w : World)
  (h1 : Lg w b1 A1 n1 c1 x1) (h2 : Lg w b2 A2 n2 c2 y1) (h3 : Lg w b3 A3 n3 c3 x2) (h4 : Lg w b4 A4 n4 c4 y2) (hy1 : y1 ≠ 0) (hy2 : y2 ≠ 0) (g1 : n1 ≤ 10000) (g2 : n2 ≤ 10000) (g3 : n3 ≤ 10000) (g4 : n4 ≤ 10000) :
  Calls Tryz.prog 96 #[.agg #[.bool b1, .slice A1 n1 c1, .bool b2, .slice A2 n2 c2], .agg #[.bool b3, .slice A3 n3 c3, .bool b4, .slice A4 n4 c4]] w (RatPost w (lowN (x1 * y2 - x2 * y1) (y1 * y2)) (lowD (x1 * y2 - x2 * y1) (y1 * y2)) (n1 + n2 + n2 + n3 + n4 + n4 + 4)) := by
 have e0 : x1 * y2 - x2 * y1 = x1 * y2 + (- x2) * y1 := by rw [Int.neg_mul]; omega
 rw [e0]
 have H1 := Lib.hid h1
 have H2 := Lib.hid h2
 have H3 := Lib.hid h3
 have H4 := Lib.hid h4
 have hz1 := Lib.hid hy1
 have hz2 := Lib.hid hy2
 clear h1 h2 h3 h4 hy1 hy2 e0
 go_enter Tryz.func96, Tryz.ntmps96
 go_wp2
 refine name3 (Q := fun W => Code.wp _ _ _ _ W) ?_
 intro W hl hs k1 k2 k3
 have hne1 : w.heap.size ∉ [w.heap.size + 1 + 1] := by simp; omega
 have hne2 : w.heap.size + 1 ∉ [w.heap.size + 1 + 1] := by simp
 have a0 := k1.evS hne1 0 rfl
 have a1 := k1.evS hne1 1 rfl
 have a2 := k1.evS hne1 2 rfl
 have a3 := k1.evS hne1 3 rfl
 have d0 := k2.evS hne2 0 rfl
 have d1 := k2.evS hne2 1 rfl
 have d2 := k2.evS hne2 2 rfl
 have d3 := k2.evS hne2 3 rfl
 have L0 := Lat.drew W
 have M0 := L0.s [w.heap.size + 1 + 1]
 go_region_held3 (fun w' => LatS W [w.heap.size + 1 + 1] w') (first | (with_reducible assumption) | ((repeat refine LatS.set ?_ (by simp) _); (with_reducible assumption)))
  (first
    | (go_at_call 117; refine (ratTurn_any b3 A3 n3 c3 x2 b4 A4 n4 c4 y2 _ (H3.out.later (hl.trans L0)) (H4.out.later (hl.trans L0)) (by omega)).mono ?_; rintro e w1 ⟨b, A, n, c, rfl, q1, q2, q3, q4⟩; have L1 := L0.trans q4; have M1 := L1.s [w.heap.size + 1 + 1])
    | (go_at_call 116; refine (ratPlus_any b1 A1 n1 c1 x1 b2 A2 n2 c2 y1 b A n c (- x2) b4 A4 n4 c4 y2 _ (H1.out.later (hl.trans L1)) (H2.out.later (hl.trans L1)) q1 q3 hz1.out hz2.out (by omega) (by omega) (by omega) (by omega)).mono ?_; rintro e w2 ⟨b7, A7, n7, c7, b8, A8, n8, c8, rfl, u1, u2, u3, u4, u5⟩; have L5 := L1.trans u5; have M5 := L5.s [w.heap.size + 1 + 1]; have K5 := k3.later L5; have e0 := K5.cell 0; have e1 := K5.cell 1; have e2 := K5.cell 2; have e3 := K5.cell 3; have f0 := K5.frozen 0; have f1 := K5.frozen 1; have f2 := K5.frozen 2; have f3 := K5.frozen 3))
 go_wp2
 refine bodyPost_ret (v := .agg #[.bool b7, .slice A7 n7 c7, .bool b8, .slice A8 n8 c8]) (by simp [results, Tryz.results96, go_sem, e0, e1, e2, e3]) rfl ?_
 exact RatPost.close K5 u1 u3 (hl.trans L5) (by omega) (by omega) (by omega)
set_option maxRecDepth 100000 in
set_option maxHeartbeats 4000000 in
theorem shTwoM_ok (u1 v1 u2 v2 : W8) (hu1 : u1.ok) (hv1 : v1.ok) (hu2 : u2.ok) (hv2 : v2.ok) (ok1 : ShOk u1.toInt v1.toInt) (ok2 : ShOk u2.toInt v2.toInt) (w : World) :
  Calls Tryz.prog 95 #[.agg #[.int .u64 u1.a0, .int .u64 u1.a1, .int .u64 u1.a2, .int .u64 u1.a3, .int .u64 u1.a4, .int .u64 u1.a5, .int .u64 u1.a6, .int .u64 u1.a7, .int .u64 v1.a0, .int .u64 v1.a1, .int .u64 v1.a2, .int .u64 v1.a3, .int .u64 v1.a4, .int .u64 v1.a5, .int .u64 v1.a6, .int .u64 v1.a7], .agg #[.int .u64 u2.a0, .int .u64 u2.a1, .int .u64 u2.a2, .int .u64 u2.a3, .int .u64 u2.a4, .int .u64 u2.a5, .int .u64 u2.a6, .int .u64 u2.a7, .int .u64 v2.a0, .int .u64 v2.a1, .int .u64 v2.a2, .int .u64 v2.a3, .int .u64 v2.a4, .int .u64 v2.a5, .int .u64 v2.a6, .int .u64 v2.a7], .func (.func 96) #[] #[]] w
   (fun e w' => ∃ b A n c b' A' n' c', e = .returned (.tuple #[.agg #[.bool b, .slice A n c, .bool b', .slice A' n' c'], .int .i64 0]) ∧ Lg w' b A n c (lowN (u1.toInt * v2.toInt - u2.toInt * v1.toInt) (v1.toInt * v2.toInt)) ∧ n ≤ 100 ∧ Lg w' b' A' n' c' (lowD (u1.toInt * v2.toInt - u2.toInt * v1.toInt) (v1.toInt * v2.toInt)) ∧ n' ≤ 100 ∧ Lat w w') := by
 have HV := shValid_two u1 v1 u2 v2 hu1 hv1 hu2 hv2 ok1 ok2
 have HR1 := ratRead_any u1 v1 hu1 hv1
 have HR2 := ratRead_any u2 v2 hu2 hv2
 have hd1 : v1.toInt ≠ 0 := by have := ok1.1; omega
 have hd2 : v2.toInt ≠ 0 := by have := ok2.1; omega
 have HD1 := Lib.hid hd1
 have HD2 := Lib.hid hd2
 clear hu1 hv1 hu2 hv2 ok1 ok2 hd1 hd2
 go_enter Tryz.func95, Tryz.ntmps95
 go_wp2_with fail
 refine name4 (Q := fun W => Calls _ _ _ W _) ?_
 intro W hl hs k1 k2 k3 k4
 refine (HV W _ _ _ k4).mono ?_
 rintro e w1 ⟨rfl, h1⟩
 have LA := hl.trans h1
 have E1 : Blk w1 w.heap.size 99 #[.int .u64 u1.a0, .int .u64 u1.a1, .int .u64 u1.a2, .int .u64 u1.a3, .int .u64 u1.a4, .int .u64 u1.a5, .int .u64 u1.a6, .int .u64 u1.a7, .int .u64 v1.a0, .int .u64 v1.a1, .int .u64 v1.a2, .int .u64 v1.a3, .int .u64 v1.a4, .int .u64 v1.a5, .int .u64 v1.a6, .int .u64 v1.a7] := k1.later h1
 have E2 : Blk w1 (w.heap.size + 1) 99 #[.int .u64 u2.a0, .int .u64 u2.a1, .int .u64 u2.a2, .int .u64 u2.a3, .int .u64 u2.a4, .int .u64 u2.a5, .int .u64 u2.a6, .int .u64 u2.a7, .int .u64 v2.a0, .int .u64 v2.a1, .int .u64 v2.a2, .int .u64 v2.a3, .int .u64 v2.a4, .int .u64 v2.a5, .int .u64 v2.a6, .int .u64 v2.a7] := k2.later h1
 have E3 := k3.later h1
 clear k1 k2 k3 k4 HV
 have hne1 : w.heap.size ∉ [w.heap.size + 1 + 1] := by simp; omega
 have hne2 : w.heap.size + 1 ∉ [w.heap.size + 1 + 1] := by simp
 have a0 := E1.evS hne1 0 rfl
 have a1 := E1.evS hne1 1 rfl
 have a2 := E1.evS hne1 2 rfl
 have a3 := E1.evS hne1 3 rfl
 have a4 := E1.evS hne1 4 rfl
 have a5 := E1.evS hne1 5 rfl
 have a6 := E1.evS hne1 6 rfl
 have a7 := E1.evS hne1 7 rfl
 have a8 := E1.evS hne1 8 rfl
 have a9 := E1.evS hne1 9 rfl
 have a10 := E1.evS hne1 10 rfl
 have a11 := E1.evS hne1 11 rfl
 have a12 := E1.evS hne1 12 rfl
 have a13 := E1.evS hne1 13 rfl
 have a14 := E1.evS hne1 14 rfl
 have a15 := E1.evS hne1 15 rfl
 have d0 := E2.evS hne2 0 rfl
 have d1 := E2.evS hne2 1 rfl
 have d2 := E2.evS hne2 2 rfl
 have d3 := E2.evS hne2 3 rfl
 have d4 := E2.evS hne2 4 rfl
 have d5 := E2.evS hne2 5 rfl
 have d6 := E2.evS hne2 6 rfl
 have d7 := E2.evS hne2 7 rfl
 have d8 := E2.evS hne2 8 rfl
 have d9 := E2.evS hne2 9 rfl
 have d10 := E2.evS hne2 10 rfl
 have d11 := E2.evS hne2 11 rfl
 have d12 := E2.evS hne2 12 rfl
 have d13 := E2.evS hne2 13 rfl
 have d14 := E2.evS hne2 14 rfl
 have d15 := E2.evS hne2 15 rfl
 clear E1 E2
 go_wp2
 have L0 := Lat.drew w1
 have M0 := L0.s [w.heap.size + 1 + 1]
 go_region_held3 (fun w' => LatS w1 [w.heap.size + 1 + 1] w') (first | assumption | ((repeat refine LatS.set ?_ (by simp) _); assumption))
  (first
    | (have _h := HR1; go_at_call 110; (with_reducible refine (HR1 _).mono ?_); rintro e w2 ⟨b1, A1, n1, c1, b2, A2, n2, c2, rfl, q1, q2, q3, q4, q5⟩; have L2 := L0.trans q5; have M2 := L2.s [w.heap.size + 1 + 1]; clear HR1 _h)
    | (have _h := HR2; go_at_call 110; (with_reducible refine (HR2 _).mono ?_); rintro e w3 ⟨b3, A3, n3, c3, b4, A4, n4, c4, rfl, r1, r2, r3, r4, r5⟩; have L3 := L2.trans r5; have M3 := L3.s [w.heap.size + 1 + 1]; clear HR2 _h)
    | (go_at_call 96; refine (ratMinus_any b1 A1 n1 c1 _ b2 A2 n2 c2 _ b3 A3 n3 c3 _ b4 A4 n4 c4 _ _ (q1.later r5) (q3.later r5) r1 r3 HD1.out HD2.out (by omega) (by omega) (by omega) (by omega)).mono ?_; rintro e w4 ⟨b, A, n, c, b', A', n', c', rfl, s1, s2, s3, s4, s5⟩; have L4 := L3.trans s5; have M4 := L4.s [w.heap.size + 1 + 1]; have K4 := E3.later L4; have e0 := K4.cell 0; have e1 := K4.cell 1; have e2 := K4.cell 2; have e3 := K4.cell 3; have f0 := K4.frozen 0; have f1 := K4.frozen 1; have f2 := K4.frozen 2; have f3 := K4.frozen 3))
 go_wp2
 refine bodyPost_ret (v := .tuple #[.agg #[.bool b, .slice A n c, .bool b', .slice A' n' c'], .int .i64 0]) (by simp [results, Tryz.results95, go_sem, e0, e1, e2, e3]) rfl ?_
 have := RatPost.close (N := 100) K4 s1 s3 (LA.trans L4) (by omega) (by omega) (by omega)
 obtain ⟨b5, A5, n5, c5, b6, A6, n6, c6, h0, t1, t2, t3, t4, t5⟩ := this
 cases h0
 exact ⟨_, _, _, _, _, _, _, _, rfl, t1, t2, t3, t4, t5⟩
set_option maxRecDepth 100000 in
set_option maxHeartbeats 4000000 in
theorem shSub_ok (u1 v1 u2 v2 : W8) (hu1 : u1.ok) (hv1 : v1.ok) (hu2 : u2.ok) (hv2 : v2.ok) (ok1 : ShOk u1.toInt v1.toInt) (ok2 : ShOk u2.toInt v2.toInt) (w : World) :
  Calls Tryz.prog 65 #[.agg #[.int .u64 u1.a0, .int .u64 u1.a1, .int .u64 u1.a2, .int .u64 u1.a3, .int .u64 u1.a4, .int .u64 u1.a5, .int .u64 u1.a6, .int .u64 u1.a7, .int .u64 v1.a0, .int .u64 v1.a1, .int .u64 v1.a2, .int .u64 v1.a3, .int .u64 v1.a4, .int .u64 v1.a5, .int .u64 v1.a6, .int .u64 v1.a7], .agg #[.int .u64 u2.a0, .int .u64 u2.a1, .int .u64 u2.a2, .int .u64 u2.a3, .int .u64 u2.a4, .int .u64 u2.a5, .int .u64 u2.a6, .int .u64 u2.a7, .int .u64 v2.a0, .int .u64 v2.a1, .int .u64 v2.a2, .int .u64 v2.a3, .int .u64 v2.a4, .int .u64 v2.a5, .int .u64 v2.a6, .int .u64 v2.a7]] w
   (SharePost w (lowN (u1.toInt * v2.toInt - u2.toInt * v1.toInt) (v1.toInt * v2.toInt)) (lowD (u1.toInt * v2.toInt - u2.toInt * v1.toInt) (v1.toInt * v2.toInt))) := by
 have H := shTwoM_ok u1 v1 u2 v2 hu1 hv1 hu2 hv2 ok1 ok2
 obtain ⟨N, hN⟩ : ∃ s, lowN (u1.toInt * v2.toInt - u2.toInt * v1.toInt) (v1.toInt * v2.toInt) = s := ⟨_, rfl⟩
 obtain ⟨D, hD⟩ : ∃ s, lowD (u1.toInt * v2.toInt - u2.toInt * v1.toInt) (v1.toInt * v2.toInt) = s := ⟨_, rfl⟩
 rw [hN, hD] at H
 rw [hN, hD]
 clear hu1 hv1 hu2 hv2 ok1 ok2 hN hD
 go_enter Tryz.func65, Tryz.ntmps65
 go_wp2_with fail
 refine name3 (Q := fun W => Calls _ _ _ W _) ?_
 intro W hl hs k1 k2 k3
 refine (H W).mono ?_
 rintro e w1 ⟨b, A, n, c, b', A', n', c', rfl, q1, q2, q3, q4, q5⟩
 have LA := hl.trans q5
 have E3 := k3.later q5
 clear k1 k2 k3 H
 go_wp2_with fail
 refine (shTold_ok b A n c N b' A' n' c' D w1 q1 q3 (by omega) (by omega)).mono ?_
 rintro e w2 ⟨u, v, r, rfl, r1, r2⟩
 have LB := LA.trans r2
 have I3 := E3.later r2
 have R1 := Lib.hid r1
 clear r1 E3 q1 q3
 have c0 := I3.cell 0
 have c1 := I3.cell 1
 have c2 := I3.cell 2
 have c3 := I3.cell 3
 have c4 := I3.cell 4
 have c5 := I3.cell 5
 have c6 := I3.cell 6
 have c7 := I3.cell 7
 have c8 := I3.cell 8
 have c9 := I3.cell 9
 have c10 := I3.cell 10
 have c11 := I3.cell 11
 have c12 := I3.cell 12
 have c13 := I3.cell 13
 have c14 := I3.cell 14
 have c15 := I3.cell 15
 have f0 := I3.frozen 0
 have f1 := I3.frozen 1
 have f2 := I3.frozen 2
 have f3 := I3.frozen 3
 have f4 := I3.frozen 4
 have f5 := I3.frozen 5
 have f6 := I3.frozen 6
 have f7 := I3.frozen 7
 have f8 := I3.frozen 8
 have f9 := I3.frozen 9
 have f10 := I3.frozen 10
 have f11 := I3.frozen 11
 have f12 := I3.frozen 12
 have f13 := I3.frozen 13
 have f14 := I3.frozen 14
 have f15 := I3.frozen 15
 go_wp2
 refine bodyPost_ret (v := .tuple #[.agg #[.int .u64 u.a0, .int .u64 u.a1, .int .u64 u.a2, .int .u64 u.a3, .int .u64 u.a4, .int .u64 u.a5, .int .u64 u.a6, .int .u64 u.a7, .int .u64 v.a0, .int .u64 v.a1, .int .u64 v.a2, .int .u64 v.a3, .int .u64 v.a4, .int .u64 v.a5, .int .u64 v.a6, .int .u64 v.a7], .int .i64 r]) (by simp [results, Tryz.results65, go_sem, c0, c1, c2, c3, c4, c5, c6, c7, c8, c9, c10, c11, c12, c13, c14, c15]) rfl ?_
 refine ⟨u, v, r, rfl, R1.out, ?_⟩
 iterate 16 (refine Lat.setCell ?_ (by simp; try omega) _)
 exact LB
end Go.Proofs.YteocdndanehpnaaGreat
