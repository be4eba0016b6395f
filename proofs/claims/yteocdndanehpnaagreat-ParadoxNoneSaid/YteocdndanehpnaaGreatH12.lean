/- Several texts in one: ShareE, ShareF, ShareG. -/
import Derived.Test.YteocdndanehpnaaGreatH11
import Derived.Deep.MidRow
namespace Go.Proofs.YteocdndanehpnaaGreat
open Go.RowKit
set_option maxRecDepth 100000 in
set_option maxHeartbeats 4000000 in
theorem shRight_ok (u v : W8) (hu : u.ok) (hv : v.ok) (hok : ShOk u.toInt v.toInt) (w : World) :
  Calls Tryz.prog 133 #[.agg #[.int .u64 u.a0, .int .u64 u.a1, .int .u64 u.a2, .int .u64 u.a3, .int .u64 u.a4, .int .u64 u.a5, .int .u64 u.a6, .int .u64 u.a7, .int .u64 v.a0, .int .u64 v.a1, .int .u64 v.a2, .int .u64 v.a3, .int .u64 v.a4, .int .u64 v.a5, .int .u64 v.a6, .int .u64 v.a7]] w (fun e w' => e = .returned (.bool true) ∧ Lat w w') := by
 have HC : ∀ w, Calls Tryz.prog 134 #[.agg #[.int .u64 u.a0, .int .u64 u.a1, .int .u64 u.a2, .int .u64 u.a3, .int .u64 u.a4, .int .u64 u.a5, .int .u64 u.a6, .int .u64 u.a7, .int .u64 v.a0, .int .u64 v.a1, .int .u64 v.a2, .int .u64 v.a3, .int .u64 v.a4, .int .u64 v.a5, .int .u64 v.a6, .int .u64 v.a7]] w (fun e w' => e = .returned (.int .i64 0) ∧ Lat w w') := fun w => shCheck_ok u v hu hv hok w
 clear hu hv hok
 go_enter Tryz.func133, Tryz.ntmps133
 go_wp2_with fail
 refine name1 (Q := fun W => Calls _ _ _ W _) ?_
 intro W hl hs k1
 refine (HC W).mono ?_
 rintro e w1 ⟨rfl, h1⟩
 go_wp2
 go_ret
 exact ⟨rfl, hl.trans h1⟩
theorem shareInfo : (Tryz.prog.info? 99).map (·.size) = some 16 := by kernel_rfl
theorem Blk.range {w : World} {g o : Nat} {t : TypeId} {cs : Array Value} (h : Blk w g t cs) (l : List Value) (hl : ∀ j v, l[j]? = some v → cs[o + j]? = some v) : w.rangeAt g o l :=
 fun j v hj => (h.cell (o + j)).trans (hl j v hj)
set_option maxRecDepth 100000 in
set_option maxHeartbeats 4000000 in
theorem shAll_two (u1 v1 u2 v2 : W8) (hu1 : u1.ok) (hv1 : v1.ok) (hu2 : u2.ok) (hv2 : v2.ok) (ok1 : ShOk u1.toInt v1.toInt) (ok2 : ShOk u2.toInt v2.toInt) (w : World) (g c : Nat) (t : TypeId)
  (hb : Blk w g t #[.int .u64 u1.a0, .int .u64 u1.a1, .int .u64 u1.a2, .int .u64 u1.a3, .int .u64 u1.a4, .int .u64 u1.a5, .int .u64 u1.a6, .int .u64 u1.a7, .int .u64 v1.a0, .int .u64 v1.a1, .int .u64 v1.a2, .int .u64 v1.a3, .int .u64 v1.a4, .int .u64 v1.a5, .int .u64 v1.a6, .int .u64 v1.a7, .int .u64 u2.a0, .int .u64 u2.a1, .int .u64 u2.a2, .int .u64 u2.a3, .int .u64 u2.a4, .int .u64 u2.a5, .int .u64 u2.a6, .int .u64 u2.a7, .int .u64 v2.a0, .int .u64 v2.a1, .int .u64 v2.a2, .int .u64 v2.a3, .int .u64 v2.a4, .int .u64 v2.a5, .int .u64 v2.a6, .int .u64 v2.a7]) :
  Calls Tryz.prog 135 #[.func (.func 133) #[] #[], .slice (some ⟨g, 0, none⟩) 2 c] w (fun e w' => e = .returned (.bool true) ∧ Lat w w') := by
 have HR1 : ∀ w, Calls Tryz.prog 133 #[.agg #[.int .u64 u1.a0, .int .u64 u1.a1, .int .u64 u1.a2, .int .u64 u1.a3, .int .u64 u1.a4, .int .u64 u1.a5, .int .u64 u1.a6, .int .u64 u1.a7, .int .u64 v1.a0, .int .u64 v1.a1, .int .u64 v1.a2, .int .u64 v1.a3, .int .u64 v1.a4, .int .u64 v1.a5, .int .u64 v1.a6, .int .u64 v1.a7]] w (fun e w' => e = .returned (.bool true) ∧ Lat w w') := fun w => shRight_ok u1 v1 hu1 hv1 ok1 w
 have HR2 : ∀ w, Calls Tryz.prog 133 #[.agg #[.int .u64 u2.a0, .int .u64 u2.a1, .int .u64 u2.a2, .int .u64 u2.a3, .int .u64 u2.a4, .int .u64 u2.a5, .int .u64 u2.a6, .int .u64 u2.a7, .int .u64 v2.a0, .int .u64 v2.a1, .int .u64 v2.a2, .int .u64 v2.a3, .int .u64 v2.a4, .int .u64 v2.a5, .int .u64 v2.a6, .int .u64 v2.a7]] w (fun e w' => e = .returned (.bool true) ∧ Lat w w') := fun w => shRight_ok u2 v2 hu2 hv2 ok2 w
 clear hu1 hv1 hu2 hv2 ok1 ok2
 go_enter Tryz.func135, Tryz.ntmps135
 go_wp2
 go_loopw [9] (fun i wr => ∃ k : Nat, k ≤ 2 ∧ i = .int .i64 k ∧ Lat w wr) (fun i _ => 2 - (intOf i).toNat)
 case atStart => exact ⟨0, by omega, rfl, Lat.refl w⟩
 case round =>
  rename_i wr
  obtain ⟨k, hk, rfl, hlr⟩ := hrel
  have hB := hb.later hlr
  have hk3 : k = 0 ∨ k = 1 ∨ k = 2 := by omega
  clear hk
  rcases hk3 with rfl | rfl | rfl
  ·
   have hr := (hB.range (o := 0) [.int .u64 u1.a0, .int .u64 u1.a1, .int .u64 u1.a2, .int .u64 u1.a3, .int .u64 u1.a4, .int .u64 u1.a5, .int .u64 u1.a6, .int .u64 u1.a7, .int .u64 v1.a0, .int .u64 v1.a1, .int .u64 v1.a2, .int .u64 v1.a3, .int .u64 v1.a4, .int .u64 v1.a5, .int .u64 v1.a6, .int .u64 v1.a7] (by intro j v hj; rw [Nat.zero_add]; match j, hj with | 0, h | 1, h | 2, h | 3, h | 4, h | 5, h | 6, h | 7, h | 8, h | 9, h | 10, h | 11, h | 12, h | 13, h | 14, h | 15, h => exact h))
   clear hB hb
   go_wp2_with (refine wpList_load_mid (by rfl) 99 _ (by rfl) g 0 (by rfl) [.int .u64 u1.a0, .int .u64 u1.a1, .int .u64 u1.a2, .int .u64 u1.a3, .int .u64 u1.a4, .int .u64 u1.a5, .int .u64 u1.a6, .int .u64 u1.a7, .int .u64 v1.a0, .int .u64 v1.a1, .int .u64 v1.a2, .int .u64 v1.a3, .int .u64 v1.a4, .int .u64 v1.a5, .int .u64 v1.a6, .int .u64 v1.a7] _ hr Tryz.underlying99 rfl shareInfo ?_)
   refine name1 (Q := fun W => Calls _ _ _ W _) ?_
   intro W hl hs k1
   refine (HR1 W).mono ?_
   rintro e w1 ⟨rfl, h1⟩
   have L1 := (hlr.trans hl).trans h1
   go_wp2
   go_roundw
   case rel => exact ⟨1, by omega, rfl, L1⟩
   case measure => simp [intOf]
  ·
   have hr := (hB.range (o := 16) [.int .u64 u2.a0, .int .u64 u2.a1, .int .u64 u2.a2, .int .u64 u2.a3, .int .u64 u2.a4, .int .u64 u2.a5, .int .u64 u2.a6, .int .u64 u2.a7, .int .u64 v2.a0, .int .u64 v2.a1, .int .u64 v2.a2, .int .u64 v2.a3, .int .u64 v2.a4, .int .u64 v2.a5, .int .u64 v2.a6, .int .u64 v2.a7] (by intro j v hj; match j, hj with | 0, h | 1, h | 2, h | 3, h | 4, h | 5, h | 6, h | 7, h | 8, h | 9, h | 10, h | 11, h | 12, h | 13, h | 14, h | 15, h => exact h))
   clear hB hb
   go_wp2_with (refine wpList_load_mid (by rfl) 99 _ (by rfl) g 16 (by rfl) [.int .u64 u2.a0, .int .u64 u2.a1, .int .u64 u2.a2, .int .u64 u2.a3, .int .u64 u2.a4, .int .u64 u2.a5, .int .u64 u2.a6, .int .u64 u2.a7, .int .u64 v2.a0, .int .u64 v2.a1, .int .u64 v2.a2, .int .u64 v2.a3, .int .u64 v2.a4, .int .u64 v2.a5, .int .u64 v2.a6, .int .u64 v2.a7] _ hr Tryz.underlying99 rfl shareInfo ?_)
   refine name1 (Q := fun W => Calls _ _ _ W _) ?_
   intro W hl hs k1
   refine (HR2 W).mono ?_
   rintro e w1 ⟨rfl, h1⟩
   have L1 := (hlr.trans hl).trans h1
   go_wp2
   go_roundw
   case rel => exact ⟨2, by omega, rfl, L1⟩
   case measure => simp [intOf]
  ·go_wp2
   go_ret
   exact ⟨rfl, hlr⟩
end Go.Proofs.YteocdndanehpnaaGreat
namespace Go.Proofs.YteocdndanehpnaaGreat
open Go.RowKit
set_option maxRecDepth 100000 in
set_option maxHeartbeats 4000000 in
theorem shValid_two (u1 v1 u2 v2 : W8) (hu1 : u1.ok) (hv1 : v1.ok) (hu2 : u2.ok) (hv2 : v2.ok) (ok1 : ShOk u1.toInt v1.toInt) (ok2 : ShOk u2.toInt v2.toInt) (w : World) (g c : Nat) (t : TypeId)
  (hb : Blk w g t #[.int .u64 u1.a0, .int .u64 u1.a1, .int .u64 u1.a2, .int .u64 u1.a3, .int .u64 u1.a4, .int .u64 u1.a5, .int .u64 u1.a6, .int .u64 u1.a7, .int .u64 v1.a0, .int .u64 v1.a1, .int .u64 v1.a2, .int .u64 v1.a3, .int .u64 v1.a4, .int .u64 v1.a5, .int .u64 v1.a6, .int .u64 v1.a7, .int .u64 u2.a0, .int .u64 u2.a1, .int .u64 u2.a2, .int .u64 u2.a3, .int .u64 u2.a4, .int .u64 u2.a5, .int .u64 u2.a6, .int .u64 u2.a7, .int .u64 v2.a0, .int .u64 v2.a1, .int .u64 v2.a2, .int .u64 v2.a3, .int .u64 v2.a4, .int .u64 v2.a5, .int .u64 v2.a6, .int .u64 v2.a7]) :
  Calls Tryz.prog 108 #[.slice (some ⟨g, 0, none⟩) 2 c] w (fun e w' => e = .returned (.bool true) ∧ Lat w w') := by
 have HA := shAll_two u1 v1 u2 v2 hu1 hv1 hu2 hv2 ok1 ok2 w g c t hb
 clear hb
 go_enter Tryz.func108, Tryz.ntmps108
 go_wp2_with fail
 refine HA.mono ?_
 rintro e w1 ⟨rfl, h1⟩
 go_wp2
 go_ret
 exact ⟨rfl, h1⟩
set_option maxRecDepth 100000 in
set_option maxHeartbeats 4000000 in
theorem shTwoR_ok (u1 v1 u2 v2 : W8) (hu1 : u1.ok) (hv1 : v1.ok) (hu2 : u2.ok) (hv2 : v2.ok) (ok1 : ShOk u1.toInt v1.toInt) (ok2 : ShOk u2.toInt v2.toInt) (w : World) :
  Calls Tryz.prog 95 #[.agg #[.int .u64 u1.a0, .int .u64 u1.a1, .int .u64 u1.a2, .int .u64 u1.a3, .int .u64 u1.a4, .int .u64 u1.a5, .int .u64 u1.a6, .int .u64 u1.a7, .int .u64 v1.a0, .int .u64 v1.a1, .int .u64 v1.a2, .int .u64 v1.a3, .int .u64 v1.a4, .int .u64 v1.a5, .int .u64 v1.a6, .int .u64 v1.a7], .agg #[.int .u64 u2.a0, .int .u64 u2.a1, .int .u64 u2.a2, .int .u64 u2.a3, .int .u64 u2.a4, .int .u64 u2.a5, .int .u64 u2.a6, .int .u64 u2.a7, .int .u64 v2.a0, .int .u64 v2.a1, .int .u64 v2.a2, .int .u64 v2.a3, .int .u64 v2.a4, .int .u64 v2.a5, .int .u64 v2.a6, .int .u64 v2.a7], .func (.func 107) #[] #[]] w
   (fun e w' => ∃ b A n c b' A' n' c', e = .returned (.tuple #[.agg #[.bool b, .slice A n c, .bool b', .slice A' n' c'], .int .i64 0]) ∧ Lg w' b A n c (lowN (u1.toInt * u2.toInt) (v1.toInt * v2.toInt)) ∧ n ≤ 100 ∧ Lg w' b' A' n' c' (lowD (u1.toInt * u2.toInt) (v1.toInt * v2.toInt)) ∧ n' ≤ 100 ∧ Lat w w') := by
 have HV := shValid_two u1 v1 u2 v2 hu1 hv1 hu2 hv2 ok1 ok2
 have HR1 := ratRead_any u1 v1 hu1 hv1
 have HR2 := ratRead_any u2 v2 hu2 hv2
 have hd1 : v1.toInt ≠ 0 := by have := ok1.1; omega
 have hd2 : v2.toInt ≠ 0 := by have := ok2.1; omega
 have HD1 := Lib.hid hd1
 have HD2 := Lib.hid hd2
 clear hu1 hv1 hu2 hv2 ok1 ok2 hd1 hd2
 go_enter Tryz.func95, Tryz.ntmps95
 go_wp2_with fail
 refine name4 (Q := fun W => Calls _ _ _ W _) ?_
 intro W hl hs k1 k2 k3 k4
 refine (HV W _ _ _ k4).mono ?_
 rintro e w1 ⟨rfl, h1⟩
 have LA := hl.trans h1
 have E1 : Blk w1 w.heap.size 99 #[.int .u64 u1.a0, .int .u64 u1.a1, .int .u64 u1.a2, .int .u64 u1.a3, .int .u64 u1.a4, .int .u64 u1.a5, .int .u64 u1.a6, .int .u64 u1.a7, .int .u64 v1.a0, .int .u64 v1.a1, .int .u64 v1.a2, .int .u64 v1.a3, .int .u64 v1.a4, .int .u64 v1.a5, .int .u64 v1.a6, .int .u64 v1.a7] := k1.later h1
 have E2 : Blk w1 (w.heap.size + 1) 99 #[.int .u64 u2.a0, .int .u64 u2.a1, .int .u64 u2.a2, .int .u64 u2.a3, .int .u64 u2.a4, .int .u64 u2.a5, .int .u64 u2.a6, .int .u64 u2.a7, .int .u64 v2.a0, .int .u64 v2.a1, .int .u64 v2.a2, .int .u64 v2.a3, .int .u64 v2.a4, .int .u64 v2.a5, .int .u64 v2.a6, .int .u64 v2.a7] := k2.later h1
 have E3 := k3.later h1
 clear k1 k2 k3 k4 HV
 have hne1 : w.heap.size ∉ [w.heap.size + 1 + 1] := by simp; omega
 have hne2 : w.heap.size + 1 ∉ [w.heap.size + 1 + 1] := by simp
 have a0 := E1.evS hne1 0 rfl
 have a1 := E1.evS hne1 1 rfl
 have a2 := E1.evS hne1 2 rfl
 have a3 := E1.evS hne1 3 rfl
 have a4 := E1.evS hne1 4 rfl
 have a5 := E1.evS hne1 5 rfl
 have a6 := E1.evS hne1 6 rfl
 have a7 := E1.evS hne1 7 rfl
 have a8 := E1.evS hne1 8 rfl
 have a9 := E1.evS hne1 9 rfl
 have a10 := E1.evS hne1 10 rfl
 have a11 := E1.evS hne1 11 rfl
 have a12 := E1.evS hne1 12 rfl
 have a13 := E1.evS hne1 13 rfl
 have a14 := E1.evS hne1 14 rfl
 have a15 := E1.evS hne1 15 rfl
 have d0 := E2.evS hne2 0 rfl
 have d1 := E2.evS hne2 1 rfl
 have d2 := E2.evS hne2 2 rfl
 have d3 := E2.evS hne2 3 rfl
 have d4 := E2.evS hne2 4 rfl
 have d5 := E2.evS hne2 5 rfl
 have d6 := E2.evS hne2 6 rfl
 have d7 := E2.evS hne2 7 rfl
 have d8 := E2.evS hne2 8 rfl
 have d9 := E2.evS hne2 9 rfl
 have d10 := E2.evS hne2 10 rfl
 have d11 := E2.evS hne2 11 rfl
 have d12 := E2.evS hne2 12 rfl
 have d13 := E2.evS hne2 13 rfl
 have d14 := E2.evS hne2 14 rfl
 have d15 := E2.evS hne2 15 rfl
 clear E1 E2
 go_wp2
 have L0 := Lat.drew w1
 have M0 := L0.s [w.heap.size + 1 + 1]
 go_region_held3 (fun w' => LatS w1 [w.heap.size + 1 + 1] w') (first | assumption | ((repeat refine LatS.set ?_ (by simp) _); assumption))
  (first
    | (have _h := HR1; go_at_call 110; (with_reducible refine (HR1 _).mono ?_); rintro e w2 ⟨b1, A1, n1, c1, b2, A2, n2, c2, rfl, q1, q2, q3, q4, q5⟩; have L2 := L0.trans q5; have M2 := L2.s [w.heap.size + 1 + 1]; clear HR1 _h)
    | (have _h := HR2; go_at_call 110; (with_reducible refine (HR2 _).mono ?_); rintro e w3 ⟨b3, A3, n3, c3, b4, A4, n4, c4, rfl, r1, r2, r3, r4, r5⟩; have L3 := L2.trans r5; have M3 := L3.s [w.heap.size + 1 + 1]; clear HR2 _h)
    | (go_at_call 107; refine (ratTimes_any b1 A1 n1 c1 _ b2 A2 n2 c2 _ b3 A3 n3 c3 _ b4 A4 n4 c4 _ _ (q1.later r5) (q3.later r5) r1 r3 HD1.out HD2.out (by omega) (by omega) (by omega) (by omega)).mono ?_; rintro e w4 ⟨b, A, n, c, b', A', n', c', rfl, s1, s2, s3, s4, s5⟩; have L4 := L3.trans s5; have M4 := L4.s [w.heap.size + 1 + 1]; have K4 := E3.later L4; have e0 := K4.cell 0; have e1 := K4.cell 1; have e2 := K4.cell 2; have e3 := K4.cell 3; have f0 := K4.frozen 0; have f1 := K4.frozen 1; have f2 := K4.frozen 2; have f3 := K4.frozen 3))
 go_wp2
 refine bodyPost_ret (v := .tuple #[.agg #[.bool b, .slice A n c, .bool b', .slice A' n' c'], .int .i64 0]) (by simp [results, Tryz.results95, go_sem, e0, e1, e2, e3]) rfl ?_
 have := RatPost.close (N := 100) K4 s1 s3 (LA.trans L4) (by omega) (by omega) (by omega)
 obtain ⟨b5, A5, n5, c5, b6, A6, n6, c6, h0, t1, t2, t3, t4, t5⟩ := this
 cases h0
 exact ⟨_, _, _, _, _, _, _, _, rfl, t1, t2, t3, t4, t5⟩
end Go.Proofs.YteocdndanehpnaaGreat
namespace Go.Proofs.YteocdndanehpnaaGreat
open Go.RowKit
set_option maxRecDepth 100000 in
set_option maxHeartbeats 4000000 in
theorem shTwoI_ok (u1 v1 u2 v2 : W8) (hu1 : u1.ok) (hv1 : v1.ok) (hu2 : u2.ok) (hv2 : v2.ok) (ok1 : ShOk u1.toInt v1.toInt) (ok2 : ShOk u2.toInt v2.toInt) (w : World) :
  Calls Tryz.prog 98 #[.agg #[.int .u64 u1.a0, .int .u64 u1.a1, .int .u64 u1.a2, .int .u64 u1.a3, .int .u64 u1.a4, .int .u64 u1.a5, .int .u64 u1.a6, .int .u64 u1.a7, .int .u64 v1.a0, .int .u64 v1.a1, .int .u64 v1.a2, .int .u64 v1.a3, .int .u64 v1.a4, .int .u64 v1.a5, .int .u64 v1.a6, .int .u64 v1.a7], .agg #[.int .u64 u2.a0, .int .u64 u2.a1, .int .u64 u2.a2, .int .u64 u2.a3, .int .u64 u2.a4, .int .u64 u2.a5, .int .u64 u2.a6, .int .u64 u2.a7, .int .u64 v2.a0, .int .u64 v2.a1, .int .u64 v2.a2, .int .u64 v2.a3, .int .u64 v2.a4, .int .u64 v2.a5, .int .u64 v2.a6, .int .u64 v2.a7], .func (.func 99) #[] #[]] w
   (fun e w' => e = .returned (.tuple #[.int .i64 (sideOf (u1.toInt * v2.toInt - u2.toInt * v1.toInt)), .int .i64 0]) ∧ Lat w w') := by
 have HV := shValid_two u1 v1 u2 v2 hu1 hv1 hu2 hv2 ok1 ok2
 have HR1 := ratRead_any u1 v1 hu1 hv1
 have HR2 := ratRead_any u2 v2 hu2 hv2
 clear hu1 hv1 hu2 hv2 ok1 ok2
 go_enter Tryz.func98, Tryz.ntmps98
 go_wp2_with fail
 refine name3 (Q := fun W => Calls _ _ _ W _) ?_
 intro W hl hs k1 k2 k4
 refine (HV W _ _ _ k4).mono ?_
 rintro e w1 ⟨rfl, h1⟩
 have LA := hl.trans h1
 have E1 : Blk w1 w.heap.size 99 #[.int .u64 u1.a0, .int .u64 u1.a1, .int .u64 u1.a2, .int .u64 u1.a3, .int .u64 u1.a4, .int .u64 u1.a5, .int .u64 u1.a6, .int .u64 u1.a7, .int .u64 v1.a0, .int .u64 v1.a1, .int .u64 v1.a2, .int .u64 v1.a3, .int .u64 v1.a4, .int .u64 v1.a5, .int .u64 v1.a6, .int .u64 v1.a7] := k1.later h1
 have E2 : Blk w1 (w.heap.size + 1) 99 #[.int .u64 u2.a0, .int .u64 u2.a1, .int .u64 u2.a2, .int .u64 u2.a3, .int .u64 u2.a4, .int .u64 u2.a5, .int .u64 u2.a6, .int .u64 u2.a7, .int .u64 v2.a0, .int .u64 v2.a1, .int .u64 v2.a2, .int .u64 v2.a3, .int .u64 v2.a4, .int .u64 v2.a5, .int .u64 v2.a6, .int .u64 v2.a7] := k2.later h1
 clear k1 k2 k4 HV
 have hne1 : w.heap.size ∉ ([] : List Nat) := by simp
 have hne2 : w.heap.size + 1 ∉ ([] : List Nat) := by simp
 have a0 := E1.evS hne1 0 rfl
 have a1 := E1.evS hne1 1 rfl
 have a2 := E1.evS hne1 2 rfl
 have a3 := E1.evS hne1 3 rfl
 have a4 := E1.evS hne1 4 rfl
 have a5 := E1.evS hne1 5 rfl
 have a6 := E1.evS hne1 6 rfl
 have a7 := E1.evS hne1 7 rfl
 have a8 := E1.evS hne1 8 rfl
 have a9 := E1.evS hne1 9 rfl
 have a10 := E1.evS hne1 10 rfl
 have a11 := E1.evS hne1 11 rfl
 have a12 := E1.evS hne1 12 rfl
 have a13 := E1.evS hne1 13 rfl
 have a14 := E1.evS hne1 14 rfl
 have a15 := E1.evS hne1 15 rfl
 have d0 := E2.evS hne2 0 rfl
 have d1 := E2.evS hne2 1 rfl
 have d2 := E2.evS hne2 2 rfl
 have d3 := E2.evS hne2 3 rfl
 have d4 := E2.evS hne2 4 rfl
 have d5 := E2.evS hne2 5 rfl
 have d6 := E2.evS hne2 6 rfl
 have d7 := E2.evS hne2 7 rfl
 have d8 := E2.evS hne2 8 rfl
 have d9 := E2.evS hne2 9 rfl
 have d10 := E2.evS hne2 10 rfl
 have d11 := E2.evS hne2 11 rfl
 have d12 := E2.evS hne2 12 rfl
 have d13 := E2.evS hne2 13 rfl
 have d14 := E2.evS hne2 14 rfl
 have d15 := E2.evS hne2 15 rfl
 clear E1 E2
 go_wp2
 have L0 := Lat.drew w1
 have M0 := L0.s ([] : List Nat)
 go_region_held3 (fun w' => LatS w1 ([] : List Nat) w') (first | assumption | ((repeat refine LatS.set ?_ (by simp) _); assumption))
  (first
    | (have _h := HR1; go_at_call 110; (with_reducible refine (HR1 _).mono ?_); rintro e w2 ⟨b1, A1, n1, c1, b2, A2, n2, c2, rfl, q1, q2, q3, q4, q5⟩; have L2 := L0.trans q5; have M2 := L2.s ([] : List Nat); clear HR1 _h)
    | (have _h := HR2; go_at_call 110; (with_reducible refine (HR2 _).mono ?_); rintro e w3 ⟨b3, A3, n3, c3, b4, A4, n4, c4, rfl, r1, r2, r3, r4, r5⟩; have L3 := L2.trans r5; have M3 := L3.s ([] : List Nat); clear HR2 _h)
    | (go_at_call 99; refine (ratCmp_any b1 A1 n1 c1 _ b2 A2 n2 c2 _ b3 A3 n3 c3 _ b4 A4 n4 c4 _ _ (q1.later r5) (q3.later r5) r1 r3 (by omega) (by omega) (by omega) (by omega)).mono ?_; rintro e w4 ⟨rfl, s5⟩; have L4 := L3.trans s5; have M4 := L4.s ([] : List Nat)))
 go_wp2
 go_ret2
 exact ⟨rfl, LA.trans L4⟩
set_option maxRecDepth 100000 in
set_option maxHeartbeats 4000000 in
theorem shCmp_ok (u1 v1 u2 v2 : W8) (hu1 : u1.ok) (hv1 : v1.ok) (hu2 : u2.ok) (hv2 : v2.ok) (ok1 : ShOk u1.toInt v1.toInt) (ok2 : ShOk u2.toInt v2.toInt) (w : World) :
  Calls Tryz.prog 71 #[.agg #[.int .u64 u1.a0, .int .u64 u1.a1, .int .u64 u1.a2, .int .u64 u1.a3, .int .u64 u1.a4, .int .u64 u1.a5, .int .u64 u1.a6, .int .u64 u1.a7, .int .u64 v1.a0, .int .u64 v1.a1, .int .u64 v1.a2, .int .u64 v1.a3, .int .u64 v1.a4, .int .u64 v1.a5, .int .u64 v1.a6, .int .u64 v1.a7], .agg #[.int .u64 u2.a0, .int .u64 u2.a1, .int .u64 u2.a2, .int .u64 u2.a3, .int .u64 u2.a4, .int .u64 u2.a5, .int .u64 u2.a6, .int .u64 u2.a7, .int .u64 v2.a0, .int .u64 v2.a1, .int .u64 v2.a2, .int .u64 v2.a3, .int .u64 v2.a4, .int .u64 v2.a5, .int .u64 v2.a6, .int .u64 v2.a7]] w
   (fun e w' => e = .returned (.tuple #[.int .i64 (sideOf (u1.toInt * v2.toInt - u2.toInt * v1.toInt)), .int .i64 0]) ∧ Lat w w') := by
 have H := shTwoI_ok u1 v1 u2 v2 hu1 hv1 hu2 hv2 ok1 ok2
 obtain ⟨s, hs⟩ : ∃ s, sideOf (u1.toInt * v2.toInt - u2.toInt * v1.toInt) = s := ⟨_, rfl⟩
 rw [hs] at H ⊢
 clear hu1 hv1 hu2 hv2 ok1 ok2 hs
 go_enter Tryz.func71, Tryz.ntmps71
 go_wp2_with fail
 refine name2 (Q := fun W => Calls _ _ _ W _) ?_
 intro W hl hs k1 k2
 refine (H W).mono ?_
 rintro e w1 ⟨rfl, h1⟩
 go_wp2
 go_ret2
 exact ⟨rfl, hl.trans h1⟩
set_option maxRecDepth 100000 in
set_option maxHeartbeats 4000000 in
theorem shMul_ok (u1 v1 u2 v2 : W8) (hu1 : u1.ok) (hv1 : v1.ok) (hu2 : u2.ok) (hv2 : v2.ok) (ok1 : ShOk u1.toInt v1.toInt) (ok2 : ShOk u2.toInt v2.toInt) (w : World) :
  Calls Tryz.prog 80 #[.agg #[.int .u64 u1.a0, .int .u64 u1.a1, .int .u64 u1.a2, .int .u64 u1.a3, .int .u64 u1.a4, .int .u64 u1.a5, .int .u64 u1.a6, .int .u64 u1.a7, .int .u64 v1.a0, .int .u64 v1.a1, .int .u64 v1.a2, .int .u64 v1.a3, .int .u64 v1.a4, .int .u64 v1.a5, .int .u64 v1.a6, .int .u64 v1.a7], .agg #[.int .u64 u2.a0, .int .u64 u2.a1, .int .u64 u2.a2, .int .u64 u2.a3, .int .u64 u2.a4, .int .u64 u2.a5, .int .u64 u2.a6, .int .u64 u2.a7, .int .u64 v2.a0, .int .u64 v2.a1, .int .u64 v2.a2, .int .u64 v2.a3, .int .u64 v2.a4, .int .u64 v2.a5, .int .u64 v2.a6, .int .u64 v2.a7]] w
   (SharePost w (lowN (u1.toInt * u2.toInt) (v1.toInt * v2.toInt)) (lowD (u1.toInt * u2.toInt) (v1.toInt * v2.toInt))) := by
 have H := shTwoR_ok u1 v1 u2 v2 hu1 hv1 hu2 hv2 ok1 ok2
 obtain ⟨N, hN⟩ : ∃ s, lowN (u1.toInt * u2.toInt) (v1.toInt * v2.toInt) = s := ⟨_, rfl⟩
 obtain ⟨D, hD⟩ : ∃ s, lowD (u1.toInt * u2.toInt) (v1.toInt * v2.toInt) = s := ⟨_, rfl⟩
 rw [hN, hD] at H
 rw [hN, hD]
 clear hu1 hv1 hu2 hv2 ok1 ok2 hN hD
 go_enter Tryz.func80, Tryz.ntmps80
 go_wp2_with fail
 refine name3 (Q := fun W => Calls _ _ _ W _) ?_
 intro W hl hs k1 k2 k3
 refine (H W).mono ?_
 rintro e w1 ⟨b, A, n, c, b', A', n', c', rfl, q1, q2, q3, q4, q5⟩
 have LA := hl.trans q5
 have E3 := k3.later q5
 clear k1 k2 k3 H
 go_wp2_with fail
 refine (shTold_ok b A n c N b' A' n' c' D w1 q1 q3 (by omega) (by omega)).mono ?_
 rintro e w2 ⟨u, v, r, rfl, r1, r2⟩
 have LB := LA.trans r2
 have I3 := E3.later r2
 have R1 := Lib.hid r1
 clear r1 E3 q1 q3
 have c0 := I3.cell 0
 have c1 := I3.cell 1
 have c2 := I3.cell 2
 have c3 := I3.cell 3
 have c4 := I3.cell 4
 have c5 := I3.cell 5
 have c6 := I3.cell 6
 have c7 := I3.cell 7
 have c8 := I3.cell 8
 have c9 := I3.cell 9
 have c10 := I3.cell 10
 have c11 := I3.cell 11
 have c12 := I3.cell 12
 have c13 := I3.cell 13
 have c14 := I3.cell 14
 have c15 := I3.cell 15
 have f0 := I3.frozen 0
 have f1 := I3.frozen 1
 have f2 := I3.frozen 2
 have f3 := I3.frozen 3
 have f4 := I3.frozen 4
 have f5 := I3.frozen 5
 have f6 := I3.frozen 6
 have f7 := I3.frozen 7
 have f8 := I3.frozen 8
 have f9 := I3.frozen 9
 have f10 := I3.frozen 10
 have f11 := I3.frozen 11
 have f12 := I3.frozen 12
 have f13 := I3.frozen 13
 have f14 := I3.frozen 14
 have f15 := I3.frozen 15
 go_wp2
 refine bodyPost_ret (v := .tuple #[.agg #[.int .u64 u.a0, .int .u64 u.a1, .int .u64 u.a2, .int .u64 u.a3, .int .u64 u.a4, .int .u64 u.a5, .int .u64 u.a6, .int .u64 u.a7, .int .u64 v.a0, .int .u64 v.a1, .int .u64 v.a2, .int .u64 v.a3, .int .u64 v.a4, .int .u64 v.a5, .int .u64 v.a6, .int .u64 v.a7], .int .i64 r]) (by simp [results, Tryz.results80, go_sem, c0, c1, c2, c3, c4, c5, c6, c7, c8, c9, c10, c11, c12, c13, c14, c15]) rfl ?_
 refine ⟨u, v, r, rfl, R1.out, ?_⟩
 iterate 16 (refine Lat.setCell ?_ (by simp; try omega) _)
 exact LB
end Go.Proofs.YteocdndanehpnaaGreat
