/- Several texts in one: ShareE, ShareF, ShareG. -/
import Derived.Test.YtbgngmamnonlbaaGreatH11
import Derived.Deep.MidRow
namespace Go.Proofs.YtbgngmamnonlbaaGreat
open Go.RowKit
set_option maxRecDepth 100000 in
set_option maxHeartbeats 4000000 in
theorem shRight_ok (u v : W8) (hu : u.ok) (hv : v.ok) (hok : ShOk u.toInt v.toInt) (w : World) :
  Calls Tryz.prog 111 #[.agg #[.int .u64 u.a0, .int .u64 u.a1, .int .u64 u.a2, .int .u64 u.a3, .int .u64 u.a4, .int .u64 u.a5, .int .u64 u.a6, .int .u64 u.a7, .int .u64 v.a0, .int .u64 v.a1, .int .u64 v.a2, .int .u64 v.a3, .int .u64 v.a4, .int .u64 v.a5, .int .u64 v.a6, .int .u64 v.a7]] w (fun e w' => e = .returned (.bool true) ∧ Lat w w') := by
 have HC : ∀ w, Calls Tryz.prog 112 #[.agg #[.int .u64 u.a0, .int .u64 u.a1, .int .u64 u.a2, .int .u64 u.a3, .int .u64 u.a4, .int .u64 u.a5, .int .u64 u.a6, .int .u64 u.a7, .int .u64 v.a0, .int .u64 v.a1, .int .u64 v.a2, .int .u64 v.a3, .int .u64 v.a4, .int .u64 v.a5, .int .u64 v.a6, .int .u64 v.a7]] w (fun e w' => e = .returned (.int .i64 0) ∧ Lat w w') := fun w => shCheck_ok u v hu hv hok w
 clear hu hv hok
 go_enter Tryz.func111, Tryz.ntmps111
 go_wp2_with fail
 refine name1 (Q := fun W => Calls _ _ _ W _) ?_
 intro W hl hs k1
 refine (HC W).mono ?_
 rintro e w1 ⟨rfl, h1⟩
 go_wp2
 go_ret
 exact ⟨rfl, hl.trans h1⟩
theorem shareInfo : (Tryz.prog.info? 42).map (·.size) = some 16 := by kernel_rfl
theorem Blk.range {w : World} {g o : Nat} {t : TypeId} {cs : Array Value} (h : Blk w g t cs) (l : List Value) (hl : ∀ j v, l[j]? = some v → cs[o + j]? = some v) : w.rangeAt g o l :=
 fun j v hj => (h.cell (o + j)).trans (hl j v hj)
set_option maxRecDepth 100000 in
set_option maxHeartbeats 4000000 in
theorem shAll_two (u1 v1 u2 v2 : W8) (hu1 : u1.ok) (hv1 : v1.ok) (hu2 : u2.ok) (hv2 : v2.ok) (ok1 : ShOk u1.toInt v1.toInt) (ok2 : ShOk u2.toInt v2.toInt) (w : World) (g c : Nat) (t : TypeId)
  (hb : Blk w g t #[.int .u64 u1.a0, .int .u64 u1.a1, .int .u64 u1.a2, .int .u64 u1.a3, .int .u64 u1.a4, .int .u64 u1.a5, .int .u64 u1.a6, .int .u64 u1.a7, .int .u64 v1.a0, .int .u64 v1.a1, .int .u64 v1.a2, .int .u64 v1.a3, .int .u64 v1.a4, .int .u64 v1.a5, .int .u64 v1.a6, .int .u64 v1.a7, .int .u64 u2.a0, .int .u64 u2.a1, .int .u64 u2.a2, .int .u64 u2.a3, .int .u64 u2.a4, .int .u64 u2.a5, .int .u64 u2.a6, .int .u64 u2.a7, .int .u64 v2.a0, .int .u64 v2.a1, .int .u64 v2.a2, .int .u64 v2.a3, .int .u64 v2.a4, .int .u64 v2.a5, .int .u64 v2.a6, .int .u64 v2.a7]) :
  Calls Tryz.prog 113 #[.func (.func 111) #[] #[], .slice (some ⟨g, 0, none⟩) 2 c] w (fun e w' => e = .returned (.bool true) ∧ Lat w w') := by
 have HR1 : ∀ w, Calls Tryz.prog 111 #[.agg #[.int .u64 u1.a0, .int .u64 u1.a1, .int .u64 u1.a2, .int .u64 u1.a3, .int .u64 u1.a4, .int .u64 u1.a5, .int .u64 u1.a6, .int .u64 u1.a7, .int .u64 v1.a0, .int .u64 v1.a1, .int .u64 v1.a2, .int .u64 v1.a3, .int .u64 v1.a4, .int .u64 v1.a5, .int .u64 v1.a6, .int .u64 v1.a7]] w (fun e w' => e = .returned (.bool true) ∧ Lat w w') := fun w => shRight_ok u1 v1 hu1 hv1 ok1 w
 have HR2 : ∀ w, Calls Tryz.prog 111 #[.agg #[.int .u64 u2.a0, .int .u64 u2.a1, .int .u64 u2.a2, .int .u64 u2.a3, .int .u64 u2.a4, .int .u64 u2.a5, .int .u64 u2.a6, .int .u64 u2.a7, .int .u64 v2.a0, .int .u64 v2.a1, .int .u64 v2.a2, .int .u64 v2.a3, .int .u64 v2.a4, .int .u64 v2.a5, .int .u64 v2.a6, .int .u64 v2.a7]] w (fun e w' => e = .returned (.bool true) ∧ Lat w w') := fun w => shRight_ok u2 v2 hu2 hv2 ok2 w
 clear hu1 hv1 hu2 hv2 ok1 ok2
 go_enter Tryz.func113, Tryz.ntmps113
 go_wp2
 go_loopw [9] (fun i wr => ∃ k : Nat, k ≤ 2 ∧ i = .int .i64 k ∧ Lat w wr) (fun i _ => 2 - (intOf i).toNat)
 case atStart => exact ⟨0, by omega, rfl, Lat.refl w⟩
 case round =>
  rename_i wr
  obtain ⟨k, hk, rfl, hlr⟩ := hrel
  have hB := hb.later hlr
  have hk3 : k = 0 ∨ k = 1 ∨ k = 2 := by omega
  clear hk
  rcases hk3 with rfl | rfl | rfl
  ·
   have hr := (hB.range (o := 0) [.int .u64 u1.a0, .int .u64 u1.a1, .int .u64 u1.a2, .int .u64 u1.a3, .int .u64 u1.a4, .int .u64 u1.a5, .int .u64 u1.a6, .int .u64 u1.a7, .int .u64 v1.a0, .int .u64 v1.a1, .int .u64 v1.a2, .int .u64 v1.a3, .int .u64 v1.a4, .int .u64 v1.a5, .int .u64 v1.a6, .int .u64 v1.a7] (by intro j v hj; rw [Nat.zero_add]; match j, hj with | 0, h | 1, h | 2, h | 3, h | 4, h | 5, h | 6, h | 7, h | 8, h | 9, h | 10, h | 11, h | 12, h | 13, h | 14, h | 15, h => exact h))
   clear hB hb
   go_wp2_with (refine wpList_load_mid (by rfl) 42 _ (by rfl) g 0 (by rfl) [.int .u64 u1.a0, .int .u64 u1.a1, .int .u64 u1.a2, .int .u64 u1.a3, .int .u64 u1.a4, .int .u64 u1.a5, .int .u64 u1.a6, .int .u64 u1.a7, .int .u64 v1.a0, .int .u64 v1.a1, .int .u64 v1.a2, .int .u64 v1.a3, .int .u64 v1.a4, .int .u64 v1.a5, .int .u64 v1.a6, .int .u64 v1.a7] _ hr Tryz.underlying42 rfl shareInfo ?_)
   refine name1 (Q := fun W => Calls _ _ _ W _) ?_
   intro W hl hs k1
   refine (HR1 W).mono ?_
   rintro e w1 ⟨rfl, h1⟩
   have L1 := (hlr.trans hl).trans h1
   go_wp2
   go_roundw
   case rel => exact ⟨1, by omega, rfl, L1⟩
   case measure => simp [intOf]
  ·
   have hr := (hB.range (o := 16) [.int .u64 u2.a0, .int .u64 u2.a1, .int .u64 u2.a2, .int .u64 u2.a3, .int .u64 u2.a4, .int .u64 u2.a5, .int .u64 u2.a6, .int .u64 u2.a7, .int .u64 v2.a0, .int .u64 v2.a1, .int .u64 v2.a2, .int .u64 v2.a3, .int .u64 v2.a4, .int .u64 v2.a5, .int .u64 v2.a6, .int .u64 v2.a7] (by intro j v hj; match j, hj with | 0, h | 1, h | 2, h | 3, h | 4, h | 5, h | 6, h | 7, h | 8, h | 9, h | 10, h | 11, h | 12, h | 13, h | 14, h | 15, h => exact h))
   clear hB hb
   go_wp2_with (refine wpList_load_mid (by rfl) 42 _ (by rfl) g 16 (by rfl) [.int .u64 u2.a0, .int .u64 u2.a1, .int .u64 u2.a2, .int .u64 u2.a3, .int .u64 u2.a4, .int .u64 u2.a5, .int .u64 u2.a6, .int .u64 u2.a7, .int .u64 v2.a0, .int .u64 v2.a1, .int .u64 v2.a2, .int .u64 v2.a3, .int .u64 v2.a4, .int .u64 v2.a5, .int .u64 v2.a6, .int .u64 v2.a7] _ hr Tryz.underlying42 rfl shareInfo ?_)
   refine name1 (Q := fun W => Calls _ _ _ W _) ?_
   intro W hl hs k1
   refine (HR2 W).mono ?_
   rintro e w1 ⟨rfl, h1⟩
   have L1 := (hlr.trans hl).trans h1
   go_wp2
   go_roundw
   case rel => exact ⟨2, by omega, rfl, L1⟩
   case measure => simp [intOf]
  ·go_wp2
   go_ret
   exact ⟨rfl, hlr⟩
end Go.Proofs.YtbgngmamnonlbaaGreat
namespace Go.Proofs.YtbgngmamnonlbaaGreat
open Go.RowKit
set_option maxRecDepth 100000 in
set_option maxHeartbeats 4000000 in
theorem shValid_two (u1 v1 u2 v2 : W8) (hu1 : u1.ok) (hv1 : v1.ok) (hu2 : u2.ok) (hv2 : v2.ok) (ok1 : ShOk u1.toInt v1.toInt) (ok2 : ShOk u2.toInt v2.toInt) (w : World) (g c : Nat) (t : TypeId)
  (hb : Blk w g t #[.int .u64 u1.a0, .int .u64 u1.a1, .int .u64 u1.a2, .int .u64 u1.a3, .int .u64 u1.a4, .int .u64 u1.a5, .int .u64 u1.a6, .int .u64 u1.a7, .int .u64 v1.a0, .int .u64 v1.a1, .int .u64 v1.a2, .int .u64 v1.a3, .int .u64 v1.a4, .int .u64 v1.a5, .int .u64 v1.a6, .int .u64 v1.a7, .int .u64 u2.a0, .int .u64 u2.a1, .int .u64 u2.a2, .int .u64 u2.a3, .int .u64 u2.a4, .int .u64 u2.a5, .int .u64 u2.a6, .int .u64 u2.a7, .int .u64 v2.a0, .int .u64 v2.a1, .int .u64 v2.a2, .int .u64 v2.a3, .int .u64 v2.a4, .int .u64 v2.a5, .int .u64 v2.a6, .int .u64 v2.a7]) :
  Calls Tryz.prog 90 #[.slice (some ⟨g, 0, none⟩) 2 c] w (fun e w' => e = .returned (.bool true) ∧ Lat w w') := by
 have HA := shAll_two u1 v1 u2 v2 hu1 hv1 hu2 hv2 ok1 ok2 w g c t hb
 clear hb
 go_enter Tryz.func90, Tryz.ntmps90
 go_wp2_with fail
 refine HA.mono ?_
 rintro e w1 ⟨rfl, h1⟩
 go_wp2
 go_ret
 exact ⟨rfl, h1⟩
end Go.Proofs.YtbgngmamnonlbaaGreat
namespace Go.Proofs.YtbgngmamnonlbaaGreat
open Go.RowKit
set_option maxRecDepth 100000 in
set_option maxHeartbeats 4000000 in
theorem shTwoI_ok (u1 v1 u2 v2 : W8) (hu1 : u1.ok) (hv1 : v1.ok) (hu2 : u2.ok) (hv2 : v2.ok) (ok1 : ShOk u1.toInt v1.toInt) (ok2 : ShOk u2.toInt v2.toInt) (w : World) :
  Calls Tryz.prog 98 #[.agg #[.int .u64 u1.a0, .int .u64 u1.a1, .int .u64 u1.a2, .int .u64 u1.a3, .int .u64 u1.a4, .int .u64 u1.a5, .int .u64 u1.a6, .int .u64 u1.a7, .int .u64 v1.a0, .int .u64 v1.a1, .int .u64 v1.a2, .int .u64 v1.a3, .int .u64 v1.a4, .int .u64 v1.a5, .int .u64 v1.a6, .int .u64 v1.a7], .agg #[.int .u64 u2.a0, .int .u64 u2.a1, .int .u64 u2.a2, .int .u64 u2.a3, .int .u64 u2.a4, .int .u64 u2.a5, .int .u64 u2.a6, .int .u64 u2.a7, .int .u64 v2.a0, .int .u64 v2.a1, .int .u64 v2.a2, .int .u64 v2.a3, .int .u64 v2.a4, .int .u64 v2.a5, .int .u64 v2.a6, .int .u64 v2.a7], .func (.func 99) #[] #[]] w
   (fun e w' => e = .returned (.tuple #[.int .i64 (sideOf (u1.toInt * v2.toInt - u2.toInt * v1.toInt)), .int .i64 0]) ∧ Lat w w') := by
 have HV := shValid_two u1 v1 u2 v2 hu1 hv1 hu2 hv2 ok1 ok2
 have HR1 := ratRead_any u1 v1 hu1 hv1
 have HR2 := ratRead_any u2 v2 hu2 hv2
 clear hu1 hv1 hu2 hv2 ok1 ok2
 go_enter Tryz.func98, Tryz.ntmps98
 go_wp2_with fail
 refine name3 (Q := fun W => Calls _ _ _ W _) ?_
 intro W hl hs k1 k2 k4
 refine (HV W _ _ _ k4).mono ?_
 rintro e w1 ⟨rfl, h1⟩
 have LA := hl.trans h1
 have E1 : Blk w1 w.heap.size 42 #[.int .u64 u1.a0, .int .u64 u1.a1, .int .u64 u1.a2, .int .u64 u1.a3, .int .u64 u1.a4, .int .u64 u1.a5, .int .u64 u1.a6, .int .u64 u1.a7, .int .u64 v1.a0, .int .u64 v1.a1, .int .u64 v1.a2, .int .u64 v1.a3, .int .u64 v1.a4, .int .u64 v1.a5, .int .u64 v1.a6, .int .u64 v1.a7] := k1.later h1
 have E2 : Blk w1 (w.heap.size + 1) 42 #[.int .u64 u2.a0, .int .u64 u2.a1, .int .u64 u2.a2, .int .u64 u2.a3, .int .u64 u2.a4, .int .u64 u2.a5, .int .u64 u2.a6, .int .u64 u2.a7, .int .u64 v2.a0, .int .u64 v2.a1, .int .u64 v2.a2, .int .u64 v2.a3, .int .u64 v2.a4, .int .u64 v2.a5, .int .u64 v2.a6, .int .u64 v2.a7] := k2.later h1
 clear k1 k2 k4 HV
 have hne1 : w.heap.size ∉ ([] : List Nat) := by simp
 have hne2 : w.heap.size + 1 ∉ ([] : List Nat) := by simp
 have a0 := E1.evS hne1 0 rfl
 have a1 := E1.evS hne1 1 rfl
 have a2 := E1.evS hne1 2 rfl
 have a3 := E1.evS hne1 3 rfl
 have a4 := E1.evS hne1 4 rfl
 have a5 := E1.evS hne1 5 rfl
 have a6 := E1.evS hne1 6 rfl
 have a7 := E1.evS hne1 7 rfl
 have a8 := E1.evS hne1 8 rfl
 have a9 := E1.evS hne1 9 rfl
 have a10 := E1.evS hne1 10 rfl
 have a11 := E1.evS hne1 11 rfl
 have a12 := E1.evS hne1 12 rfl
 have a13 := E1.evS hne1 13 rfl
 have a14 := E1.evS hne1 14 rfl
 have a15 := E1.evS hne1 15 rfl
 have d0 := E2.evS hne2 0 rfl
 have d1 := E2.evS hne2 1 rfl
 have d2 := E2.evS hne2 2 rfl
 have d3 := E2.evS hne2 3 rfl
 have d4 := E2.evS hne2 4 rfl
 have d5 := E2.evS hne2 5 rfl
 have d6 := E2.evS hne2 6 rfl
 have d7 := E2.evS hne2 7 rfl
 have d8 := E2.evS hne2 8 rfl
 have d9 := E2.evS hne2 9 rfl
 have d10 := E2.evS hne2 10 rfl
 have d11 := E2.evS hne2 11 rfl
 have d12 := E2.evS hne2 12 rfl
 have d13 := E2.evS hne2 13 rfl
 have d14 := E2.evS hne2 14 rfl
 have d15 := E2.evS hne2 15 rfl
 clear E1 E2
 go_wp2
 have L0 := Lat.drew w1
 have M0 := L0.s ([] : List Nat)
 go_region_held3 (fun w' => LatS w1 ([] : List Nat) w') (first | assumption | ((repeat refine LatS.set ?_ (by simp) _); assumption))
  (first
    | (have _h := HR1; go_at_call 114; (with_reducible refine (HR1 _).mono ?_); rintro e w2 ⟨b1, A1, n1, c1, b2, A2, n2, c2, rfl, q1, q2, q3, q4, q5⟩; have L2 := L0.trans q5; have M2 := L2.s ([] : List Nat); clear HR1 _h)
    | (have _h := HR2; go_at_call 114; (with_reducible refine (HR2 _).mono ?_); rintro e w3 ⟨b3, A3, n3, c3, b4, A4, n4, c4, rfl, r1, r2, r3, r4, r5⟩; have L3 := L2.trans r5; have M3 := L3.s ([] : List Nat); clear HR2 _h)
    | (go_at_call 99; refine (ratCmp_any b1 A1 n1 c1 _ b2 A2 n2 c2 _ b3 A3 n3 c3 _ b4 A4 n4 c4 _ _ (q1.later r5) (q3.later r5) r1 r3 (by omega) (by omega) (by omega) (by omega)).mono ?_; rintro e w4 ⟨rfl, s5⟩; have L4 := L3.trans s5; have M4 := L4.s ([] : List Nat)))
 go_wp2
 go_ret2
 exact ⟨rfl, LA.trans L4⟩
set_option maxRecDepth 100000 in
set_option maxHeartbeats 4000000 in
theorem shCmp_ok (u1 v1 u2 v2 : W8) (hu1 : u1.ok) (hv1 : v1.ok) (hu2 : u2.ok) (hv2 : v2.ok) (ok1 : ShOk u1.toInt v1.toInt) (ok2 : ShOk u2.toInt v2.toInt) (w : World) :
  Calls Tryz.prog 81 #[.agg #[.int .u64 u1.a0, .int .u64 u1.a1, .int .u64 u1.a2, .int .u64 u1.a3, .int .u64 u1.a4, .int .u64 u1.a5, .int .u64 u1.a6, .int .u64 u1.a7, .int .u64 v1.a0, .int .u64 v1.a1, .int .u64 v1.a2, .int .u64 v1.a3, .int .u64 v1.a4, .int .u64 v1.a5, .int .u64 v1.a6, .int .u64 v1.a7], .agg #[.int .u64 u2.a0, .int .u64 u2.a1, .int .u64 u2.a2, .int .u64 u2.a3, .int .u64 u2.a4, .int .u64 u2.a5, .int .u64 u2.a6, .int .u64 u2.a7, .int .u64 v2.a0, .int .u64 v2.a1, .int .u64 v2.a2, .int .u64 v2.a3, .int .u64 v2.a4, .int .u64 v2.a5, .int .u64 v2.a6, .int .u64 v2.a7]] w
   (fun e w' => e = .returned (.tuple #[.int .i64 (sideOf (u1.toInt * v2.toInt - u2.toInt * v1.toInt)), .int .i64 0]) ∧ Lat w w') := by
 have H := shTwoI_ok u1 v1 u2 v2 hu1 hv1 hu2 hv2 ok1 ok2
 obtain ⟨s, hs⟩ : ∃ s, sideOf (u1.toInt * v2.toInt - u2.toInt * v1.toInt) = s := ⟨_, rfl⟩
 rw [hs] at H ⊢
 clear hu1 hv1 hu2 hv2 ok1 ok2 hs
 go_enter Tryz.func81, Tryz.ntmps81
 go_wp2_with fail
 refine name2 (Q := fun W => Calls _ _ _ W _) ?_
 intro W hl hs k1 k2
 refine (H W).mono ?_
 rintro e w1 ⟨rfl, h1⟩
 go_wp2
 go_ret2
 exact ⟨rfl, hl.trans h1⟩
end Go.Proofs.YtbgngmamnonlbaaGreat
