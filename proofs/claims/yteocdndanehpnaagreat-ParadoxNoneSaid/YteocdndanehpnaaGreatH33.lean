/- Several texts in one: ShFl. -/
import Derived.Test.YteocdndanehpnaaGreatH32
import Derived.Test.YteocdndanehpnaaGreatH25
namespace Go.Proofs.YteocdndanehpnaaGreat
open Go.RowKit
set_option linter.unusedSimpArgs false
theorem share_num {w : World} {g : Nat} {t : TypeId} {u v : W8} (h : Blk w g t #[.int .u64 u.a0, .int .u64 u.a1, .int .u64 u.a2, .int .u64 u.a3, .int .u64 u.a4, .int .u64 u.a5, .int .u64 u.a6, .int .u64 u.a7, .int .u64 v.a0, .int .u64 v.a1, .int .u64 v.a2, .int .u64 v.a3, .int .u64 v.a4, .int .u64 v.a5, .int .u64 v.a6, .int .u64 v.a7]) : w.rangeAt g 0 [.int .u64 u.a0, .int .u64 u.a1, .int .u64 u.a2, .int .u64 u.a3, .int .u64 u.a4, .int .u64 u.a5, .int .u64 u.a6, .int .u64 u.a7] :=
 h.range _ (fun j x hj => by
  rw [Nat.zero_add]
  match j, hj with
  | 0, h | 1, h | 2, h | 3, h | 4, h | 5, h | 6, h | 7, h => exact h)
theorem wideSize8 : (Tryz.prog.info? 97).map (·.size) = some 8 := by kernel_rfl
theorem not_zero {u : W8} (hu : u.ok) (hx : u.toInt ≠ 0) (w : World) : (Op.equalIn 10000 97 (.agg #[.int .u64 u.a0, .int .u64 u.a1, .int .u64 u.a2, .int .u64 u.a3, .int .u64 u.a4, .int .u64 u.a5, .int .u64 u.a6, .int .u64 u.a7]) (.agg #[.int .u64 0, .int .u64 0, .int .u64 0, .int .u64 0, .int .u64 0, .int .u64 0, .int .u64 0, .int .u64 0])).run Tryz.prog w = .ok false w := by
 have h := wide_in hu W8.zero_ok w
 rw [decide_eq_false (fun e => hx (by rw [W8.mag_inj hu W8.zero_ok e]; decide))] at h
 exact h
set_option maxRecDepth 100000 in
set_option maxHeartbeats 4000000 in
theorem shDiv_ok (u1 v1 u2 v2 : W8) (hu1 : u1.ok) (hv1 : v1.ok) (hu2 : u2.ok) (hv2 : v2.ok) (ok1 : ShOk u1.toInt v1.toInt) (ok2 : ShOk u2.toInt v2.toInt) (hx : u2.toInt ≠ 0) (w : World) :
  Calls Tryz.prog 89 #[.agg #[.int .u64 u1.a0, .int .u64 u1.a1, .int .u64 u1.a2, .int .u64 u1.a3, .int .u64 u1.a4, .int .u64 u1.a5, .int .u64 u1.a6, .int .u64 u1.a7, .int .u64 v1.a0, .int .u64 v1.a1, .int .u64 v1.a2, .int .u64 v1.a3, .int .u64 v1.a4, .int .u64 v1.a5, .int .u64 v1.a6, .int .u64 v1.a7], .agg #[.int .u64 u2.a0, .int .u64 u2.a1, .int .u64 u2.a2, .int .u64 u2.a3, .int .u64 u2.a4, .int .u64 u2.a5, .int .u64 u2.a6, .int .u64 u2.a7, .int .u64 v2.a0, .int .u64 v2.a1, .int .u64 v2.a2, .int .u64 v2.a3, .int .u64 v2.a4, .int .u64 v2.a5, .int .u64 v2.a6, .int .u64 v2.a7]] w
   (SharePost w (lowN (u1.toInt * v2.toInt) (v1.toInt * u2.toInt)) (lowD (u1.toInt * v2.toInt) (v1.toInt * u2.toInt))) := by
 have HV := shValid_two u1 v1 u2 v2 hu1 hv1 hu2 hv2 ok1 ok2
 have H := shTwoO_ok u1 v1 u2 v2 hu1 hv1 hu2 hv2 ok1 ok2 hx
 have HE := not_zero hu2 hx
 obtain ⟨N, hN⟩ : ∃ s, lowN (u1.toInt * v2.toInt) (v1.toInt * u2.toInt) = s := ⟨_, rfl⟩
 obtain ⟨D, hD⟩ : ∃ s, lowD (u1.toInt * v2.toInt) (v1.toInt * u2.toInt) = s := ⟨_, rfl⟩
 rw [hN, hD] at H
 rw [hN, hD]
 clear hu1 hv1 hu2 hv2 ok1 ok2 hN hD hx
 go_enter Tryz.func89, Tryz.ntmps89
 go_wp2_with fail
 refine name4 (Q := fun W => Calls _ _ _ W _) ?_
 intro W hl hs k1 k2 k3 k4
 refine (HV W _ _ _ k4).mono ?_
 rintro e w0 ⟨rfl, h1⟩
 have L0 := hl.trans h1
 have E1 : Blk w0 w.heap.size 99 #[.int .u64 u1.a0, .int .u64 u1.a1, .int .u64 u1.a2, .int .u64 u1.a3, .int .u64 u1.a4, .int .u64 u1.a5, .int .u64 u1.a6, .int .u64 u1.a7, .int .u64 v1.a0, .int .u64 v1.a1, .int .u64 v1.a2, .int .u64 v1.a3, .int .u64 v1.a4, .int .u64 v1.a5, .int .u64 v1.a6, .int .u64 v1.a7] := k1.later h1
 have E2 : Blk w0 (w.heap.size + 1) 99 #[.int .u64 u2.a0, .int .u64 u2.a1, .int .u64 u2.a2, .int .u64 u2.a3, .int .u64 u2.a4, .int .u64 u2.a5, .int .u64 u2.a6, .int .u64 u2.a7, .int .u64 v2.a0, .int .u64 v2.a1, .int .u64 v2.a2, .int .u64 v2.a3, .int .u64 v2.a4, .int .u64 v2.a5, .int .u64 v2.a6, .int .u64 v2.a7] := k2.later h1
 have E3 := k3.later h1
 have R2 := share_num E2
 clear k1 k2 k3 k4 HV hl h1 hs
 go_wp2_with (first
  | (refine Go.BigFrame.wpList_want (by rfl) fun _ hK => wp_load_mid 97 (.tmp 11) (by rfl) (w.heap.size + 1) 0 (by rfl) [.int .u64 u2.a0, .int .u64 u2.a1, .int .u64 u2.a2, .int .u64 u2.a3, .int .u64 u2.a4, .int .u64 u2.a5, .int .u64 u2.a6, .int .u64 u2.a7] _ R2 Tryz.underlying97 rfl wideSize8 (hK _ _ ?_))
  | (refine wpList_get rfl 99 (.tmp 2) (by rfl) w.heap.size (by rfl) E1 _ Tryz.underlying99 rfl shareInfo ?_)
  | (refine wpList_get rfl 99 (.tmp 3) (by rfl) (w.heap.size + 1) (by rfl) E2 _ Tryz.underlying99 rfl shareInfo ?_))
 refine (H w0).mono ?_
 rintro e w1 ⟨b, A, n, c, b', A', n', c', rfl, q1, q2, q3, q4, q5⟩
 have LA := L0.trans q5
 have E3 := E3.later q5
 clear H E1 E2 R2 L0 HE
 go_wp2_with fail
 refine (shTold_ok b A n c N b' A' n' c' D w1 q1 q3 (by omega) (by omega)).mono ?_
 rintro e w2 ⟨u, v, r, rfl, r1, r2⟩
 have LB := LA.trans r2
 have I3 := E3.later r2
 have R1 := Lib.hid r1
 clear r1 E3 q1 q3
 have c0 := I3.cell 0
 have c1 := I3.cell 1
 have c2 := I3.cell 2
 have c3 := I3.cell 3
 have c4 := I3.cell 4
 have c5 := I3.cell 5
 have c6 := I3.cell 6
 have c7 := I3.cell 7
 have c8 := I3.cell 8
 have c9 := I3.cell 9
 have c10 := I3.cell 10
 have c11 := I3.cell 11
 have c12 := I3.cell 12
 have c13 := I3.cell 13
 have c14 := I3.cell 14
 have c15 := I3.cell 15
 have f0 := I3.frozen 0
 have f1 := I3.frozen 1
 have f2 := I3.frozen 2
 have f3 := I3.frozen 3
 have f4 := I3.frozen 4
 have f5 := I3.frozen 5
 have f6 := I3.frozen 6
 have f7 := I3.frozen 7
 have f8 := I3.frozen 8
 have f9 := I3.frozen 9
 have f10 := I3.frozen 10
 have f11 := I3.frozen 11
 have f12 := I3.frozen 12
 have f13 := I3.frozen 13
 have f14 := I3.frozen 14
 have f15 := I3.frozen 15
 go_wp2
 refine bodyPost_ret (v := .tuple #[.agg #[.int .u64 u.a0, .int .u64 u.a1, .int .u64 u.a2, .int .u64 u.a3, .int .u64 u.a4, .int .u64 u.a5, .int .u64 u.a6, .int .u64 u.a7, .int .u64 v.a0, .int .u64 v.a1, .int .u64 v.a2, .int .u64 v.a3, .int .u64 v.a4, .int .u64 v.a5, .int .u64 v.a6, .int .u64 v.a7], .int .i64 r]) (by simp [results, Tryz.results89, go_sem, c0, c1, c2, c3, c4, c5, c6, c7, c8, c9, c10, c11, c12, c13, c14, c15]) rfl ?_
 refine ⟨u, v, r, rfl, R1.out, ?_⟩
 iterate 16 (refine Lat.setCell ?_ (by simp; try omega) _)
 exact LB
theorem div_cross {a b c d p q r s g k : Int} (f1 : p * g = a) (f2 : q * g = b) (e1 : r * k = c) (e2 : s * k = d) : (p * s) * (b * c) = (a * d) * (q * r) := by
 subst f1 f2 e1 e2
 grind
theorem shDivX {a b c d : Int} (h1 : Fits a b) (h2 : Fits c d) (hc : 0 < c) (h3 : Fits (a * d) (b * c)) (w : World) :
  Calls Tryz.prog 89 #[.agg (shA a b), .agg (shA c d)] w (ShR w (shA (a * d) (b * c)) 0) := by
 obtain ⟨k1, k2, k3, k4, k5⟩ := (shV_self a b).facts h1
 obtain ⟨m1, m2, m3, m4, m5⟩ := (shV_self c d).facts h2
 obtain ⟨e1, e2⟩ := low_mul (x := c) h2.1
 have hg := gcd_pos' (x := c) h2.1
 have hlc : 0 < lowN c d := by
  rcases Int.lt_or_le 0 (lowN c d) with h | h
  ·exact h
  ·have := Int.mul_le_mul_of_nonneg_right h (show 0 ≤ (Int.gcd c d : Int) by omega)
   rw [e1] at this
   omega
 have := shDiv_ok _ _ _ _ k1 k2 m1 m2 k5 m5 (by rw [m3]; omega) w
 rw [k3, k4, m3, m4] at this
 obtain ⟨f1, f2⟩ := low_mul (x := a) h1.1
 have hq : (lowN a b * lowD c d) * (b * c) = (a * d) * (lowD a b * lowN c d) := div_cross f1 f2 e1 e2
 have hp1 : 0 < lowD a b * lowN c d := Int.mul_pos (lowD_pos h1.1) hlc
 have hp2 : 0 < b * c := Int.mul_pos h1.1 hc
 obtain ⟨g1, g2⟩ := low_congr hp1 hp2 hq
 rw [g1, g2] at this
 exact this.mono fun _ _ h => (h.fits h3).r
set_option maxRecDepth 100000 in
set_option maxHeartbeats 4000000 in
theorem shAll_one (u1 v1 : W8) (hu1 : u1.ok) (hv1 : v1.ok) (ok1 : ShOk u1.toInt v1.toInt) (w : World) (g c : Nat) (t : TypeId)
  (hb : Blk w g t #[.int .u64 u1.a0, .int .u64 u1.a1, .int .u64 u1.a2, .int .u64 u1.a3, .int .u64 u1.a4, .int .u64 u1.a5, .int .u64 u1.a6, .int .u64 u1.a7, .int .u64 v1.a0, .int .u64 v1.a1, .int .u64 v1.a2, .int .u64 v1.a3, .int .u64 v1.a4, .int .u64 v1.a5, .int .u64 v1.a6, .int .u64 v1.a7]) :
  Calls Tryz.prog 135 #[.func (.func 133) #[] #[], .slice (some ⟨g, 0, none⟩) 1 c] w (fun e w' => e = .returned (.bool true) ∧ Lat w w') := by
 have HR1 : ∀ w, Calls Tryz.prog 133 #[.agg #[.int .u64 u1.a0, .int .u64 u1.a1, .int .u64 u1.a2, .int .u64 u1.a3, .int .u64 u1.a4, .int .u64 u1.a5, .int .u64 u1.a6, .int .u64 u1.a7, .int .u64 v1.a0, .int .u64 v1.a1, .int .u64 v1.a2, .int .u64 v1.a3, .int .u64 v1.a4, .int .u64 v1.a5, .int .u64 v1.a6, .int .u64 v1.a7]] w (fun e w' => e = .returned (.bool true) ∧ Lat w w') := fun w => shRight_ok u1 v1 hu1 hv1 ok1 w
 clear hu1 hv1 ok1
 go_enter Tryz.func135, Tryz.ntmps135
 go_wp2
 go_loopw [9] (fun i wr => ∃ k : Nat, k ≤ 1 ∧ i = .int .i64 k ∧ Lat w wr) (fun i _ => 1 - (intOf i).toNat)
 case atStart => exact ⟨0, by omega, rfl, Lat.refl w⟩
 case round =>
  rename_i wr
  obtain ⟨k, hk, rfl, hlr⟩ := hrel
  have hB := hb.later hlr
  have hk3 : k = 0 ∨ k = 1 := by omega
  clear hk
  rcases hk3 with rfl | rfl
  ·
   have hr := (hB.range (o := 0) [.int .u64 u1.a0, .int .u64 u1.a1, .int .u64 u1.a2, .int .u64 u1.a3, .int .u64 u1.a4, .int .u64 u1.a5, .int .u64 u1.a6, .int .u64 u1.a7, .int .u64 v1.a0, .int .u64 v1.a1, .int .u64 v1.a2, .int .u64 v1.a3, .int .u64 v1.a4, .int .u64 v1.a5, .int .u64 v1.a6, .int .u64 v1.a7] (by intro j v hj; rw [Nat.zero_add]; match j, hj with | 0, h | 1, h | 2, h | 3, h | 4, h | 5, h | 6, h | 7, h | 8, h | 9, h | 10, h | 11, h | 12, h | 13, h | 14, h | 15, h => exact h))
   clear hB hb
   go_wp2_with (refine wpList_load_mid (by rfl) 99 _ (by rfl) g 0 (by rfl) [.int .u64 u1.a0, .int .u64 u1.a1, .int .u64 u1.a2, .int .u64 u1.a3, .int .u64 u1.a4, .int .u64 u1.a5, .int .u64 u1.a6, .int .u64 u1.a7, .int .u64 v1.a0, .int .u64 v1.a1, .int .u64 v1.a2, .int .u64 v1.a3, .int .u64 v1.a4, .int .u64 v1.a5, .int .u64 v1.a6, .int .u64 v1.a7] _ hr Tryz.underlying99 rfl shareInfo ?_)
   refine name1 (Q := fun W => Calls _ _ _ W _) ?_
   intro W hl hs k1
   refine (HR1 W).mono ?_
   rintro e w1 ⟨rfl, h1⟩
   have L1 := (hlr.trans hl).trans h1
   go_wp2
   go_roundw
   case rel => exact ⟨1, by omega, rfl, L1⟩
   case measure => simp [intOf]
  ·go_wp2
   go_ret
   exact ⟨rfl, hlr⟩
theorem shValid_one (u1 v1 : W8) (hu1 : u1.ok) (hv1 : v1.ok) (ok1 : ShOk u1.toInt v1.toInt) (w : World) (g c : Nat) (t : TypeId)
  (hb : Blk w g t #[.int .u64 u1.a0, .int .u64 u1.a1, .int .u64 u1.a2, .int .u64 u1.a3, .int .u64 u1.a4, .int .u64 u1.a5, .int .u64 u1.a6, .int .u64 u1.a7, .int .u64 v1.a0, .int .u64 v1.a1, .int .u64 v1.a2, .int .u64 v1.a3, .int .u64 v1.a4, .int .u64 v1.a5, .int .u64 v1.a6, .int .u64 v1.a7]) :
  Calls Tryz.prog 108 #[.slice (some ⟨g, 0, none⟩) 1 c] w (fun e w' => e = .returned (.bool true) ∧ Lat w w') := by
 have HA := shAll_one u1 v1 hu1 hv1 ok1 w g c t hb
 clear hb
 go_enter Tryz.func108, Tryz.ntmps108
 go_wp2_with fail
 refine HA.mono ?_
 rintro e w1 ⟨rfl, h1⟩
 go_wp2
 go_ret
 exact ⟨rfl, h1⟩
set_option maxRecDepth 100000 in
set_option maxHeartbeats 4000000 in
theorem ratDown_any (b1 : Bool) (A1 : Option Addr) (n1 c1 : Nat) (x : Int) (b2 : Bool) (A2 : Option Addr) (n2 c2 : Nat) (y : Int) (w : World) (h1 : Lg w b1 A1 n1 c1 x) (h2 : Lg w b2 A2 n2 c2 y) (hy0 : y ≠ 0) (hn : n1 ≤ 300000) (hm : n2 ≤ 300000) :
  Calls Tryz.prog 91 #[.agg #[.bool b1, .slice A1 n1 c1, .bool b2, .slice A2 n2 c2]] w (LongPost w (x / y) (max n1 1 + 1)) := by
 have H1 := Lib.hid h1
 have H2 := Lib.hid h2
 have HY := Lib.hid hy0
 clear h1 h2 hy0
 go_enter Tryz.func91, Tryz.ntmps91
 go_wp2_with fail
 refine name2 (Q := fun W => Calls _ _ _ W _) ?_
 intro W hl hs k1 k2
 refine (parts_any b1 A1 n1 c1 x b2 A2 n2 c2 y W (H1.out.later hl) (H2.out.later hl) HY.out hn hm).mono ?_
 rintro e w1 ⟨b, A, n, c, b', A', n', c', rfl, q1, q2, q3, q4, q5⟩
 have LA := hl.trans q5
 have E2 := k2.later q5
 have Q1 := Lib.hid q1
 clear k1 k2 hs H1 H2 HY q1 q3 q4
 go_upto_region 2 with (fail)
 refine name2 (Q := fun W => Code.wp _ _ _ _ W) ?_
 intro W3 hl3 hs3 k3 k4
 have E2 := E2.later hl3
 have c0 := k3.cell 0
 have c1' := k3.cell 1
 have f0 := E2.frozen 0
 have f1 := E2.frozen 1
 have e0 := E2.cell 0
 have e1 := E2.cell 1
 have LC := LA.trans hl3
 have Q3 := Lib.hid (Q1.out.later hl3)
 go_wp2
 refine bodyPost_ret (v := .agg #[.bool b, .slice A n c]) (by simp [results, Tryz.results91, go_sem, e0, e1]) rfl ?_
 exact LongPost.close E2 Q3.out LC (by omega) q2
end Go.Proofs.YteocdndanehpnaaGreat
