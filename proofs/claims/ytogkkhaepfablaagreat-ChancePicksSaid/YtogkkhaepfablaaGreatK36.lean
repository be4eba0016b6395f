/- Several texts in one: DwB, DwC, CvA. -/
import Derived.Test.YtogkkhaepfablaaGreatK34
import Derived.Test.YtogkkhaepfablaaGreatJ23
import Derived.Test.YtogkkhaepfablaaGreatJ25
import Derived.Test.YtogkkhaepfablaaGreatK04
import Derived.Test.YtogkkhaepfablaaGreatK30
namespace Go.Proofs.YtogkkhaepfablaaGreat
open Go.RowKit
set_option linter.unusedSimpArgs false
set_option linter.unusedVariables false
theorem wide_zeroI {v : W8} (hv : v.ok) (w : World) : (Op.equalIn 10000 26 (.agg #[.int .u64 v.a0, .int .u64 v.a1, .int .u64 v.a2, .int .u64 v.a3, .int .u64 v.a4, .int .u64 v.a5, .int .u64 v.a6, .int .u64 v.a7]) (.agg #[.int .u64 0, .int .u64 0, .int .u64 0, .int .u64 0, .int .u64 0, .int .u64 0, .int .u64 0, .int .u64 0])).run Tryz.prog w = .ok (decide (v.toInt = 0)) w := by
 have h := wide_in hv W8.zero_ok w
 rw [show decide (v.mag = W8.zero.mag) = decide (v.toInt = 0) from decide_eq_decide.2 ?_] at h
 ·exact h
 ·constructor
  ·intro e
   have : v = W8.zero := W8.mag_inj hv W8.zero_ok e
   rw [this]; decide
  ·intro e
   have : v = W8.zero := by rw [W8.eq_of hv e, W8.zero_eq]
   rw [this]
set_option maxRecDepth 100000 in
set_option maxHeartbeats 4000000 in
theorem rMake_ok (u v : W8) (hu : u.ok) (hv : v.ok) (hz : v.toInt ≠ 0) (w : World) :
  Calls Tryz.prog 79 #[.agg #[.int .u64 u.a0, .int .u64 u.a1, .int .u64 u.a2, .int .u64 u.a3, .int .u64 u.a4, .int .u64 u.a5, .int .u64 u.a6, .int .u64 u.a7], .agg #[.int .u64 v.a0, .int .u64 v.a1, .int .u64 v.a2, .int .u64 v.a3, .int .u64 v.a4, .int .u64 v.a5, .int .u64 v.a6, .int .u64 v.a7]] w (SharePost w (lowN u.toInt v.toInt) (lowD u.toInt v.toInt)) := by
 have hd : ∀ w, (Op.equalIn 10000 26 (.agg #[.int .u64 v.a0, .int .u64 v.a1, .int .u64 v.a2, .int .u64 v.a3, .int .u64 v.a4, .int .u64 v.a5, .int .u64 v.a6, .int .u64 v.a7]) (.agg #[.int .u64 0, .int .u64 0, .int .u64 0, .int .u64 0, .int .u64 0, .int .u64 0, .int .u64 0, .int .u64 0])).run Tryz.prog w = .ok false w := fun w => by rw [wide_zeroI hv, decide_eq_false hz]
 have HX := rIn_any u hu
 have HY := rIn_any v hv
 have HZ := Lib.hid hz
 clear hu hv hz
 go_enter Tryz.func79, Tryz.ntmps79
 go_wp2
 refine name3 (Q := fun W => Code.wp _ _ _ _ W) ?_
 intro W hl hs k1 k2 k3
 have hne1 : w.heap.size ∉ [w.heap.size + 1 + 1] := by simp; omega
 have hne2 : w.heap.size + 1 ∉ [w.heap.size + 1 + 1] := by simp
 have a0 := k1.evS hne1 0 rfl
 have a1 := k1.evS hne1 1 rfl
 have a2 := k1.evS hne1 2 rfl
 have a3 := k1.evS hne1 3 rfl
 have a4 := k1.evS hne1 4 rfl
 have a5 := k1.evS hne1 5 rfl
 have a6 := k1.evS hne1 6 rfl
 have a7 := k1.evS hne1 7 rfl
 have d0 := k2.evS hne2 0 rfl
 have d1 := k2.evS hne2 1 rfl
 have d2 := k2.evS hne2 2 rfl
 have d3 := k2.evS hne2 3 rfl
 have d4 := k2.evS hne2 4 rfl
 have d5 := k2.evS hne2 5 rfl
 have d6 := k2.evS hne2 6 rfl
 have d7 := k2.evS hne2 7 rfl
 have L0 := Lat.drew W
 have M0 := L0.s [w.heap.size + 1 + 1]
 go_region_held3 (fun w' => LatS W [w.heap.size + 1 + 1] w') (first | (with_reducible assumption) | ((iterate 16 (refine LatS.set ?_ (by simp) _)); with_reducible assumption))
  (first
    | (have _h := HX; go_at_call 49; (with_reducible refine (HX _).mono ?_); rintro e w2 ⟨b1, A1, n1, c1, rfl, q1, q2, q3⟩; have L2 := L0.trans q3; have M2 := L2.s [w.heap.size + 1 + 1]; clear HX _h)
    | (have _h := HY; go_at_call 49; (with_reducible refine (HY _).mono ?_); rintro e w3 ⟨b3, A3, n3, c3, rfl, r1, r2, r3⟩; have L3 := L2.trans r3; have M3 := L3.s [w.heap.size + 1 + 1]; clear HY _h)
    | (go_at_call 96; refine (rLowest_any b1 A1 n1 c1 _ b3 A3 n3 c3 _ _ (q1.later r3) r1 HZ.out (by omega) (by omega)).mono ?_; rintro e w4 ⟨b, A, n, c, b', A', n', c', rfl, s1, s2, s3, s4, s5⟩; have L4 := L3.trans s5; have M4 := L4.s [w.heap.size + 1 + 1])
    | (go_at_call 95; refine (rrOut_any b A n c _ b' A' n' c' _ _ s1 s3 (by omega) (by omega)).mono ?_; rintro e w5 ⟨x, y, r, rfl, t1, t2⟩; have L5 := L4.trans t2; have M5 := L5.s [w.heap.size + 1 + 1]; have T1 := Lib.hid t1; clear t1; have K5 := k3.later L5
       have e0 := K5.cell 0
       have e1 := K5.cell 1
       have e2 := K5.cell 2
       have e3 := K5.cell 3
       have e4 := K5.cell 4
       have e5 := K5.cell 5
       have e6 := K5.cell 6
       have e7 := K5.cell 7
       have e8 := K5.cell 8
       have e9 := K5.cell 9
       have e10 := K5.cell 10
       have e11 := K5.cell 11
       have e12 := K5.cell 12
       have e13 := K5.cell 13
       have e14 := K5.cell 14
       have e15 := K5.cell 15
       have f0 := K5.frozen 0
       have f1 := K5.frozen 1
       have f2 := K5.frozen 2
       have f3 := K5.frozen 3
       have f4 := K5.frozen 4
       have f5 := K5.frozen 5
       have f6 := K5.frozen 6
       have f7 := K5.frozen 7
       have f8 := K5.frozen 8
       have f9 := K5.frozen 9
       have f10 := K5.frozen 10
       have f11 := K5.frozen 11
       have f12 := K5.frozen 12
       have f13 := K5.frozen 13
       have f14 := K5.frozen 14
       have f15 := K5.frozen 15
       have _u := True.intro))
 go_wp2
 refine bodyPost_ret (v := .tuple #[.agg #[.int .u64 x.a0, .int .u64 x.a1, .int .u64 x.a2, .int .u64 x.a3, .int .u64 x.a4, .int .u64 x.a5, .int .u64 x.a6, .int .u64 x.a7, .int .u64 y.a0, .int .u64 y.a1, .int .u64 y.a2, .int .u64 y.a3, .int .u64 y.a4, .int .u64 y.a5, .int .u64 y.a6, .int .u64 y.a7], .int .i64 r]) (by simp [results, Tryz.results79, go_sem, e0, e1, e2, e3, e4, e5, e6, e7, e8, e9, e10, e11, e12, e13, e14, e15]) rfl ?_
 refine ⟨x, y, r, rfl, T1.out, ?_⟩
 iterate 16 (refine Lat.setCell ?_ (by simp; try omega) _)
 exact hl.trans L5
set_option maxRecDepth 100000 in
set_option maxHeartbeats 4000000 in
theorem rMake_zero (u v : W8) (hv : v.ok) (hz : v.toInt = 0) (w : World) :
  Calls Tryz.prog 79 #[.agg #[.int .u64 u.a0, .int .u64 u.a1, .int .u64 u.a2, .int .u64 u.a3, .int .u64 u.a4, .int .u64 u.a5, .int .u64 u.a6, .int .u64 u.a7], .agg #[.int .u64 v.a0, .int .u64 v.a1, .int .u64 v.a2, .int .u64 v.a3, .int .u64 v.a4, .int .u64 v.a5, .int .u64 v.a6, .int .u64 v.a7]] w (fun e w' => e = .returned (.tuple #[.agg #[.int .u64 W8.zero.a0, .int .u64 W8.zero.a1, .int .u64 W8.zero.a2, .int .u64 W8.zero.a3, .int .u64 W8.zero.a4, .int .u64 W8.zero.a5, .int .u64 W8.zero.a6, .int .u64 W8.zero.a7, .int .u64 W8.zero.a0, .int .u64 W8.zero.a1, .int .u64 W8.zero.a2, .int .u64 W8.zero.a3, .int .u64 W8.zero.a4, .int .u64 W8.zero.a5, .int .u64 W8.zero.a6, .int .u64 W8.zero.a7], .int .i64 7]) ∧ Lat w w') := by
 have hd : ∀ w, (Op.equalIn 10000 26 (.agg #[.int .u64 v.a0, .int .u64 v.a1, .int .u64 v.a2, .int .u64 v.a3, .int .u64 v.a4, .int .u64 v.a5, .int .u64 v.a6, .int .u64 v.a7]) (.agg #[.int .u64 0, .int .u64 0, .int .u64 0, .int .u64 0, .int .u64 0, .int .u64 0, .int .u64 0, .int .u64 0])).run Tryz.prog w = .ok true w := fun w => by rw [wide_zeroI hv, decide_eq_true hz]
 clear hv hz
 go_enter Tryz.func79, Tryz.ntmps79
 go_upto_region 1 with (fail)
 refine name3 (Q := fun W => Code.wp _ _ _ _ W) ?_
 intro W hl hs k1 k2 k3
 have d0 := k2.cell 0
 have d1 := k2.cell 1
 have d2 := k2.cell 2
 have d3 := k2.cell 3
 have d4 := k2.cell 4
 have d5 := k2.cell 5
 have d6 := k2.cell 6
 have d7 := k2.cell 7
 have e0 := k3.cell 0
 have e1 := k3.cell 1
 have e2 := k3.cell 2
 have e3 := k3.cell 3
 have e4 := k3.cell 4
 have e5 := k3.cell 5
 have e6 := k3.cell 6
 have e7 := k3.cell 7
 have e8 := k3.cell 8
 have e9 := k3.cell 9
 have e10 := k3.cell 10
 have e11 := k3.cell 11
 have e12 := k3.cell 12
 have e13 := k3.cell 13
 have e14 := k3.cell 14
 have e15 := k3.cell 15
 have f0 := k3.frozen 0
 have f1 := k3.frozen 1
 have f2 := k3.frozen 2
 have f3 := k3.frozen 3
 have f4 := k3.frozen 4
 have f5 := k3.frozen 5
 have f6 := k3.frozen 6
 have f7 := k3.frozen 7
 have f8 := k3.frozen 8
 have f9 := k3.frozen 9
 have f10 := k3.frozen 10
 have f11 := k3.frozen 11
 have f12 := k3.frozen 12
 have f13 := k3.frozen 13
 have f14 := k3.frozen 14
 have f15 := k3.frozen 15
 have hlt := k3.lt
 go_wp2
 refine bodyPost_ret (v := .tuple #[.agg #[.int .u64 W8.zero.a0, .int .u64 W8.zero.a1, .int .u64 W8.zero.a2, .int .u64 W8.zero.a3, .int .u64 W8.zero.a4, .int .u64 W8.zero.a5, .int .u64 W8.zero.a6, .int .u64 W8.zero.a7, .int .u64 W8.zero.a0, .int .u64 W8.zero.a1, .int .u64 W8.zero.a2, .int .u64 W8.zero.a3, .int .u64 W8.zero.a4, .int .u64 W8.zero.a5, .int .u64 W8.zero.a6, .int .u64 W8.zero.a7], .int .i64 7]) (by simp [results, Tryz.results79, go_sem, e0, e1, e2, e3, e4, e5, e6, e7, e8, e9, e10, e11, e12, e13, e14, e15, W8.zero]) rfl ?_
 refine ⟨rfl, ?_⟩
 iterate 16 (refine Lat.setCell ?_ (by simp; try omega) _)
 exact hl
structure ShFit (N D : Int) : Prop where
 ok : ShOk N D
 n1 : -P511 ≤ N
 n2 : N < P511
 d2 : D < P511
theorem low_ok' {x y : Int} (hy : y ≠ 0) : ShOk (lowN x y) (lowD x y) := by
 rcases Int.lt_or_le 0 y with h | h
 ·exact low_ok h
 ·have hy' : 0 < -y := by omega
  have e : lowN x y = lowN (-x) (-y) ∧ lowD x y = lowD (-x) (-y) := by
   have hx := Int.gcd_dvd_left (a := x) (b := y)
   have hyd := Int.gcd_dvd_right (a := x) (b := y)
   have h2 : ¬ -y < 0 := by omega
   have h1 : y < 0 := by omega
   simp only [lowN, lowD, if_pos h1, if_neg h2, Int.gcd_neg, Int.neg_gcd, Int.neg_ediv_of_dvd hx, Int.neg_ediv_of_dvd hyd, and_self]
  rw [e.1, e.2]
  exact low_ok hy'
def MakeC (u v x y : W8) (r : Int) : Prop := ∀ w, Calls Tryz.prog 79 #[.agg #[.int .u64 u.a0, .int .u64 u.a1, .int .u64 u.a2, .int .u64 u.a3, .int .u64 u.a4, .int .u64 u.a5, .int .u64 u.a6, .int .u64 u.a7], .agg #[.int .u64 v.a0, .int .u64 v.a1, .int .u64 v.a2, .int .u64 v.a3, .int .u64 v.a4, .int .u64 v.a5, .int .u64 v.a6, .int .u64 v.a7]] w (fun e w' => e = .returned (.tuple #[.agg #[.int .u64 x.a0, .int .u64 x.a1, .int .u64 x.a2, .int .u64 x.a3, .int .u64 x.a4, .int .u64 x.a5, .int .u64 x.a6, .int .u64 x.a7, .int .u64 y.a0, .int .u64 y.a1, .int .u64 y.a2, .int .u64 y.a3, .int .u64 y.a4, .int .u64 y.a5, .int .u64 y.a6, .int .u64 y.a7], .int .i64 r]) ∧ Lat w w')
theorem rMake_any (u v : W8) (hu : u.ok) (hv : v.ok) : ∃ x y r, MakeC u v x y r ∧ ((r = 0 ∧ ∃ N D, x = W8.of N ∧ y = W8.of D ∧ ShFit N D) ∨ (r == 0) = false) := by
 by_cases hz : v.toInt = 0
 ·exact ⟨_, _, _, rMake_zero u v hv hz, .inr (by decide)⟩
 ·have ho := low_ok' (x := u.toInt) hz
  by_cases hf : -P511 ≤ lowN u.toInt v.toInt ∧ lowN u.toInt v.toInt < P511 ∧ lowD u.toInt v.toInt < P511
  ·have hp := ho.1
   refine ⟨_, _, 0, fun w => (rMake_ok u v hu hv hz w).mono ?_, .inl ⟨rfl, _, _, rfl, rfl, ho, hf.1, hf.2.1, hf.2.2⟩⟩
   rintro e w' ⟨x, y, r, rfl, h, hl⟩
   rcases h with ⟨_, _, _, _, rfl, rfl, rfl⟩ | ⟨h, _⟩
   ·exact ⟨rfl, hl⟩
   ·have := P511_pos; omega
  ·refine ⟨W8.zero, W8.zero, 6, fun w => (rMake_ok u v hu hv hz w).mono ?_, .inr (by decide)⟩
   rintro e w' ⟨x, y, r, rfl, h, hl⟩
   rcases h with ⟨h1, h2, _, h4, _, _, _⟩ | ⟨_, rfl, rfl, rfl⟩
   ·exact absurd ⟨h1, h2, h4⟩ hf
   ·exact ⟨rfl, hl⟩
theorem rMake_one (u : W8) (hu : u.ok) : ∃ x y, MakeC u (W8.of 1) x y 0 ∧ ∃ N D, x = W8.of N ∧ y = W8.of D ∧ ShFit N D := by
 have h1 : (W8.of 1).toInt = 1 := W8.of_toInt (by decide) (by decide)
 have hN : lowN u.toInt 1 = u.toInt := by unfold lowN; rw [if_neg (by decide), Int.gcd_one]; simp
 have hD : lowD u.toInt 1 = 1 := by unfold lowD; rw [if_neg (by decide), Int.gcd_one]; rfl
 have hb := W8.toInt_bounds hu
 have hp : (1 : Int) < P511 := by decide
 refine ⟨W8.of u.toInt, W8.of 1, fun w => ?_, _, _, rfl, rfl, ⟨⟨by decide, by rw [Int.gcd_one]⟩, hb.1, hb.2, hp⟩⟩
 have := rMake_ok u (W8.of 1) hu (W8.of_ok 1) (by rw [h1]; decide) w
 rw [h1, hN, hD] at this
 refine this.mono ?_
 rintro e w' ⟨x, y, r, rfl, h, hl⟩
 rcases h with ⟨_, _, _, _, rfl, rfl, rfl⟩ | ⟨h, _⟩
 ·exact ⟨rfl, hl⟩
 ·omega
end Go.Proofs.YtogkkhaepfablaaGreat
namespace Go.Proofs.YtogkkhaepfablaaGreat
open Go.RowKit
set_option linter.unusedSimpArgs false
set_option linter.unusedVariables false
theorem name_put16 {w : World} {g : Nat} {t : TypeId} {c0 c1 c2 c3 c4 c5 c6 c7 c8 c9 c10 c11 c12 c13 c14 c15 v0 v1 v2 v3 v4 v5 v6 v7 v8 v9 v10 v11 v12 v13 v14 v15 : Value} {Q : World → Prop} (hb : Blk w g t #[c0, c1, c2, c3, c4, c5, c6, c7, c8, c9, c10, c11, c12, c13, c14, c15])
  (h : ∀ W', Blk W' g t #[v0, v1, v2, v3, v4, v5, v6, v7, v8, v9, v10, v11, v12, v13, v14, v15] → LatP (· = g) w W' → Q W') : Q ((((((((((((((((w.setCell ⟨g, 0, none⟩ v0).setCell ⟨g, 1, none⟩ v1).setCell ⟨g, 2, none⟩ v2).setCell ⟨g, 3, none⟩ v3).setCell ⟨g, 4, none⟩ v4).setCell ⟨g, 5, none⟩ v5).setCell ⟨g, 6, none⟩ v6).setCell ⟨g, 7, none⟩ v7).setCell ⟨g, 8, none⟩ v8).setCell ⟨g, 9, none⟩ v9).setCell ⟨g, 10, none⟩ v10).setCell ⟨g, 11, none⟩ v11).setCell ⟨g, 12, none⟩ v12).setCell ⟨g, 13, none⟩ v13).setCell ⟨g, 14, none⟩ v14).setCell ⟨g, 15, none⟩ v15) := by
 refine h _ ?_ ((((((((((((((((LatP.setc w g 0 v0).trans (LatP.setc (w.setCell ⟨g, 0, none⟩ v0) g 1 v1)).trans (LatP.setc ((w.setCell ⟨g, 0, none⟩ v0).setCell ⟨g, 1, none⟩ v1) g 2 v2)).trans (LatP.setc (((w.setCell ⟨g, 0, none⟩ v0).setCell ⟨g, 1, none⟩ v1).setCell ⟨g, 2, none⟩ v2) g 3 v3)).trans (LatP.setc ((((w.setCell ⟨g, 0, none⟩ v0).setCell ⟨g, 1, none⟩ v1).setCell ⟨g, 2, none⟩ v2).setCell ⟨g, 3, none⟩ v3) g 4 v4)).trans (LatP.setc (((((w.setCell ⟨g, 0, none⟩ v0).setCell ⟨g, 1, none⟩ v1).setCell ⟨g, 2, none⟩ v2).setCell ⟨g, 3, none⟩ v3).setCell ⟨g, 4, none⟩ v4) g 5 v5)).trans (LatP.setc ((((((w.setCell ⟨g, 0, none⟩ v0).setCell ⟨g, 1, none⟩ v1).setCell ⟨g, 2, none⟩ v2).setCell ⟨g, 3, none⟩ v3).setCell ⟨g, 4, none⟩ v4).setCell ⟨g, 5, none⟩ v5) g 6 v6)).trans (LatP.setc (((((((w.setCell ⟨g, 0, none⟩ v0).setCell ⟨g, 1, none⟩ v1).setCell ⟨g, 2, none⟩ v2).setCell ⟨g, 3, none⟩ v3).setCell ⟨g, 4, none⟩ v4).setCell ⟨g, 5, none⟩ v5).setCell ⟨g, 6, none⟩ v6) g 7 v7)).trans (LatP.setc ((((((((w.setCell ⟨g, 0, none⟩ v0).setCell ⟨g, 1, none⟩ v1).setCell ⟨g, 2, none⟩ v2).setCell ⟨g, 3, none⟩ v3).setCell ⟨g, 4, none⟩ v4).setCell ⟨g, 5, none⟩ v5).setCell ⟨g, 6, none⟩ v6).setCell ⟨g, 7, none⟩ v7) g 8 v8)).trans (LatP.setc (((((((((w.setCell ⟨g, 0, none⟩ v0).setCell ⟨g, 1, none⟩ v1).setCell ⟨g, 2, none⟩ v2).setCell ⟨g, 3, none⟩ v3).setCell ⟨g, 4, none⟩ v4).setCell ⟨g, 5, none⟩ v5).setCell ⟨g, 6, none⟩ v6).setCell ⟨g, 7, none⟩ v7).setCell ⟨g, 8, none⟩ v8) g 9 v9)).trans (LatP.setc ((((((((((w.setCell ⟨g, 0, none⟩ v0).setCell ⟨g, 1, none⟩ v1).setCell ⟨g, 2, none⟩ v2).setCell ⟨g, 3, none⟩ v3).setCell ⟨g, 4, none⟩ v4).setCell ⟨g, 5, none⟩ v5).setCell ⟨g, 6, none⟩ v6).setCell ⟨g, 7, none⟩ v7).setCell ⟨g, 8, none⟩ v8).setCell ⟨g, 9, none⟩ v9) g 10 v10)).trans (LatP.setc (((((((((((w.setCell ⟨g, 0, none⟩ v0).setCell ⟨g, 1, none⟩ v1).setCell ⟨g, 2, none⟩ v2).setCell ⟨g, 3, none⟩ v3).setCell ⟨g, 4, none⟩ v4).setCell ⟨g, 5, none⟩ v5).setCell ⟨g, 6, none⟩ v6).setCell ⟨g, 7, none⟩ v7).setCell ⟨g, 8, none⟩ v8).setCell ⟨g, 9, none⟩ v9).setCell ⟨g, 10, none⟩ v10) g 11 v11)).trans (LatP.setc ((((((((((((w.setCell ⟨g, 0, none⟩ v0).setCell ⟨g, 1, none⟩ v1).setCell ⟨g, 2, none⟩ v2).setCell ⟨g, 3, none⟩ v3).setCell ⟨g, 4, none⟩ v4).setCell ⟨g, 5, none⟩ v5).setCell ⟨g, 6, none⟩ v6).setCell ⟨g, 7, none⟩ v7).setCell ⟨g, 8, none⟩ v8).setCell ⟨g, 9, none⟩ v9).setCell ⟨g, 10, none⟩ v10).setCell ⟨g, 11, none⟩ v11) g 12 v12)).trans (LatP.setc (((((((((((((w.setCell ⟨g, 0, none⟩ v0).setCell ⟨g, 1, none⟩ v1).setCell ⟨g, 2, none⟩ v2).setCell ⟨g, 3, none⟩ v3).setCell ⟨g, 4, none⟩ v4).setCell ⟨g, 5, none⟩ v5).setCell ⟨g, 6, none⟩ v6).setCell ⟨g, 7, none⟩ v7).setCell ⟨g, 8, none⟩ v8).setCell ⟨g, 9, none⟩ v9).setCell ⟨g, 10, none⟩ v10).setCell ⟨g, 11, none⟩ v11).setCell ⟨g, 12, none⟩ v12) g 13 v13)).trans (LatP.setc ((((((((((((((w.setCell ⟨g, 0, none⟩ v0).setCell ⟨g, 1, none⟩ v1).setCell ⟨g, 2, none⟩ v2).setCell ⟨g, 3, none⟩ v3).setCell ⟨g, 4, none⟩ v4).setCell ⟨g, 5, none⟩ v5).setCell ⟨g, 6, none⟩ v6).setCell ⟨g, 7, none⟩ v7).setCell ⟨g, 8, none⟩ v8).setCell ⟨g, 9, none⟩ v9).setCell ⟨g, 10, none⟩ v10).setCell ⟨g, 11, none⟩ v11).setCell ⟨g, 12, none⟩ v12).setCell ⟨g, 13, none⟩ v13) g 14 v14)).trans (LatP.setc (((((((((((((((w.setCell ⟨g, 0, none⟩ v0).setCell ⟨g, 1, none⟩ v1).setCell ⟨g, 2, none⟩ v2).setCell ⟨g, 3, none⟩ v3).setCell ⟨g, 4, none⟩ v4).setCell ⟨g, 5, none⟩ v5).setCell ⟨g, 6, none⟩ v6).setCell ⟨g, 7, none⟩ v7).setCell ⟨g, 8, none⟩ v8).setCell ⟨g, 9, none⟩ v9).setCell ⟨g, 10, none⟩ v10).setCell ⟨g, 11, none⟩ v11).setCell ⟨g, 12, none⟩ v12).setCell ⟨g, 13, none⟩ v13).setCell ⟨g, 14, none⟩ v14) g 15 v15))
 have := ((((((((((((((((hb.set 0 v0).set 1 v1).set 2 v2).set 3 v3).set 4 v4).set 5 v5).set 6 v6).set 7 v7).set 8 v8).set 9 v9).set 10 v10).set 11 v11).set 12 v12).set 13 v13).set 14 v14).set 15 v15)
 simpa using this
set_option maxRecDepth 100000 in
set_option maxHeartbeats 4000000 in
theorem rMade_first (u v x y : W8) (H : MakeC u v x y 0) (w : World) :
  Calls Tryz.prog 56 #[.agg #[.int .u64 u.a0, .int .u64 u.a1, .int .u64 u.a2, .int .u64 u.a3, .int .u64 u.a4, .int .u64 u.a5, .int .u64 u.a6, .int .u64 u.a7], .agg #[.int .u64 v.a0, .int .u64 v.a1, .int .u64 v.a2, .int .u64 v.a3, .int .u64 v.a4, .int .u64 v.a5, .int .u64 v.a6, .int .u64 v.a7]] w (fun e w' => e = .returned (.agg #[.int .u64 x.a0, .int .u64 x.a1, .int .u64 x.a2, .int .u64 x.a3, .int .u64 x.a4, .int .u64 x.a5, .int .u64 x.a6, .int .u64 x.a7, .int .u64 y.a0, .int .u64 y.a1, .int .u64 y.a2, .int .u64 y.a3, .int .u64 y.a4, .int .u64 y.a5, .int .u64 y.a6, .int .u64 y.a7]) ∧ Lat w w') := by
 go_enter Tryz.func56, Tryz.ntmps56
 go_upto_region 1 with (fail)
 refine name3 (Q := fun W => Code.wp _ _ _ _ W) ?_
 intro W hl hs k1 k2 k3
 have a0 := k1.cell 0
 have a1 := k1.cell 1
 have a2 := k1.cell 2
 have a3 := k1.cell 3
 have a4 := k1.cell 4
 have a5 := k1.cell 5
 have a6 := k1.cell 6
 have a7 := k1.cell 7
 have d0 := k2.cell 0
 have d1 := k2.cell 1
 have d2 := k2.cell 2
 have d3 := k2.cell 3
 have d4 := k2.cell 4
 have d5 := k2.cell 5
 have d6 := k2.cell 6
 have d7 := k2.cell 7
 go_wp2_with fail
 refine (H W).mono ?_
 rintro e w1 ⟨rfl, l1⟩
 replace k3 := k3.later l1
 have L1 := hl.trans l1
 clear a0 a1 a2 a3 a4 a5 a6 a7
 clear d0 d1 d2 d3 d4 d5 d6 d7
 clear k1 k2 H
 go_upto_region 2 with (fail)
 refine name1 (Q := fun W => Code.wp _ _ _ _ W) ?_
 intro w2 l2 hs2 k5
 replace k3 := k3.later l2
 have L2 := L1.trans l2
 have a0 := k5.cell 0
 have a1 := k5.cell 1
 have a2 := k5.cell 2
 have a3 := k5.cell 3
 have a4 := k5.cell 4
 have a5 := k5.cell 5
 have a6 := k5.cell 6
 have a7 := k5.cell 7
 have a8 := k5.cell 8
 have a9 := k5.cell 9
 have a10 := k5.cell 10
 have a11 := k5.cell 11
 have a12 := k5.cell 12
 have a13 := k5.cell 13
 have a14 := k5.cell 14
 have a15 := k5.cell 15
 have e0 := k3.cell 0
 have e1 := k3.cell 1
 have e2 := k3.cell 2
 have e3 := k3.cell 3
 have e4 := k3.cell 4
 have e5 := k3.cell 5
 have e6 := k3.cell 6
 have e7 := k3.cell 7
 have e8 := k3.cell 8
 have e9 := k3.cell 9
 have e10 := k3.cell 10
 have e11 := k3.cell 11
 have e12 := k3.cell 12
 have e13 := k3.cell 13
 have e14 := k3.cell 14
 have e15 := k3.cell 15
 have f0 := k3.frozen 0
 have f1 := k3.frozen 1
 have f2 := k3.frozen 2
 have f3 := k3.frozen 3
 have f4 := k3.frozen 4
 have f5 := k3.frozen 5
 have f6 := k3.frozen 6
 have f7 := k3.frozen 7
 have f8 := k3.frozen 8
 have f9 := k3.frozen 9
 have f10 := k3.frozen 10
 have f11 := k3.frozen 11
 have f12 := k3.frozen 12
 have f13 := k3.frozen 13
 have f14 := k3.frozen 14
 have f15 := k3.frozen 15
 have hlt := k3.lt
 go_wp2
 refine bodyPost_ret (v := .agg #[.int .u64 x.a0, .int .u64 x.a1, .int .u64 x.a2, .int .u64 x.a3, .int .u64 x.a4, .int .u64 x.a5, .int .u64 x.a6, .int .u64 x.a7, .int .u64 y.a0, .int .u64 y.a1, .int .u64 y.a2, .int .u64 y.a3, .int .u64 y.a4, .int .u64 y.a5, .int .u64 y.a6, .int .u64 y.a7]) (by simp [results, Tryz.results56, go_sem, e0, e1, e2, e3, e4, e5, e6, e7, e8, e9, e10, e11, e12, e13, e14, e15]) rfl ?_
 refine ⟨rfl, ?_⟩
 iterate 16 (refine Lat.setCell ?_ (by simp; try omega) _)
 exact L2
set_option maxRecDepth 100000 in
set_option maxHeartbeats 4000000 in
theorem rMade_second (u v x0 y0 x y : W8) (r : Int) (hr : (r == 0) = false) (H : MakeC u v x0 y0 r) (H2 : MakeC u (W8.of 1) x y 0) (w : World) :
  Calls Tryz.prog 56 #[.agg #[.int .u64 u.a0, .int .u64 u.a1, .int .u64 u.a2, .int .u64 u.a3, .int .u64 u.a4, .int .u64 u.a5, .int .u64 u.a6, .int .u64 u.a7], .agg #[.int .u64 v.a0, .int .u64 v.a1, .int .u64 v.a2, .int .u64 v.a3, .int .u64 v.a4, .int .u64 v.a5, .int .u64 v.a6, .int .u64 v.a7]] w (fun e w' => e = .returned (.agg #[.int .u64 x.a0, .int .u64 x.a1, .int .u64 x.a2, .int .u64 x.a3, .int .u64 x.a4, .int .u64 x.a5, .int .u64 x.a6, .int .u64 x.a7, .int .u64 y.a0, .int .u64 y.a1, .int .u64 y.a2, .int .u64 y.a3, .int .u64 y.a4, .int .u64 y.a5, .int .u64 y.a6, .int .u64 y.a7]) ∧ Lat w w') := by
 unfold MakeC at H H2
 have hr' : (r != 0) = true := by simp only [bne, hr]; rfl
 have HO := fun w => rWOf_any 1 (by decide) (by decide) w
 go_enter Tryz.func56, Tryz.ntmps56
 go_upto_region 1 with (fail)
 refine name3 (Q := fun W => Code.wp _ _ _ _ W) ?_
 intro W hl hs k1 k2 k3
 have a0 := k1.cell 0
 have a1 := k1.cell 1
 have a2 := k1.cell 2
 have a3 := k1.cell 3
 have a4 := k1.cell 4
 have a5 := k1.cell 5
 have a6 := k1.cell 6
 have a7 := k1.cell 7
 have d0 := k2.cell 0
 have d1 := k2.cell 1
 have d2 := k2.cell 2
 have d3 := k2.cell 3
 have d4 := k2.cell 4
 have d5 := k2.cell 5
 have d6 := k2.cell 6
 have d7 := k2.cell 7
 go_wp2_with fail
 refine (H W).mono ?_
 rintro e w1 ⟨rfl, l1⟩
 replace k1 := k1.later l1
 replace k3 := k3.later l1
 have L1 := hl.trans l1
 clear a0 a1 a2 a3 a4 a5 a6 a7
 clear d0 d1 d2 d3 d4 d5 d6 d7
 clear k2 H
 obtain ⟨g2, hg2⟩ : ∃ z, w.heap.size = z := ⟨_, rfl⟩
 obtain ⟨g4, hg4⟩ : ∃ z, w.heap.size + 1 + 1 = z := ⟨_, rfl⟩
 have hw4 : w.heap.size ≤ g4 := by omega
 have h24 : g2 < g4 := by omega
 rw [hg2] at k1
 rw [hg4] at k3
 rw [hg4, hg2]
 clear hg2 hg4
 have h4l := k3.lt
 go_upto_region 2 with (fail)
 refine name1 (Q := fun W => Code.wp _ _ _ _ W) ?_
 intro w2 l2 hs2 k5
 replace k1 := k1.later l2
 replace k3 := k3.later l2
 have L2 := L1.trans l2
 obtain ⟨g5, hg5⟩ : ∃ z, w1.heap.size = z := ⟨_, rfl⟩
 have h45 : g4 < g5 := by omega
 rw [hg5] at k5 ⊢
 clear hg5 h4l
 have hne1 : g2 ∉ [g5] := by simp; omega
 have hw5 : w.heap.size ≤ g5 := by omega
 have a0 := k1.evS hne1 0 rfl
 have a1 := k1.evS hne1 1 rfl
 have a2 := k1.evS hne1 2 rfl
 have a3 := k1.evS hne1 3 rfl
 have a4 := k1.evS hne1 4 rfl
 have a5 := k1.evS hne1 5 rfl
 have a6 := k1.evS hne1 6 rfl
 have a7 := k1.evS hne1 7 rfl
 clear l1 l2 hs2 hs hl L1
 go_upto_region 3 with (fail)
 have L0 := Lat.drew w2
 have M0 := L0.s [g5]
 go_region_held3 (fun w' => LatS w2 [g5] w') (first | (with_reducible assumption) | ((iterate 16 (refine LatS.set ?_ (by simp) _)); with_reducible assumption))
  (first
    | (have _h := HO; go_at_call 12; (with_reducible refine (HO _).mono ?_); rintro e w3 ⟨rfl, q3⟩; have L3 := L0.trans q3; have M3 := L3.s [g5]; clear HO _h)
    | (have _h := H2; go_at_call 79; (with_reducible refine (H2 _).mono ?_); rintro e w4 ⟨rfl, r3⟩; have L4 := L3.trans r3; have M4 := L4.s [g5]; clear H2 _h; have K5 := k5.later L4
       have e0 := K5.cell 0
       have e1 := K5.cell 1
       have e2 := K5.cell 2
       have e3 := K5.cell 3
       have e4 := K5.cell 4
       have e5 := K5.cell 5
       have e6 := K5.cell 6
       have e7 := K5.cell 7
       have e8 := K5.cell 8
       have e9 := K5.cell 9
       have e10 := K5.cell 10
       have e11 := K5.cell 11
       have e12 := K5.cell 12
       have e13 := K5.cell 13
       have e14 := K5.cell 14
       have e15 := K5.cell 15
       have f0 := K5.frozen 0
       have f1 := K5.frozen 1
       have f2 := K5.frozen 2
       have f3 := K5.frozen 3
       have f4 := K5.frozen 4
       have f5 := K5.frozen 5
       have f6 := K5.frozen 6
       have f7 := K5.frozen 7
       have f8 := K5.frozen 8
       have f9 := K5.frozen 9
       have f10 := K5.frozen 10
       have f11 := K5.frozen 11
       have f12 := K5.frozen 12
       have f13 := K5.frozen 13
       have f14 := K5.frozen 14
       have f15 := K5.frozen 15
       have _u := True.intro))
 go_upto_region 4 with (fail)
 refine name_put16 (Q := fun W => Code.wp _ _ _ _ W) K5 ?_
 intro W6 k6 lp6
 clear e0 e1 e2 e3 e4 e5 e6 e7 e8 e9 e10 e11 e12 e13 e14 e15
 clear f0 f1 f2 f3 f4 f5 f6 f7 f8 f9 f10 f11 f12 f13 f14 f15
 replace k3 := (k3.later L4).keepP lp6 (by omega)
 have L6 := lp6.narrow (L2.trans L4) hw5
 clear K5 M0 M3 M4 lp6 L4 L3 k5
 have b0 := k6.cell 0
 have b1 := k6.cell 1
 have b2 := k6.cell 2
 have b3 := k6.cell 3
 have b4 := k6.cell 4
 have b5 := k6.cell 5
 have b6 := k6.cell 6
 have b7 := k6.cell 7
 have b8 := k6.cell 8
 have b9 := k6.cell 9
 have b10 := k6.cell 10
 have b11 := k6.cell 11
 have b12 := k6.cell 12
 have b13 := k6.cell 13
 have b14 := k6.cell 14
 have b15 := k6.cell 15
 have e0 := k3.cell 0
 have e1 := k3.cell 1
 have e2 := k3.cell 2
 have e3 := k3.cell 3
 have e4 := k3.cell 4
 have e5 := k3.cell 5
 have e6 := k3.cell 6
 have e7 := k3.cell 7
 have e8 := k3.cell 8
 have e9 := k3.cell 9
 have e10 := k3.cell 10
 have e11 := k3.cell 11
 have e12 := k3.cell 12
 have e13 := k3.cell 13
 have e14 := k3.cell 14
 have e15 := k3.cell 15
 have f0 := k3.frozen 0
 have f1 := k3.frozen 1
 have f2 := k3.frozen 2
 have f3 := k3.frozen 3
 have f4 := k3.frozen 4
 have f5 := k3.frozen 5
 have f6 := k3.frozen 6
 have f7 := k3.frozen 7
 have f8 := k3.frozen 8
 have f9 := k3.frozen 9
 have f10 := k3.frozen 10
 have f11 := k3.frozen 11
 have f12 := k3.frozen 12
 have f13 := k3.frozen 13
 have f14 := k3.frozen 14
 have f15 := k3.frozen 15
 have hlt := k3.lt
 go_wp2
 refine name_put16 (Q := fun W => bodyPost _ _ _ _ _ W) k3 ?_
 intro W7 k7 lp7
 have c0 := k7.cell 0
 have c1 := k7.cell 1
 have c2 := k7.cell 2
 have c3 := k7.cell 3
 have c4 := k7.cell 4
 have c5 := k7.cell 5
 have c6 := k7.cell 6
 have c7 := k7.cell 7
 have c8 := k7.cell 8
 have c9 := k7.cell 9
 have c10 := k7.cell 10
 have c11 := k7.cell 11
 have c12 := k7.cell 12
 have c13 := k7.cell 13
 have c14 := k7.cell 14
 have c15 := k7.cell 15
 refine bodyPost_ret (v := .agg #[.int .u64 x.a0, .int .u64 x.a1, .int .u64 x.a2, .int .u64 x.a3, .int .u64 x.a4, .int .u64 x.a5, .int .u64 x.a6, .int .u64 x.a7, .int .u64 y.a0, .int .u64 y.a1, .int .u64 y.a2, .int .u64 y.a3, .int .u64 y.a4, .int .u64 y.a5, .int .u64 y.a6, .int .u64 y.a7]) (by simp [results, Tryz.results56, go_sem, c0, c1, c2, c3, c4, c5, c6, c7, c8, c9, c10, c11, c12, c13, c14, c15]) rfl ?_
 exact ⟨rfl, lp7.narrow L6 hw4⟩
theorem rMade_any (u v : W8) (hu : u.ok) (hv : v.ok) : ∃ N D, ShFit N D ∧ ∀ w, Calls Tryz.prog 56 #[.agg #[.int .u64 u.a0, .int .u64 u.a1, .int .u64 u.a2, .int .u64 u.a3, .int .u64 u.a4, .int .u64 u.a5, .int .u64 u.a6, .int .u64 u.a7], .agg #[.int .u64 v.a0, .int .u64 v.a1, .int .u64 v.a2, .int .u64 v.a3, .int .u64 v.a4, .int .u64 v.a5, .int .u64 v.a6, .int .u64 v.a7]] w (fun e w' => e = .returned (.agg #[.int .u64 (W8.of N).a0, .int .u64 (W8.of N).a1, .int .u64 (W8.of N).a2, .int .u64 (W8.of N).a3, .int .u64 (W8.of N).a4, .int .u64 (W8.of N).a5, .int .u64 (W8.of N).a6, .int .u64 (W8.of N).a7, .int .u64 (W8.of D).a0, .int .u64 (W8.of D).a1, .int .u64 (W8.of D).a2, .int .u64 (W8.of D).a3, .int .u64 (W8.of D).a4, .int .u64 (W8.of D).a5, .int .u64 (W8.of D).a6, .int .u64 (W8.of D).a7]) ∧ Lat w w') := by
 obtain ⟨x, y, r, H, h⟩ := rMake_any u v hu hv
 rcases h with ⟨rfl, N, D, rfl, rfl, hf⟩ | hr
 ·exact ⟨N, D, hf, rMade_first u v _ _ H⟩
 ·obtain ⟨x2, y2, H2, N, D, rfl, rfl, hf⟩ := rMake_one u hu
  exact ⟨N, D, hf, rMade_second u v x y _ _ r hr H H2⟩
end Go.Proofs.YtogkkhaepfablaaGreat
namespace Go.Proofs.YtogkkhaepfablaaGreat
open Go.RowKit
set_option linter.unusedSimpArgs false
theorem chTry_some {α : Type} {draw : Nat → α × Nat} {ok : α → Bool} : ∀ {f s : Nat} {p : α × Nat}, chTry draw ok f s = some p → ok p.1 = true ∧ ∃ s', p = draw s'
 | 0, s, p, h => by rw [chTry] at h; cases h
 | f + 1, s, p, h => by
   rw [chTry] at h
   by_cases h2 : ok (draw s).1 = true
   ·rw [if_pos h2] at h
    cases h
    exact ⟨h2, s, rfl⟩
   ·rw [if_neg h2] at h
    exact chTry_some h
theorem chWid_in {s : Nat} {n : Int} (h1 : 1 ≤ n) {x : Int} {t : Nat} (h : chWid s n = some (x, t)) : 0 ≤ x ∧ x < n := by
 unfold chWid at h
 by_cases hb : blen (n - 1) = 0
 ·rw [if_pos hb] at h
  cases h
  omega
 ·rw [if_neg hb] at h
  obtain ⟨h2, s', h3⟩ := chTry_some h
  have h4 : x = chNum (blen (n - 1)) s' := congrArg Prod.fst h3
  have h5 := Int.emod_nonneg (val W64 (chWords ((blen (n - 1) + 63) / 64) s')) (Int.ne_of_gt (pow_pos2 (blen (n - 1))))
  have h6 : x < n := of_decide_eq_true h2
  unfold chNum at h4
  exact ⟨by rw [h4]; exact h5, h6⟩
theorem wid_in {s : Nat} {n : Int} (h1 : 1 ≤ n) : widE s n = 9 ∨ (widE s n = 0 ∧ 0 ≤ widV s n ∧ widV s n < n) := by
 unfold widE widV
 rw [if_neg (by omega), if_neg (by omega)]
 cases h : chWid s n with
 | none => left; rfl
 | some p =>
   obtain ⟨x, t⟩ := p
   right
   exact ⟨rfl, chWid_in h1 h⟩
end Go.Proofs.YtogkkhaepfablaaGreat
