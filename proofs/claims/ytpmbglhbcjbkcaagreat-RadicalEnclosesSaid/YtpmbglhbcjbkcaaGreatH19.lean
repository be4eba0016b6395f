/- Several texts in one: ShareB, ShareC, ShareD, RefT, RefU, RefV, RefW. -/
import Derived.Test.YtpmbglhbcjbkcaaGreatH12
import Derived.Test.YtpmbglhbcjbkcaaGreatH18
import Derived.Deep.DrawnRows
namespace Go.Proofs.YtpmbglhbcjbkcaaGreat
set_option maxHeartbeats 16000000
set_option maxRecDepth 100000
open Go.RowKit
def ShareIs (N D : Int) (u v : W8) (r : Int) : Prop :=
 (-zaV ≤ N ∧ N < zaV ∧ -zaV ≤ D ∧ D < zaV ∧ u = W8.of N ∧ v = W8.of D ∧ r = 0) ∨ ((N < -zaV ∨ zaV ≤ N ∨ D < -zaV ∨ zaV ≤ D) ∧ u = W8.zero ∧ v = W8.zero ∧ r = 6)
def zbX (w : World) (N D : Int) (e : Ending) (w' : World) : Prop :=
 ∃ (u v : W8) (r : Int), e = .returned (.tuple #[.agg (W8.two u v), .int .i64 r]) ∧ ShareIs N D u v r ∧ Lat w w'
theorem zgC {w w' : World} {N D : Int} {u v : W8} (h1 : -zaV ≤ N ∧ N < zaV ∧ u = W8.of N) (h2 : -zaV ≤ D ∧ D < zaV ∧ v = W8.of D) (hl : Lat w w') : zbX w N D (.returned (.tuple #[.agg (W8.two u v), .int .i64 0])) w' :=
 ⟨u, v, 0, rfl, .inl ⟨h1.1, h1.2.1, h2.1, h2.2.1, h1.2.2, h2.2.2, rfl⟩, hl⟩
theorem zb5 {w w' : World} {N D : Int} (h : N < -zaV ∨ zaV ≤ N ∨ D < -zaV ∨ zaV ≤ D) (hl : Lat w w') : zbX w N D (.returned (.tuple #[.agg (W8.two W8.zero W8.zero), .int .i64 6])) w' :=
 ⟨W8.zero, W8.zero, 6, rfl, .inr ⟨h, rfl, rfl, rfl⟩, hl⟩
theorem zcL (b1 : Bool) (A1 : Option Addr) (n1 c1 : Nat) (x : Int) (b2 : Bool) (A2 : Option Addr) (n2 c2 : Nat) (y : Int) (w : World) (h1 : Lg w b1 A1 n1 c1 x) (h2 : Lg w b2 A2 n2 c2 y) (hn : n1 ≤ 1000000) (hm : n2 ≤ 1000000) :
  Calls Tryz.prog 37 #[.agg #[.bool b1, .slice A1 n1 c1, .bool b2, .slice A2 n2 c2]] w (zbX w x y) := by
 have H1 := Lib.hid h1
 have H2 := Lib.hid h2
 clear h1 h2
 go_enter Tryz.func37, Tryz.ntmps37
 go_wp2_with fail
 refine zaK (Q := fun W => Calls _ _ _ W _) ?_
 intro W hl hs k1 k2
 refine (zcj b1 A1 n1 c1 x W (H1.out.later hl) hn).mono ?_
 rintro e w1 ⟨u, r, rfl, u1, u2⟩
 have LA := hl.trans u2
 have B1 := k1.later u2
 have B2 := k2.later u2
 have U1 := Lib.hid u1
 have hs1 := u2.size
 clear k1 k2 u1 u2 hl
 have c0 := B1.ever (i := 2) rfl
 have c1' := B1.ever (i := 3) rfl
 have L1 := Lat.alloc w1 (.cells (W8.one u) 38)
 go_wp2_with fail
 refine zas (Q := fun W => Calls _ _ _ W _) ?_
 intro W2 hl2 hs2 k3
 refine (zcj b2 A2 n2 c2 y W2 (H2.out.later (LA.trans hl2)) hm).mono ?_
 rintro e w2 ⟨v, s, rfl, v1, v2⟩
 have LB := (LA.trans hl2).trans v2
 have E2 := (B2.later hl2).later v2
 have E3 := k3.later v2
 have V1 := Lib.hid v1
 have hs3 := v2.size
 clear c0 c1' L1 B1 B2 k3 v1 v2 hl2 LA
 have L2 := Lat.alloc w2 (.cells (W8.one v) 38)
 have f0 := E2.free 0
 have f1 := E2.free 1
 have f2 := E2.free 2
 have f3 := E2.free 3
 have f4 := E2.free 4
 have f5 := E2.free 5
 have f6 := E2.free 6
 have f7 := E2.free 7
 have f8 := E2.free 8
 have f9 := E2.free 9
 have f10 := E2.free 10
 have f11 := E2.free 11
 have f12 := E2.free 12
 have f13 := E2.free 13
 have f14 := E2.free 14
 have f15 := E2.free 15
 have e0 := E2.ever (i := 0) rfl
 have e1 := E2.ever (i := 1) rfl
 have e2 := E2.ever (i := 2) rfl
 have e3 := E2.ever (i := 3) rfl
 have e4 := E2.ever (i := 4) rfl
 have e5 := E2.ever (i := 5) rfl
 have e6 := E2.ever (i := 6) rfl
 have e7 := E2.ever (i := 7) rfl
 have e8 := E2.ever (i := 8) rfl
 have e9 := E2.ever (i := 9) rfl
 have e10 := E2.ever (i := 10) rfl
 have e11 := E2.ever (i := 11) rfl
 have e12 := E2.ever (i := 12) rfl
 have e13 := E2.ever (i := 13) rfl
 have e14 := E2.ever (i := 14) rfl
 have e15 := E2.ever (i := 15) rfl
 have d0 := E3.ever (i := 0) rfl
 have d1 := E3.ever (i := 1) rfl
 have d2 := E3.ever (i := 2) rfl
 have d3 := E3.ever (i := 3) rfl
 have d4 := E3.ever (i := 4) rfl
 have d5 := E3.ever (i := 5) rfl
 have d6 := E3.ever (i := 6) rfl
 have d7 := E3.ever (i := 7) rfl
 rcases U1.out with ⟨a1, a2, a3, a4⟩ | ⟨a1, a3, a4⟩
 all_goals
  rcases V1.out with ⟨z1, z2, z3, z4⟩ | ⟨z1, z3, z4⟩
  all_goals
   clear U1 V1
   subst a4
   subst z4
   have A3 := Lib.hid a3
   have Z3 := Lib.hid z3
   clear a3 z3
   go_wp2
 ·refine bodyPost_ret (v := .tuple #[.agg (W8.two u v), .int .i64 0]) (by simp [results, Tryz.results37, go_sem, L2, e0, e1, e2, e3, e4, e5, e6, e7, e8, e9, e10, e11, e12, e13, e14, e15]) rfl ?_
  refine zgC ⟨a1, a2, A3.out⟩ ⟨z1, z2, Z3.out⟩ ?_
  iterate 16 (refine Lat.setCell ?_ (by simp; try omega) _)
  exact LB.trans L2
 ·refine bodyPost_ret (v := .tuple #[.agg (W8.two W8.zero W8.zero), .int .i64 6]) (by simp [results, Tryz.results37, go_sem, L2, e0, e1, e2, e3, e4, e5, e6, e7, e8, e9, e10, e11, e12, e13, e14, e15, W8.zero]) rfl ?_
  refine zb5 (by omega) ?_
  iterate 16 (refine Lat.setCell ?_ (by simp; try omega) _)
  exact LB.trans L2
 ·refine bodyPost_ret (v := .tuple #[.agg (W8.two W8.zero W8.zero), .int .i64 6]) (by simp [results, Tryz.results37, go_sem, L2, e0, e1, e2, e3, e4, e5, e6, e7, e8, e9, e10, e11, e12, e13, e14, e15, W8.zero]) rfl ?_
  refine zb5 (by omega) ?_
  iterate 16 (refine Lat.setCell ?_ (by simp; try omega) _)
  exact LB.trans L2
 ·refine bodyPost_ret (v := .tuple #[.agg (W8.two W8.zero W8.zero), .int .i64 6]) (by simp [results, Tryz.results37, go_sem, L2, e0, e1, e2, e3, e4, e5, e6, e7, e8, e9, e10, e11, e12, e13, e14, e15, W8.zero]) rfl ?_
  refine zb5 (by omega) ?_
  iterate 16 (refine Lat.setCell ?_ (by simp; try omega) _)
  exact LB.trans L2
theorem zbn (u v : W8) (hu : u.ok) (hv : v.ok) (w : World) :
  Calls Tryz.prog 47 #[.agg (W8.two u v)] w (RatPost w u.toInt v.toInt 8) := by
 go_enter Tryz.func47, Tryz.ntmps47
 go_wp2
 refine zaK (Q := fun W => Code.wp _ _ _ _ W) ?_
 intro W hl hs k1 k2
 have HX : ∀ w1, Lat W w1 → Calls Tryz.prog 80 #[.agg (W8.one u)] w1 (LongPost w1 u.toInt 8) := fun w1 _ => zbV u hu w1
 have HY : ∀ w1, Lat W w1 → Calls Tryz.prog 80 #[.agg (W8.one v)] w1 (LongPost w1 v.toInt 8) := fun w1 _ => zbV v hv w1
 have hne : w.heap.size ∉ [w.heap.size + 1] := by simp
 have a0 := k1.evS hne 0 rfl
 have a1 := k1.evS hne 1 rfl
 have a2 := k1.evS hne 2 rfl
 have a3 := k1.evS hne 3 rfl
 have a4 := k1.evS hne 4 rfl
 have a5 := k1.evS hne 5 rfl
 have a6 := k1.evS hne 6 rfl
 have a7 := k1.evS hne 7 rfl
 have a8 := k1.evS hne 8 rfl
 have a9 := k1.evS hne 9 rfl
 have a10 := k1.evS hne 10 rfl
 have a11 := k1.evS hne 11 rfl
 have a12 := k1.evS hne 12 rfl
 have a13 := k1.evS hne 13 rfl
 have a14 := k1.evS hne 14 rfl
 have a15 := k1.evS hne 15 rfl
 have L0 := Lat.drew W
 have M0 := L0.s [w.heap.size + 1]
 have _t := True.intro
 go_region_held3 (fun w' => LatS W [w.heap.size + 1] w') (first | assumption | ((repeat refine LatS.set ?_ (by simp) _); assumption))
  (first
    | (have _h := HX; go_at_call 80; (with_reducible refine (HX _ ?_).mono ?_); exact L0; rintro e w1 ⟨b, A, n, c, rfl, q1, q2, q3⟩; have L1 := L0.trans q3; have M1 := L1.s [w.heap.size + 1]; clear HX _h)
    | (go_at_call 80; (with_reducible refine (HY _ ?_).mono ?_); exact L1; rintro e w2 ⟨b', A', n', c', rfl, r1, r2, r3⟩; have L2 := L1.trans r3; have M2 := L2.s [w.heap.size + 1]; have K2 := k2.later L2; have d0 := K2.cell 0; have d1 := K2.cell 1; have d2 := K2.cell 2; have d3 := K2.cell 3; have f0 := K2.frozen 0; have f1 := K2.frozen 1; have f2 := K2.frozen 2; have f3 := K2.frozen 3))
 go_wp2
 refine bodyPost_ret (v := .agg #[.bool b, .slice A n c, .bool b', .slice A' n' c']) (by simp [results, Tryz.results47, go_sem, d0, d1, d2, d3]) rfl ?_
 exact RatPost.close K2 (q1.later r3) r1 (hl.trans L2) (by omega) q2 r2
theorem zbB (b1 : Bool) (A1 : Option Addr) (n1 c1 : Nat) (x1 : Int) (b2 : Bool) (A2 : Option Addr) (n2 c2 : Nat) (y1 : Int) (b3 : Bool) (A3 : Option Addr) (n3 c3 : Nat) (x2 : Int) (b4 : Bool) (A4 : Option Addr) (n4 c4 : Nat) (y2 : Int) (w : World)
  (h1 : Lg w b1 A1 n1 c1 x1) (h2 : Lg w b2 A2 n2 c2 y1) (h3 : Lg w b3 A3 n3 c3 x2) (h4 : Lg w b4 A4 n4 c4 y2) (g1 : n1 ≤ 100000) (g2 : n2 ≤ 100000) (g3 : n3 ≤ 100000) (g4 : n4 ≤ 100000) :
  Calls Tryz.prog 49 #[.agg #[.bool b1, .slice A1 n1 c1, .bool b2, .slice A2 n2 c2], .agg #[.bool b3, .slice A3 n3 c3, .bool b4, .slice A4 n4 c4]] w (fun e w' => e = .returned (.int .i64 (zaq (x1 * y2 - x2 * y1))) ∧ Lat w w') := by
 have H1 := Lib.hid h1
 have H2 := Lib.hid h2
 have H3 := Lib.hid h3
 have H4 := Lib.hid h4
 clear h1 h2 h3 h4
 go_enter Tryz.func49, Tryz.ntmps49
 go_wp2
 refine zaK (Q := fun W => Code.wp _ _ _ _ W) ?_
 intro W hl hs k1 k2
 have HX : ∀ w1, Lat W w1 → Calls Tryz.prog 62 #[.agg #[.bool b1, .slice A1 n1 c1], .agg #[.bool b4, .slice A4 n4 c4]] w1 (LongPost w1 (x1 * y2) (n1 + n4)) := fun w1 h => zbc b1 A1 n1 c1 x1 b4 A4 n4 c4 y2 w1 (H1.out.later (hl.trans h)) (H4.out.later (hl.trans h)) (by omega) (by omega)
 have HY : ∀ w1, Lat W w1 → Calls Tryz.prog 62 #[.agg #[.bool b3, .slice A3 n3 c3], .agg #[.bool b2, .slice A2 n2 c2]] w1 (LongPost w1 (x2 * y1) (n3 + n2)) := fun w1 h => zbc b3 A3 n3 c3 x2 b2 A2 n2 c2 y1 w1 (H3.out.later (hl.trans h)) (H2.out.later (hl.trans h)) (by omega) (by omega)
 have hne1 : w.heap.size ∉ ([] : List Nat) := by simp
 have hne2 : w.heap.size + 1 ∉ ([] : List Nat) := by simp
 have a0 := k1.evS hne1 0 rfl
 have a1 := k1.evS hne1 1 rfl
 have a2 := k1.evS hne1 2 rfl
 have a3 := k1.evS hne1 3 rfl
 have d0 := k2.evS hne2 0 rfl
 have d1 := k2.evS hne2 1 rfl
 have d2 := k2.evS hne2 2 rfl
 have d3 := k2.evS hne2 3 rfl
 have L0 := Lat.drew W
 have M0 := L0.s []
 go_region_held3 (fun w' => LatS W [] w') (first | assumption)
  (first
    | (have _h := HX; go_at_call 62; (with_reducible refine (HX _ ?_).mono ?_); exact L0; rintro e w1 ⟨b, A, n, c, rfl, q1, q2, q3⟩; have L1 := L0.trans q3; have M1 := L1.s []; clear HX _h)
    | (have _h := HY; go_at_call 62; (with_reducible refine (HY _ ?_).mono ?_); exact L1; rintro e w2 ⟨b', A', n', c', rfl, r1, r2, r3⟩; have L2 := L1.trans r3; have M2 := L2.s []; clear HY _h)
    | (go_at_call 78; refine (zcY b A n c (x1 * y2) b' A' n' c' (x2 * y1) _ (q1.later r3) r1 (by omega) (by omega)).mono ?_; rintro e w3 ⟨rfl, s5⟩; have L3 := L2.trans s5; have M3 := L3.s []))
 go_wp2
 go_ret
 exact ⟨rfl, hl.trans L3⟩
def zhk (N D : Int) : Prop := 0 < D ∧ Int.gcd N D = 1
theorem zcr (u v : W8) (hu : u.ok) (hv : v.ok) (hok : zhk u.toInt v.toInt) (w : World) :
  Calls Tryz.prog 46 #[.agg (W8.two u v)] w (fun e w' => e = .returned (.int .i64 0) ∧ Lat w w') := by
 obtain ⟨N, hN⟩ : ∃ N, N = u.toInt := ⟨_, rfl⟩
 obtain ⟨D, hD⟩ : ∃ D, D = v.toInt := ⟨_, rfl⟩
 have HR : ∀ w, Calls Tryz.prog 47 #[.agg (W8.two u v)] w (RatPost w N D 8) := by intro w; rw [hN, hD]; exact zbn u v hu hv w
 rw [← hN, ← hD] at hok
 have HO := Lib.hid hok
 clear hok
 clear hN hD hu hv
 go_enter Tryz.func46, Tryz.ntmps46
 go_wp2_with fail
 refine zas (Q := fun W => Calls _ _ _ W _) ?_
 intro W hl hs k1
 refine (zaY 1 (by decide) (by decide) W).mono ?_
 rintro e w1 ⟨b, A, n, c, rfl, p1, p2, p3⟩
 have LA := hl.trans p3
 have E1 := k1.later p3
 have P1 := Lib.hid p1
 have hs1 := p3.size
 have L1 := Lat.alloc w1 (.cells #[.bool b, .slice A n c] 88)
 clear p1 p3 hl k1
 have cc0 := E1.ever (i := 0) rfl
 have cc1 := E1.ever (i := 1) rfl
 have cc2 := E1.ever (i := 2) rfl
 have cc3 := E1.ever (i := 3) rfl
 have cc4 := E1.ever (i := 4) rfl
 have cc5 := E1.ever (i := 5) rfl
 have cc6 := E1.ever (i := 6) rfl
 have cc7 := E1.ever (i := 7) rfl
 have cc8 := E1.ever (i := 8) rfl
 have cc9 := E1.ever (i := 9) rfl
 have cc10 := E1.ever (i := 10) rfl
 have cc11 := E1.ever (i := 11) rfl
 have cc12 := E1.ever (i := 12) rfl
 have cc13 := E1.ever (i := 13) rfl
 have cc14 := E1.ever (i := 14) rfl
 have cc15 := E1.ever (i := 15) rfl
 go_wp2_with fail
 refine zas (Q := fun W => Calls _ _ _ W _) ?_
 intro W2 hl2 hs2 k2
 refine (HR W2).mono ?_
 rintro e w2 ⟨b1, A1, n1, c1, b2, A2, n2, c2, rfl, q1, q2, q3, q4, q5⟩
 have LB := (LA.trans hl2).trans q5
 have P2 := Lib.hid ((P1.out.later hl2).later q5)
 have K2 := k2.later q5
 have hs3 := q5.size
 have Q1 := Lib.hid q1
 have Q3 := Lib.hid q3
 clear E1 L1 P1 k2 q1 q3 q5 hl2 LA HR
 clear cc0 cc1 cc2 cc3 cc4 cc5 cc6 cc7 cc8 cc9 cc10 cc11 cc12 cc13 cc14 cc15
 have L2 := Lat.alloc w2 (.cells #[.bool b1, .slice A1 n1 c1, .bool b2, .slice A2 n2 c2] 94)
 go_wp2_with fail
 refine zas (Q := fun W => Code.wp _ _ _ _ W) ?_
 intro W3 hl3 hs4 k3
 have K2' := K2.later hl3
 have LC := LB.trans hl3
 have hne1 : w2.heap.size ∉ ([] : List Nat) := by simp
 have hne2 : w1.heap.size ∉ ([] : List Nat) := by simp
 have a0 := k3.evS hne1 0 rfl
 have a1 := k3.evS hne1 1 rfl
 have a2 := k3.evS hne1 2 rfl
 have a3 := k3.evS hne1 3 rfl
 have d0 := K2'.evS hne2 0 rfl
 have d1 := K2'.evS hne2 1 rfl
 have L0 := Lat.drew W3
 have M0 := L0.s []
 have X1 := Lib.hid (Q1.out.later hl3)
 have X3 := Lib.hid (Q3.out.later hl3)
 have XP := Lib.hid (P2.out.later hl3)
 clear L2 LB Q1 Q3 P2 K2 hl3
 have HSide : ∀ (s : Int), zaq D = s → ∀ w', Lat W3 w' → Calls Tryz.prog 89 #[.agg #[.bool b2, .slice A2 n2 c2]] w' (fun e w'' => e = .returned (.int .i64 s) ∧ Lat w' w'') := by
  intro s hs w' h
  rw [← hs]
  exact zfD b2 A2 n2 c2 D _ (X3.out.later h) (by omega)
 have HGcd : ∀ w', Lat W3 w' → Calls Tryz.prog 81 #[.agg #[.bool b1, .slice A1 n1 c1], .agg #[.bool b2, .slice A2 n2 c2]] w' (LongPost w' (Int.gcd N D) (max n1 n2)) := by
  intro w' h
  exact zdm b1 A1 n1 c1 N b2 A2 n2 c2 D _ (X1.out.later h) (X3.out.later h) (by omega) (by omega)
 have HCmp : ∀ (s : Int), zaq ((Int.gcd N D : Int) - 1) = s → ∀ w' (b : Bool) (A : Option Addr) (n c : Nat) (b3 : Bool) (A3 : Option Addr) (n3 c3 : Nat), Lg w' b A n c (Int.gcd N D) → Lg w' b3 A3 n3 c3 1 → n ≤ 8 → n3 ≤ 8 → Calls Tryz.prog 78 #[.agg #[.bool b, .slice A n c], .agg #[.bool b3, .slice A3 n3 c3]] w' (fun e w'' => e = .returned (.int .i64 s) ∧ Lat w' w'') := by
  intro s hs w' b A n c b3 A3 n3 c3 h1 h2 h3 h4
  rw [← hs]
  exact zcY b A n c _ b3 A3 n3 c3 1 _ h1 h2 (by omega) (by omega)
 have hD := HO.out.1
 have hg := HO.out.2
 have hS : zaq D = 1 := by unfold zaq; rw [if_neg (by omega), if_neg (by omega)]
 have HS := HSide 1 hS
 have hC : zaq ((Int.gcd N D : Int) - 1) = 0 := by rw [hg]; decide
 have HC := HCmp 0 hC
 clear hg hD hC hS HSide HCmp
 go_region_held3 (fun w' => LatS W3 [] w') (first | assumption)
  (first
    | (go_at_call 89; (with_reducible refine (HS _ ?_).mono ?_); exact L0; rintro e w4 ⟨rfl, s5⟩; have L4 := L0.trans s5; have M4 := L4.s [])
    | (go_at_call 81; (with_reducible refine (HGcd _ ?_).mono ?_); exact L4; rintro e w5 ⟨bg, Ag, ng, cg, rfl, r1, r2, r3⟩; have L5 := L4.trans r3; have M5 := L5.s [])
    | (go_at_call 78; (with_reducible refine (HC _ _ _ _ _ _ _ _ _ ?_ ?_ ?_ ?_).mono ?_); exact r1; exact XP.out.later L5; omega; omega; rintro e w6 ⟨rfl, s6⟩; have L6 := L5.trans s6; have M6 := L6.s []))
 go_wp2
 go_ret
 exact ⟨rfl, LC.trans L6⟩
def RratPost (w : World) (x y : Int) (N : Nat) (e : Ending) (w' : World) : Prop :=
 ∃ b A n c b' A' n' c', e = .returned (.agg #[.bool b, .slice A n c, .bool b', .slice A' n' c']) ∧ Rg w' b A n c x ∧ n ≤ N ∧ Rg w' b' A' n' c' y ∧ n' ≤ N ∧ Lat w w'
theorem zh3 (b : Bool) (A : Option Addr) (n c : Nat) (b' : Bool) (A' : Option Addr) (n' c' : Nat) : ∀ (j : Nat) (x : Int), (#[.bool b, .slice A n c, .bool b', .slice A' n' c'] : Array Value)[j]? ≠ some (.int .i64 x) := by
 intro j x
 match j with
 | 0 => simp
 | 1 => simp
 | 2 => simp
 | 3 => simp
 | j + 4 => simp
theorem RratPost.close {w w2 : World} {g t : Nat} {b b' b0 b0' : Bool} {A A' A0 A0' : Option Addr} {n c n' c' n0 c0 n0' c0' N : Nat} {x y : Int} (hk : Blk w2 g t #[.bool b0, .slice A0 n0 c0, .bool b0', .slice A0' n0' c0'])
  (h1 : Rg w2 b A n c x) (h2 : Rg w2 b' A' n' c' y) (hL : Lat w w2) (hg : w.heap.size ≤ g) (hn : n ≤ N) (hn' : n' ≤ N) :
  RratPost w x y N (.returned (.agg #[.bool b, .slice A n c, .bool b', .slice A' n' c'])) ((((w2.setCell ⟨g, 0, none⟩ (.bool b)).setCell ⟨g, 1, none⟩ (.slice A n c)).setCell ⟨g, 2, none⟩ (.bool b')).setCell ⟨g, 3, none⟩ (.slice A' n' c')) := by
 have ha := h1.apart hk (zh3 _ _ _ _ _ _ _ _)
 have hb := h2.apart hk (zh3 _ _ _ _ _ _ _ _)
 exact ⟨_, _, _, _, _, _, _, _, rfl, (((h1.far (p := ⟨g, 0, none⟩) ha _).far (p := ⟨g, 1, none⟩) ha _).far (p := ⟨g, 2, none⟩) ha _).far (p := ⟨g, 3, none⟩) ha _, hn,
  (((h2.far (p := ⟨g, 0, none⟩) hb _).far (p := ⟨g, 1, none⟩) hb _).far (p := ⟨g, 2, none⟩) hb _).far (p := ⟨g, 3, none⟩) hb _, hn',
  (((hL.setCell (p := ⟨g, 0, none⟩) hg _).setCell (p := ⟨g, 1, none⟩) hg _).setCell (p := ⟨g, 2, none⟩) hg _).setCell (p := ⟨g, 3, none⟩) hg _⟩
theorem Rg.neg_of {w : World} {A : Option Addr} {n c : Nat} {z : Int} (h : Rg w true A n c z) : z < 0 := by
 obtain ⟨_, xs, _, r, nz, hne, hv⟩ := h
 have := zaX zak r nz (hne rfl)
 rw [hv]; simp only [sgn, if_true]; omega
theorem Rg.nonneg_of {w : World} {A : Option Addr} {n c : Nat} {z : Int} (h : Rg w false A n c z) : 0 ≤ z := by
 obtain ⟨_, xs, _, r, nz, hne, hv⟩ := h
 have := zaj zak r
 rw [hv]; exact this
theorem zd7 (b1 : Bool) (A1 : Option Addr) (n1 c1 : Nat) (x : Int) (b2 : Bool) (A2 : Option Addr) (n2 c2 : Nat) (y : Int) (w : World) (h1 : Rg w b1 A1 n1 c1 x) (h2 : Rg w b2 A2 n2 c2 y) (hy0 : y ≠ 0) (hn : n1 ≤ 100000) (hm : n2 ≤ 100000) :
  Calls Tryz.prog 85 #[.agg #[.bool b1, .slice A1 n1 c1], .agg #[.bool b2, .slice A2 n2 c2]] w (RratPost w (zaT x y) (zaU x y) (max n1 n2 + 1)) := by
 have hg0 : (Int.gcd x y : Int) ≠ 0 := by
  have := Int.gcd_pos_of_ne_zero_right x hy0
  omega
 have hdx : Hid (x % (Int.gcd x y : Int) = 0 ∧ x % (-(Int.gcd x y : Int)) = 0) := ⟨Int.emod_eq_zero_of_dvd (Int.gcd_dvd_left ..), Int.emod_eq_zero_of_dvd (Int.neg_dvd.2 (Int.gcd_dvd_left ..))⟩
 have hdy : Hid (y % (Int.gcd x y : Int) = 0 ∧ y % (-(Int.gcd x y : Int)) = 0) := ⟨Int.emod_eq_zero_of_dvd (Int.gcd_dvd_right ..), Int.emod_eq_zero_of_dvd (Int.neg_dvd.2 (Int.gcd_dvd_right ..))⟩
 have hlow : Hid ((0 ≤ y → zaT x y = x / (Int.gcd x y : Int) ∧ zaU x y = y / (Int.gcd x y : Int)) ∧ (y < 0 → zaT x y = x / (-(Int.gcd x y : Int)) ∧ zaU x y = y / (-(Int.gcd x y : Int)))) := by
  refine ⟨fun h => ?_, fun h => ?_⟩
  ·rw [zaT, zaU, if_neg (by omega), if_neg (by omega)]; exact ⟨rfl, rfl⟩
  ·rw [zaT, zaU, if_pos h, if_pos h, Int.ediv_neg, Int.ediv_neg]; exact ⟨rfl, rfl⟩
 have HG := Lib.hid hg0
 have H1 := Lib.hid h1
 have H2 := Lib.hid h2
 clear hg0 hy0 h1 h2
 obtain ⟨G, hG⟩ : ∃ G : Int, (Int.gcd x y : Int) = G := ⟨_, rfl⟩
 rw [hG] at hdx hdy hlow HG
 have EG := Lib.hid hG
 clear hG
 go_enter Tryz.func85, Tryz.ntmps85
 go_wp2_with fail
 refine za0 (Q := fun W => Calls _ _ _ W _) ?_
 intro W hl hs k1 k2 k3
 refine (zgB b1 A1 n1 c1 x b2 A2 n2 c2 y W (H1.out.later hl) (H2.out.later hl) (by omega) (by omega)).mono ?_
 rintro e w1 ⟨bg, Ag, ng, cg, rfl, g1, g2, g3⟩
 have LA := hl.trans g3
 have B1 := k1.later g3
 have B2 := k2.later g3
 have B3 := k3.later g3
 rw [EG.out] at g1
 have G1 := Lib.hid g1
 have s1 := g3.size
 clear k1 k2 k3 hl g1 g3
 have c0 := B1.ever 0 rfl
 have c1' := B1.ever 1 rfl
 have c2' := B2.ever 0 rfl
 have c3' := B2.ever 1 rfl
 have L1 := Lat.alloc w1 (.cells #[.bool bg, .slice Ag ng cg] 79)
 cases b2 with
 | false =>
   have hy := H2.out.nonneg_of
   have hlw := Lib.hid (hlow.out.1 hy)
   clear hlow
   go_wp2_with fail
   refine zas (Q := fun W => Calls _ _ _ W _) ?_
   intro W2 hl2 hs2 k4
   have LB0 := LA.trans hl2
   have E1 := B1.later hl2
   have E2 := B2.later hl2
   have E3 := B3.later hl2
   have GG := Lib.hid (G1.out.later hl2)
   have HD : Hid (x % G = 0 ∧ y % G = 0 ∧ G ≠ 0) := ⟨hdx.out.1, hdy.out.1, HG.out⟩
   clear B1 B2 B3 G1 c0 c1' c2' c3' L1 hl2 LA
   refine (zcq b1 A1 n1 c1 x bg Ag ng cg G W2 (H1.out.later LB0) GG.out HD.out.2.2 (.inr HD.out.1) hn (by omega)).mono ?_
   rintro e w2 ⟨bx, Ax, nx, cx, b', A', n', c', rfl, q1, q2, q3, q4, q5⟩
   have LB := LB0.trans q5
   have F1 := E1.later q5
   have F2 := E2.later q5
   have F3 := E3.later q5
   have F4 := k4.later q5
   have GH := Lib.hid (GG.out.later q5)
   have Q1 := Lib.hid q1
   clear E1 E2 E3 k4 GG q5 LB0 q1 q3
   have c0 := F1.ever 0 rfl
   have c1' := F1.ever 1 rfl
   have c2' := F2.ever 0 rfl
   have c3' := F2.ever 1 rfl
   have c4 := F4.ever 0 rfl
   have c5 := F4.ever 1 rfl
   have L2 := (Lat.alloc w2 (.cells #[.bool bx, .slice Ax nx cx] 79)).trans (Lat.alloc _ (.cells #[.bool b', .slice A' n' c'] 79))
   go_wp2_with fail
   refine zaK (Q := fun W => Calls _ _ _ W _) ?_
   intro W3 hl3 hs3 k5 k6
   refine (zcq false A2 n2 c2 y bg Ag ng cg G W3 (H2.out.later (LB.trans hl3)) (GH.out.later hl3) HD.out.2.2 (.inr HD.out.2.1) hm (by omega)).mono ?_
   rintro e w3 ⟨by', Ay, ny, cy, b'', A'', n'', c'', rfl, p1, p2, p3, p4, p5⟩
   have LC := (LB.trans hl3).trans p5
   have M3 := (F3.later hl3).later p5
   have M5 := k5.later p5
   have QX := Lib.hid ((Q1.out.later hl3).later p5)
   have QY := Lib.hid p1
   clear F1 F2 F3 F4 k5 k6 GH c0 c1' c2' c3' c4 c5 L2 hl3 p5 LB p1 p3 H1 H2 Q1
   have r0 := M3.ever 0 rfl
   have r1 := M3.ever 1 rfl
   have r2 := M3.ever 2 rfl
   have r3 := M3.ever 3 rfl
   have f0 := M3.free 0
   have f1 := M3.free 1
   have f2 := M3.free 2
   have f3 := M3.free 3
   have m0 := M5.cell 0
   have m1 := M5.cell 1
   have zz := M3.lt
   have zz5 := M5.lt
   have zz6 : w2.heap.size ≤ w3.heap.size := by omega
   have zz7 : w.heap.size + 1 + 1 ≤ w3.heap.size := by omega
   have L3 := (Lat.alloc w3 (.cells #[.bool by', .slice Ay ny cy] 79)).trans (Lat.alloc _ (.cells #[.bool b'', .slice A'' n'' c''] 79))
   go_wp2
   refine bodyPost_ret (v := .agg #[.bool bx, .slice Ax nx cx, .bool by', .slice Ay ny cy]) (by simp [results, Tryz.results85, go_sem, L3, r0, r1, r2, r3]) rfl ?_
   rw [hlw.out.1, hlw.out.2]
   exact RratPost.close (M3.later L3) (QX.out.later L3) (QY.out.later L3) (LC.trans L3) (by omega) (by omega) (by omega)
 | true =>
   have hy := H2.out.neg_of
   have hlw := Lib.hid (hlow.out.2 hy)
   clear hlow
   have HD : Hid (x % -G = 0 ∧ y % -G = 0 ∧ -G ≠ 0) := ⟨hdx.out.2, hdy.out.2, by have := HG.out; omega⟩
   go_wp2_with fail
   refine zas (Q := fun W => Calls _ _ _ W _) ?_
   intro W5 hl5 hs5 k4
   have LB1 := LA.trans hl5
   have I1 := B1.later hl5
   have I2 := B2.later hl5
   have I3 := B3.later hl5
   clear B1 B2 B3 c0 c1' c2' c3' L1 LA
   refine (zgy bg Ag ng cg G W5 (G1.out.later hl5) (by omega)).mono ?_
   rintro e w5 ⟨bh, Ah, nh, ch, rfl, t1, t2, t3⟩
   have J1 := I1.later t3
   have J2 := I2.later t3
   have J3 := I3.later t3
   have J4 := k4.later t3
   have LB2 := LB1.trans t3
   have hap := t1.apart J4 (zbM _ _ _ _)
   have T1 := Lib.hid t1
   have hz1 : w1.heap.size < w5.heap.size := J4.lt
   have hlt1 : w.heap.size + 1 + 1 < w1.heap.size := by omega
   clear I1 I2 I3 k4 LB1 hl5 hs5 t1 t3 G1
   have c0 := J1.cell 0
   have c1' := J1.cell 1
   have c2' := J2.cell 0
   have c3' := J2.cell 1
   have c4 := J4.cell 0
   have c5 := J4.cell 1
   have f4 := J4.frozen 0
   have f5 := J4.frozen 1
   have n1' : w.heap.size ≠ w1.heap.size := by omega
   have n2' : w.heap.size + 1 ≠ w1.heap.size := by omega
   have n3' : w.heap.size + 1 + 1 ≠ w1.heap.size := by omega
   go_wp2_with fail
   refine gen (Q := fun W => Calls _ _ _ W _) _ ?_
   intro W2 hW2
   have k4 : Blk W2 w1.heap.size 79 #[.bool bh, .slice Ah nh ch] := by
    have := (J4.set 0 (.bool bh)).set 1 (.slice Ah nh ch)
    rw [hW2]; simpa using this
   have E1 : Blk W2 w.heap.size 79 #[.bool b1, .slice A1 n1 c1] := by
    rw [hW2]; exact (J1.far (p := ⟨w1.heap.size, 0, none⟩) n1' (.bool bh)).far (p := ⟨w1.heap.size, 1, none⟩) n1' (.slice Ah nh ch)
   have E2 : Blk W2 (w.heap.size + 1) 79 #[.bool true, .slice A2 n2 c2] := by
    rw [hW2]; exact (J2.far (p := ⟨w1.heap.size, 0, none⟩) n2' (.bool bh)).far (p := ⟨w1.heap.size, 1, none⟩) n2' (.slice Ah nh ch)
   have E3 : Blk W2 (w.heap.size + 1 + 1) 99 #[.bool false, .slice none 0 0, .bool false, .slice none 0 0] := by
    rw [hW2]; exact (J3.far (p := ⟨w1.heap.size, 0, none⟩) n3' (.bool bh)).far (p := ⟨w1.heap.size, 1, none⟩) n3' (.slice Ah nh ch)
   have LB0 : Lat w W2 := by
    rw [hW2]; exact (LB2.setCell (p := ⟨w1.heap.size, 0, none⟩) (by simp; omega) (.bool bh)).setCell (p := ⟨w1.heap.size, 1, none⟩) (by simp; omega) (.slice Ah nh ch)
   have GG : Hid (Rg W2 bh Ah nh ch (-G)) := by
    show Rg _ _ _ _ _ _
    rw [hW2]; exact (T1.out.far (p := ⟨w1.heap.size, 0, none⟩) hap _).far (p := ⟨w1.heap.size, 1, none⟩) hap _
   clear hW2 J1 J2 J3 J4 T1 c0 c1' c2' c3' c4 c5 f4 f5 n1' n2' n3' hap LB2
   refine (zcq b1 A1 n1 c1 x bh Ah nh ch (-G) W2 (H1.out.later LB0) GG.out HD.out.2.2 (.inr HD.out.1) hn (by omega)).mono ?_
   rintro e w2 ⟨bx, Ax, nx, cx, b', A', n', c', rfl, q1, q2, q3, q4, q5⟩
   have LB := LB0.trans q5
   have F1 := E1.later q5
   have F2 := E2.later q5
   have F3 := E3.later q5
   have F4 := k4.later q5
   have GH := Lib.hid (GG.out.later q5)
   have Q1 := Lib.hid q1
   clear E1 E2 E3 k4 GG q5 LB0 q1 q3
   have c0 := F1.ever 0 rfl
   have c1' := F1.ever 1 rfl
   have c2' := F2.ever 0 rfl
   have c3' := F2.ever 1 rfl
   have c4 := F4.ever 0 rfl
   have c5 := F4.ever 1 rfl
   have L2 := (Lat.alloc w2 (.cells #[.bool bx, .slice Ax nx cx] 79)).trans (Lat.alloc _ (.cells #[.bool b', .slice A' n' c'] 79))
   go_wp2_with fail
   refine zaK (Q := fun W => Calls _ _ _ W _) ?_
   intro W3 hl3 hs3 k5 k6
   refine (zcq true A2 n2 c2 y bh Ah nh ch (-G) W3 (H2.out.later (LB.trans hl3)) (GH.out.later hl3) HD.out.2.2 (.inr HD.out.2.1) hm (by omega)).mono ?_
   rintro e w3 ⟨by', Ay, ny, cy, b'', A'', n'', c'', rfl, p1, p2, p3, p4, p5⟩
   have LC := (LB.trans hl3).trans p5
   have M3 := (F3.later hl3).later p5
   have M5 := k5.later p5
   have QX := Lib.hid ((Q1.out.later hl3).later p5)
   have QY := Lib.hid p1
   clear F1 F2 F3 F4 k5 k6 GH c0 c1' c2' c3' c4 c5 L2 hl3 p5 LB p1 p3 H1 H2 Q1
   have r0 := M3.ever 0 rfl
   have r1 := M3.ever 1 rfl
   have r2 := M3.ever 2 rfl
   have r3 := M3.ever 3 rfl
   have f0 := M3.free 0
   have f1 := M3.free 1
   have f2 := M3.free 2
   have f3 := M3.free 3
   have m0 := M5.cell 0
   have m1 := M5.cell 1
   have zz := M3.lt
   have zz5 := M5.lt
   have zz6 : w2.heap.size ≤ w3.heap.size := by omega
   have zz7 : w.heap.size + 1 + 1 ≤ w3.heap.size := by omega
   have L3 := (Lat.alloc w3 (.cells #[.bool by', .slice Ay ny cy] 79)).trans (Lat.alloc _ (.cells #[.bool b'', .slice A'' n'' c''] 79))
   go_wp2
   refine bodyPost_ret (v := .agg #[.bool bx, .slice Ax nx cx, .bool by', .slice Ay ny cy]) (by simp [results, Tryz.results85, go_sem, L3, r0, r1, r2, r3]) rfl ?_
   rw [hlw.out.1, hlw.out.2]
   exact RratPost.close (M3.later L3) (QX.out.later L3) (QY.out.later L3) (LC.trans L3) (by omega) (by omega) (by omega)
theorem zgD (b1 : Bool) (A1 : Option Addr) (n1 c1 : Nat) (x : Int) (b2 : Bool) (A2 : Option Addr) (n2 c2 : Nat) (y : Int) (w : World) (h1 : Rg w b1 A1 n1 c1 x) (h2 : Rg w b2 A2 n2 c2 y) (hn : n1 ≤ 1000000) (hm : n2 ≤ 1000000) :
  Calls Tryz.prog 40 #[.agg #[.bool b1, .slice A1 n1 c1, .bool b2, .slice A2 n2 c2]] w (zbX w x y) := by
 have H1 := Lib.hid h1
 have H2 := Lib.hid h2
 clear h1 h2
 go_enter Tryz.func40, Tryz.ntmps40
 go_wp2_with fail
 refine zaK (Q := fun W => Calls _ _ _ W _) ?_
 intro W hl hs k1 k2
 refine (zh2 b1 A1 n1 c1 x W (H1.out.later hl) hn).mono ?_
 rintro e w1 ⟨u, r, rfl, hu, l1⟩
 have B1 := k1.later l1
 have B2 := k2.later l1
 have LA := hl.trans l1
 have HU := Lib.hid hu
 clear k1 k2 hl l1 hu H1
 have d2 := B1.cell 2
 have d3 := B1.cell 3
 have hz := B2.lt
 have hz0 := B1.lt
 go_wp2_with fail
 refine zas (Q := fun W => Calls _ _ _ W _) ?_
 intro W2 hl2 hs2 k3
 have LB := LA.trans hl2
 have E2 := B2.later hl2
 clear B1 B2 LA hl2 d2 d3
 refine (zh2 b2 A2 n2 c2 y W2 (H2.out.later LB) hm).mono ?_
 rintro e w2 ⟨v, r', rfl, hv, l2⟩
 have F2 := E2.later l2
 have F3 := k3.later l2
 have LC := LB.trans l2
 have HV := Lib.hid hv
 clear E2 k3 l2 LB hv H2
 clear hz hz0
 have L3 := Lat.alloc w2 (.cells (W8.one v) 38)
 rcases HU.out with ⟨u0, u1, u2, rfl⟩ | ⟨u0, u2, rfl⟩
 ·rcases HV.out with ⟨v0, v1, v2, rfl⟩ | ⟨v0, v2, rfl⟩
  ·have HI : Hid (ShareIs x y u v 0) := .inl ⟨u0, u1, v0, v1, u2, v2, rfl⟩
   clear u0 u1 u2 v0 v1 v2 HU HV
   have a0 := F3.ever 0 rfl
   have a1 := F3.ever 1 rfl
   have a2 := F3.ever 2 rfl
   have a3 := F3.ever 3 rfl
   have a4 := F3.ever 4 rfl
   have a5 := F3.ever 5 rfl
   have a6 := F3.ever 6 rfl
   have a7 := F3.ever 7 rfl
   have c0 := F2.ever 0 rfl
   have c1 := F2.ever 1 rfl
   have c2 := F2.ever 2 rfl
   have c3 := F2.ever 3 rfl
   have c4 := F2.ever 4 rfl
   have c5 := F2.ever 5 rfl
   have c6 := F2.ever 6 rfl
   have c7 := F2.ever 7 rfl
   have c8 := F2.ever 8 rfl
   have c9 := F2.ever 9 rfl
   have c10 := F2.ever 10 rfl
   have c11 := F2.ever 11 rfl
   have c12 := F2.ever 12 rfl
   have c13 := F2.ever 13 rfl
   have c14 := F2.ever 14 rfl
   have c15 := F2.ever 15 rfl
   have f0 := F2.free 0
   have f1 := F2.free 1
   have f2 := F2.free 2
   have f3 := F2.free 3
   have f4 := F2.free 4
   have f5 := F2.free 5
   have f6 := F2.free 6
   have f7 := F2.free 7
   have f8 := F2.free 8
   have f9 := F2.free 9
   have f10 := F2.free 10
   have f11 := F2.free 11
   have f12 := F2.free 12
   have f13 := F2.free 13
   have f14 := F2.free 14
   have f15 := F2.free 15
   go_wp2
   refine bodyPost_ret (v := .tuple #[.agg (W8.two u v), .int .i64 0]) (by simp [results, Tryz.results40, go_sem, L3, c0, c1, c2, c3, c4, c5, c6, c7, c8, c9, c10, c11, c12, c13, c14, c15]) rfl ?_
   refine ⟨u, v, 0, rfl, HI.out, ?_⟩
   iterate 16 (refine Lat.setCell ?_ (by simp; try omega) _)
   exact LC.trans L3
  ·have HI : Hid (ShareIs x y W8.zero W8.zero 6) := .inr ⟨by omega, rfl, rfl, rfl⟩
   clear u0 u1 u2 v0 v2 HU HV
   have c0 := F2.ever 0 rfl
   have c1 := F2.ever 1 rfl
   have c2 := F2.ever 2 rfl
   have c3 := F2.ever 3 rfl
   have c4 := F2.ever 4 rfl
   have c5 := F2.ever 5 rfl
   have c6 := F2.ever 6 rfl
   have c7 := F2.ever 7 rfl
   have c8 := F2.ever 8 rfl
   have c9 := F2.ever 9 rfl
   have c10 := F2.ever 10 rfl
   have c11 := F2.ever 11 rfl
   have c12 := F2.ever 12 rfl
   have c13 := F2.ever 13 rfl
   have c14 := F2.ever 14 rfl
   have c15 := F2.ever 15 rfl
   have f0 := F2.free 0
   have f1 := F2.free 1
   have f2 := F2.free 2
   have f3 := F2.free 3
   have f4 := F2.free 4
   have f5 := F2.free 5
   have f6 := F2.free 6
   have f7 := F2.free 7
   have f8 := F2.free 8
   have f9 := F2.free 9
   have f10 := F2.free 10
   have f11 := F2.free 11
   have f12 := F2.free 12
   have f13 := F2.free 13
   have f14 := F2.free 14
   have f15 := F2.free 15
   go_wp2
   refine bodyPost_ret (v := .tuple #[.agg (W8.two W8.zero W8.zero), .int .i64 6]) (by simp [results, Tryz.results40, go_sem, L3, W8.zero, c0, c1, c2, c3, c4, c5, c6, c7, c8, c9, c10, c11, c12, c13, c14, c15]) rfl ?_
   refine ⟨W8.zero, W8.zero, 6, rfl, HI.out, ?_⟩
   iterate 16 (refine Lat.setCell ?_ (by simp; try omega) _)
   exact LC.trans L3
 ·have HI : Hid (ShareIs x y W8.zero W8.zero 6) := .inr ⟨by omega, rfl, rfl, rfl⟩
  clear u0 u2 HU
  have hr' : r' = 0 ∨ r' = 6 := by
   rcases HV.out with ⟨_, _, _, h⟩ | ⟨_, _, h⟩
   ·exact .inl h
   ·exact .inr h
  clear HV
  have c0 := F2.ever 0 rfl
  have c1 := F2.ever 1 rfl
  have c2 := F2.ever 2 rfl
  have c3 := F2.ever 3 rfl
  have c4 := F2.ever 4 rfl
  have c5 := F2.ever 5 rfl
  have c6 := F2.ever 6 rfl
  have c7 := F2.ever 7 rfl
  have c8 := F2.ever 8 rfl
  have c9 := F2.ever 9 rfl
  have c10 := F2.ever 10 rfl
  have c11 := F2.ever 11 rfl
  have c12 := F2.ever 12 rfl
  have c13 := F2.ever 13 rfl
  have c14 := F2.ever 14 rfl
  have c15 := F2.ever 15 rfl
  have f0 := F2.free 0
  have f1 := F2.free 1
  have f2 := F2.free 2
  have f3 := F2.free 3
  have f4 := F2.free 4
  have f5 := F2.free 5
  have f6 := F2.free 6
  have f7 := F2.free 7
  have f8 := F2.free 8
  have f9 := F2.free 9
  have f10 := F2.free 10
  have f11 := F2.free 11
  have f12 := F2.free 12
  have f13 := F2.free 13
  have f14 := F2.free 14
  have f15 := F2.free 15
  rcases hr' with rfl | rfl
  all_goals
   go_wp2
   refine bodyPost_ret (v := .tuple #[.agg (W8.two W8.zero W8.zero), .int .i64 6]) (by simp [results, Tryz.results40, go_sem, L3, W8.zero, c0, c1, c2, c3, c4, c5, c6, c7, c8, c9, c10, c11, c12, c13, c14, c15]) rfl ?_
   refine ⟨W8.zero, W8.zero, 6, rfl, HI.out, ?_⟩
   iterate 16 (refine Lat.setCell ?_ (by simp; try omega) _)
   exact LC.trans L3
attribute [local go_sem ↓] Go.wp_at_zero Go.wp_at_succ
end Go.Proofs.YtpmbglhbcjbkcaaGreat
