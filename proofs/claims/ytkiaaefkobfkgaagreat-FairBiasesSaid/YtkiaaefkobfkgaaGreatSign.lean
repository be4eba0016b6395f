/- The sign of a share. -/
import Derived.Test.YtkiaaefkobfkgaaGreatJ14
namespace Go.Proofs.YtkiaaefkobfkgaaGreat
open Go.RowKit

set_option maxRecDepth 100000 in
set_option maxHeartbeats 4000000 in
theorem sign1_any (b1 : Bool) (A1 : Option Addr) (n1 c1 : Nat) (x1 : Int) (b2 : Bool) (A2 : Option Addr) (n2 c2 : Nat) (V : Value) (w : World) (h1 : Lg w b1 A1 n1 c1 x1) (g1 : n1 ≤ 10000) (b3 : Bool) (A3 : Option Addr) (n3 c3 : Nat) (b4 : Bool) (A4 : Option Addr) (n4 c4 : Nat) (hV : V = .agg #[.bool b3, .slice A3 n3 c3, .bool b4, .slice A4 n4 c4]) :
    Calls Tryz.prog 63 #[.agg #[.bool b1, .slice A1 n1 c1, .bool b2, .slice A2 n2 c2], V] w (fun e w' => e = .returned (.int .i64 (sideOf x1)) ∧ Lat w w') := by
  subst hV
  have H1 := Lib.hid h1
  obtain ⟨s, hs'⟩ : ∃ s, sideOf x1 = s := ⟨_, rfl⟩
  have HS : ∀ w1, Lat w w1 → Calls Tryz.prog 64 #[.agg #[.bool b1, .slice A1 n1 c1]] w1 (fun e w' => e = .returned (.int .i64 s) ∧ Lat w1 w') := fun w1 h => by rw [← hs']; exact side_any b1 A1 n1 c1 x1 w1 (H1.out.later h) (by omega)
  rw [hs']
  clear h1 hs'
  go_enter Tryz.func63, Tryz.ntmps63
  go_wp2_with fail
  refine name2 (Q := fun W => Calls _ _ _ W _) ?_
  intro W hl hs k1 k2
  refine (HS W hl).mono ?_
  rintro e w1 ⟨rfl, l1⟩
  go_wp2
  go_ret
  exact ⟨rfl, hl.trans l1⟩

set_option maxRecDepth 100000 in
set_option maxHeartbeats 4000000 in
theorem shTwoS_ok (u1 v1 u2 v2 : W8) (hu1 : u1.ok) (hv1 : v1.ok) (hu2 : u2.ok) (hv2 : v2.ok) (ok1 : ShOk u1.toInt v1.toInt) (ok2 : ShOk u2.toInt v2.toInt) (w : World) :
    Calls Tryz.prog 62 #[.agg #[.int .u64 u1.a0, .int .u64 u1.a1, .int .u64 u1.a2, .int .u64 u1.a3, .int .u64 u1.a4, .int .u64 u1.a5, .int .u64 u1.a6, .int .u64 u1.a7, .int .u64 v1.a0, .int .u64 v1.a1, .int .u64 v1.a2, .int .u64 v1.a3, .int .u64 v1.a4, .int .u64 v1.a5, .int .u64 v1.a6, .int .u64 v1.a7], .agg #[.int .u64 u2.a0, .int .u64 u2.a1, .int .u64 u2.a2, .int .u64 u2.a3, .int .u64 u2.a4, .int .u64 u2.a5, .int .u64 u2.a6, .int .u64 u2.a7, .int .u64 v2.a0, .int .u64 v2.a1, .int .u64 v2.a2, .int .u64 v2.a3, .int .u64 v2.a4, .int .u64 v2.a5, .int .u64 v2.a6, .int .u64 v2.a7], .func (.func 63) #[] #[]] w
      (fun e w' => e = .returned (.tuple #[.int .i64 (sideOf u1.toInt), .int .i64 0]) ∧ Lat w w') := by
  have HV := shValid_two u1 v1 u2 v2 hu1 hv1 hu2 hv2 ok1 ok2
  have HR1 := ratRead_any u1 v1 hu1 hv1
  have HR2 := ratRead_any u2 v2 hu2 hv2
  clear hu1 hv1 hu2 hv2 ok1 ok2
  go_enter Tryz.func62, Tryz.ntmps62
  go_wp2_with fail
  refine name3 (Q := fun W => Calls _ _ _ W _) ?_
  intro W hl hs k1 k2 k4
  refine (HV W _ _ _ k4).mono ?_
  rintro e w1 ⟨rfl, h1⟩
  have LA := hl.trans h1
  have E1 : Blk w1 w.heap.size 35 #[.int .u64 u1.a0, .int .u64 u1.a1, .int .u64 u1.a2, .int .u64 u1.a3, .int .u64 u1.a4, .int .u64 u1.a5, .int .u64 u1.a6, .int .u64 u1.a7, .int .u64 v1.a0, .int .u64 v1.a1, .int .u64 v1.a2, .int .u64 v1.a3, .int .u64 v1.a4, .int .u64 v1.a5, .int .u64 v1.a6, .int .u64 v1.a7] := k1.later h1
  have E2 : Blk w1 (w.heap.size + 1) 35 #[.int .u64 u2.a0, .int .u64 u2.a1, .int .u64 u2.a2, .int .u64 u2.a3, .int .u64 u2.a4, .int .u64 u2.a5, .int .u64 u2.a6, .int .u64 u2.a7, .int .u64 v2.a0, .int .u64 v2.a1, .int .u64 v2.a2, .int .u64 v2.a3, .int .u64 v2.a4, .int .u64 v2.a5, .int .u64 v2.a6, .int .u64 v2.a7] := k2.later h1
  clear k1 k2 k4 HV
  have hne1 : w.heap.size ∉ ([] : List Nat) := by simp
  have hne2 : w.heap.size + 1 ∉ ([] : List Nat) := by simp
  have a0 := E1.evS hne1 0 rfl
  have a1 := E1.evS hne1 1 rfl
  have a2 := E1.evS hne1 2 rfl
  have a3 := E1.evS hne1 3 rfl
  have a4 := E1.evS hne1 4 rfl
  have a5 := E1.evS hne1 5 rfl
  have a6 := E1.evS hne1 6 rfl
  have a7 := E1.evS hne1 7 rfl
  have a8 := E1.evS hne1 8 rfl
  have a9 := E1.evS hne1 9 rfl
  have a10 := E1.evS hne1 10 rfl
  have a11 := E1.evS hne1 11 rfl
  have a12 := E1.evS hne1 12 rfl
  have a13 := E1.evS hne1 13 rfl
  have a14 := E1.evS hne1 14 rfl
  have a15 := E1.evS hne1 15 rfl
  have d0 := E2.evS hne2 0 rfl
  have d1 := E2.evS hne2 1 rfl
  have d2 := E2.evS hne2 2 rfl
  have d3 := E2.evS hne2 3 rfl
  have d4 := E2.evS hne2 4 rfl
  have d5 := E2.evS hne2 5 rfl
  have d6 := E2.evS hne2 6 rfl
  have d7 := E2.evS hne2 7 rfl
  have d8 := E2.evS hne2 8 rfl
  have d9 := E2.evS hne2 9 rfl
  have d10 := E2.evS hne2 10 rfl
  have d11 := E2.evS hne2 11 rfl
  have d12 := E2.evS hne2 12 rfl
  have d13 := E2.evS hne2 13 rfl
  have d14 := E2.evS hne2 14 rfl
  have d15 := E2.evS hne2 15 rfl
  clear E1 E2
  go_wp2
  have L0 := Lat.drew w1
  have M0 := L0.s ([] : List Nat)
  go_region_held3 (fun w' => LatS w1 ([] : List Nat) w') (first | assumption | ((repeat refine LatS.set ?_ (by simp) _); assumption))
    (first
      | (have _h := HR1; go_at_call 122; (with_reducible refine (HR1 _).mono ?_); rintro e w2 ⟨b1, A1, n1, c1, b2, A2, n2, c2, rfl, q1, q2, q3, q4, q5⟩; have L2 := L0.trans q5; have M2 := L2.s ([] : List Nat); clear HR1 _h)
      | (have _h := HR2; go_at_call 122; (with_reducible refine (HR2 _).mono ?_); rintro e w3 ⟨b3, A3, n3, c3, b4, A4, n4, c4, rfl, r1, r2, r3, r4, r5⟩; have L3 := L2.trans r5; have M3 := L3.s ([] : List Nat); clear HR2 _h)
      | (go_at_call 63; refine (sign1_any b1 A1 n1 c1 _ b2 A2 n2 c2 _ _ (q1.later r5) (by omega) b3 A3 n3 c3 b4 A4 n4 c4 rfl).mono ?_; rintro e w4 ⟨rfl, s5⟩; have L4 := L3.trans s5; have M4 := L4.s ([] : List Nat)))
  go_wp2
  go_ret2
  exact ⟨rfl, LA.trans L4⟩

set_option maxRecDepth 100000 in
set_option maxHeartbeats 4000000 in
theorem shSign_ok (u1 v1 : W8) (hu1 : u1.ok) (hv1 : v1.ok) (ok1 : ShOk u1.toInt v1.toInt) (w : World) :
    Calls Tryz.prog 20 #[.agg #[.int .u64 u1.a0, .int .u64 u1.a1, .int .u64 u1.a2, .int .u64 u1.a3, .int .u64 u1.a4, .int .u64 u1.a5, .int .u64 u1.a6, .int .u64 u1.a7, .int .u64 v1.a0, .int .u64 v1.a1, .int .u64 v1.a2, .int .u64 v1.a3, .int .u64 v1.a4, .int .u64 v1.a5, .int .u64 v1.a6, .int .u64 v1.a7]] w (fun e w' => e = .returned (.tuple #[.int .i64 (sideOf u1.toInt), .int .i64 0]) ∧ Lat w w') := by
  have H := shTwoS_ok u1 v1 u1 v1 hu1 hv1 hu1 hv1 ok1 ok1
  obtain ⟨s, hs⟩ : ∃ s, sideOf u1.toInt = s := ⟨_, rfl⟩
  rw [hs] at H ⊢
  clear hu1 hv1 ok1 hs
  go_enter Tryz.func20, Tryz.ntmps20
  go_wp2_with fail
  refine name1 (Q := fun W => Calls _ _ _ W _) ?_
  intro W hl hs k1
  refine (H W).mono ?_
  rintro e w1 ⟨rfl, h1⟩
  go_wp2
  go_ret2
  exact ⟨rfl, hl.trans h1⟩
end Go.Proofs.YtkiaaefkobfkgaaGreat
