/- Several texts in one: GivB. -/
import Derived.Test.YtebbhhdnjflmcaaGreatJ39
import Derived.Test.YtebbhhdnjflmcaaGreatJ26

/- The reference of the divisors: Rank. -/
namespace Go.Proofs.YtebbhhdnjflmcaaGreat
open Go.RowKit

/-- A share's cells, under a name, with its value. -/
def ShC (X : Array Value) (N D : Int) : Prop := ∃ u v : W8, X = #[.int .u64 u.a0, .int .u64 u.a1, .int .u64 u.a2, .int .u64 u.a3, .int .u64 u.a4, .int .u64 u.a5, .int .u64 u.a6, .int .u64 u.a7, .int .u64 v.a0, .int .u64 v.a1, .int .u64 v.a2, .int .u64 v.a3, .int .u64 v.a4, .int .u64 v.a5, .int .u64 v.a6, .int .u64 v.a7] ∧ ShV u v N D

set_option maxRecDepth 100000 in
set_option maxHeartbeats 4000000 in
theorem rRank_hill (p s : Int) (w : World) (N D : Int) (p0 : 0 ≤ p) (p1 : p ≤ 1000000000) (HZ : Hid (decide (s = 0 ∧ (13 : Int) ≤ 13) = false))
    (HP : ∀ w, Calls Tryz.prog 11 #[.int .i64 13, .int .i64 s] w (ShX w N D))
    (HO : ∀ w, Calls Tryz.prog 38 #[.int .i64 (p * p), .int .i64 1] w (ShX w (p * p) 1))
    (HD : ∀ (X Y : Array Value) (w : World), Hid (ShC X (p * p) 1) → Hid (ShC Y N D) → Calls Tryz.prog 42 #[.agg X, .agg Y] w (ShX w (p * p * D) N)) :
    Calls Tryz.prog 13 #[.int .i64 13, .int .i64 p, .int .i64 s] w (ShPost w (p * p * D) N) := by
  have hp := Int.mul_le_mul_of_nonneg_left p1 p0
  have hq := Int.mul_nonneg p0 p0
  have e : IntKind.i64.wrap (p * p) = p * p := IntWalk.i64_in _ (by omega)
  have e' : wrap64 (p * p) = p * p := IntWalk.wrap64_in _ (by omega)
  clear hp hq
  have Hi16 := Lib.hid shareInfo'
  go_enter Tryz.func13, Tryz.ntmps13
  go_wp2_with fail
  refine name1 (Q := fun W => Calls _ _ _ W _) ?_
  intro W hl hs k1
  refine (HP W).mono ?_
  rintro e w2 ⟨Y, rfl, y1, y2, y3, l2⟩
  have L2 := hl.trans l2
  have K2 := k1.later l2
  have hlt2 := K2.lt
  have Y1 := Lib.hid y1
  have Y2 := Lib.hid y2
  have iY : Hid ((Tryz.prog.info? 32).map (·.size) = some Y.size) := by show _ = _; rw [y1]; exact Hi16.out
  have K0 := Blk.new w2 32 #[.int .u64 W8.zero.a0, .int .u64 W8.zero.a1, .int .u64 W8.zero.a2, .int .u64 W8.zero.a3, .int .u64 W8.zero.a4, .int .u64 W8.zero.a5, .int .u64 W8.zero.a6, .int .u64 W8.zero.a7, .int .u64 W8.zero.a0, .int .u64 W8.zero.a1, .int .u64 W8.zero.a2, .int .u64 W8.zero.a3, .int .u64 W8.zero.a4, .int .u64 W8.zero.a5, .int .u64 W8.zero.a6, .int .u64 W8.zero.a7]
  clear y1 y2 k1 hl l2 HP
  go_wp2_with (refine wpList_put rfl 32 (.tmp 8) (.tmp 16) (by rfl) (by rfl) w2.heap.size (by rfl) Y (by rfl) K0 (by rw [Y1.out]; rfl) iY.out Y2.out ?_; intro w3 hput; have KY := hput.blk; have L3 := hput.lat w (L2.trans (Lat.alloc _ _)) (by have := L2.size; omega); have K3 := hput.keep (K2.alloc _) (by omega))
  clear hput K0 K2 L2
  refine (rZero7_any (13 : Int) s w3).mono ?_
  rintro e w4 ⟨rfl, rfl⟩
  rw [HZ.out]
  go_wp2_with fail
  refine (HO w3).mono ?_
  rintro e w5 ⟨X, rfl, x1, x2, x3, l5⟩
  have L5 := L3.trans l5
  have K5 := K3.later l5
  have KY5 := KY.later l5
  have hlt5 := K5.lt
  have hlt6 := KY5.lt
  have X1 := Lib.hid x1
  have X2 := Lib.hid x2
  have iX : Hid ((Tryz.prog.info? 32).map (·.size) = some X.size) := by show _ = _; rw [x1]; exact Hi16.out
  have K0 := Blk.new w5 32 #[.int .u64 W8.zero.a0, .int .u64 W8.zero.a1, .int .u64 W8.zero.a2, .int .u64 W8.zero.a3, .int .u64 W8.zero.a4, .int .u64 W8.zero.a5, .int .u64 W8.zero.a6, .int .u64 W8.zero.a7, .int .u64 W8.zero.a0, .int .u64 W8.zero.a1, .int .u64 W8.zero.a2, .int .u64 W8.zero.a3, .int .u64 W8.zero.a4, .int .u64 W8.zero.a5, .int .u64 W8.zero.a6, .int .u64 W8.zero.a7]
  have HD1 := fun w => HD X Y w x3 y3
  clear x1 x2 x3 y3 l5 HO L3 K3 KY HZ HD
  go_wp2_with (first
    | (refine wpList_put rfl 32 (.tmp 10) (.tmp 41) (by rfl) (by rfl) w5.heap.size (by rfl) X (by rfl) K0 (by rw [X1.out]; rfl) iX.out X2.out ?_; intro w6 hput; have KX := hput.blk; have L6 := hput.lat w (L5.trans (Lat.alloc _ _)) (by have := L5.size; omega); have K6 := hput.keep (K5.alloc _) (by omega); have KY6 := hput.keep (KY5.alloc _) (by omega))
    | (refine wpList_get rfl 32 (.tmp 10) (by rfl) w5.heap.size (by rfl) KX _ Tryz.underlying32 rfl iX.out ?_)
    | (refine wpList_get rfl 32 (.tmp 8) (by rfl) w2.heap.size (by rfl) KY6 _ Tryz.underlying32 rfl iY.out ?_))
  clear hput K0 L5 K5 KY5
  refine (HD1 w6).mono ?_
  rintro e w7 ⟨Z, rfl, z1, z2, z3, l7⟩
  have L7 := L6.trans l7
  have K7 := K6.later l7
  have Z1 := Lib.hid z1
  have Z2 := Lib.hid z2
  have iZ : Hid ((Tryz.prog.info? 32).map (·.size) = some Z.size) := by show _ = _; rw [z1]; exact Hi16.out
  clear z1 z2 l7 HD1 L6 K6
  go_wp2_with (refine wpList_put rfl 32 (.tmp 6) (.tmp 46) (by rfl) (by rfl) w.heap.size (by rfl) Z (by rfl) K7 (by rw [Z1.out]; rfl) iZ.out Z2.out ?_; intro w8 hput8; have KS := hput8.blk; have L8 := hput8.lat w L7 (Nat.le_refl _))
  obtain ⟨u, v, rfl, R⟩ := z3.out
  have e0 := KS.cell 0
  have e1 := KS.cell 1
  have e2 := KS.cell 2
  have e3 := KS.cell 3
  have e4 := KS.cell 4
  have e5 := KS.cell 5
  have e6 := KS.cell 6
  have e7 := KS.cell 7
  have e8 := KS.cell 8
  have e9 := KS.cell 9
  have e10 := KS.cell 10
  have e11 := KS.cell 11
  have e12 := KS.cell 12
  have e13 := KS.cell 13
  have e14 := KS.cell 14
  have e15 := KS.cell 15
  clear hput8 K7 KX KY6
  refine bodyPost_ret (v := .tuple #[.agg #[.int .u64 u.a0, .int .u64 u.a1, .int .u64 u.a2, .int .u64 u.a3, .int .u64 u.a4, .int .u64 u.a5, .int .u64 u.a6, .int .u64 u.a7, .int .u64 v.a0, .int .u64 v.a1, .int .u64 v.a2, .int .u64 v.a3, .int .u64 v.a4, .int .u64 v.a5, .int .u64 v.a6, .int .u64 v.a7], .int .i64 0]) (by simp [results, Tryz.results13, go_sem, e0, e1, e2, e3, e4, e5, e6, e7, e8, e9, e10, e11, e12, e13, e14, e15]) rfl ?_
  exact ⟨u, v, rfl, R, L8⟩

set_option maxRecDepth 100000 in
set_option maxHeartbeats 4000000 in
theorem rRank_plain (m p s : Int) (w : World) (N D : Int) (hm : m ≠ 13) (p0 : 0 ≤ p) (p1 : p ≤ 1000000000) (HZ : Hid (decide (s = 0 ∧ m ≤ 13) = false))
    (HP : ∀ w, Calls Tryz.prog 11 #[.int .i64 m, .int .i64 s] w (ShX w N D))
    (HO : ∀ w, Calls Tryz.prog 38 #[.int .i64 (p), .int .i64 1] w (ShX w (p) 1))
    (HD : ∀ (X Y : Array Value) (w : World), Hid (ShC X (p) 1) → Hid (ShC Y N D) → Calls Tryz.prog 42 #[.agg X, .agg Y] w (ShX w (p * D) N)) :
    Calls Tryz.prog 13 #[.int .i64 m, .int .i64 p, .int .i64 s] w (ShPost w (p * D) N) := by
  have Hi16 := Lib.hid shareInfo'
  go_enter Tryz.func13, Tryz.ntmps13
  go_wp2_with fail
  refine name1 (Q := fun W => Calls _ _ _ W _) ?_
  intro W hl hs k1
  refine (HP W).mono ?_
  rintro e w2 ⟨Y, rfl, y1, y2, y3, l2⟩
  have L2 := hl.trans l2
  have K2 := k1.later l2
  have hlt2 := K2.lt
  have Y1 := Lib.hid y1
  have Y2 := Lib.hid y2
  have iY : Hid ((Tryz.prog.info? 32).map (·.size) = some Y.size) := by show _ = _; rw [y1]; exact Hi16.out
  have K0 := Blk.new w2 32 #[.int .u64 W8.zero.a0, .int .u64 W8.zero.a1, .int .u64 W8.zero.a2, .int .u64 W8.zero.a3, .int .u64 W8.zero.a4, .int .u64 W8.zero.a5, .int .u64 W8.zero.a6, .int .u64 W8.zero.a7, .int .u64 W8.zero.a0, .int .u64 W8.zero.a1, .int .u64 W8.zero.a2, .int .u64 W8.zero.a3, .int .u64 W8.zero.a4, .int .u64 W8.zero.a5, .int .u64 W8.zero.a6, .int .u64 W8.zero.a7]
  clear y1 y2 k1 hl l2 HP
  go_wp2_with (refine wpList_put rfl 32 (.tmp 8) (.tmp 16) (by rfl) (by rfl) w2.heap.size (by rfl) Y (by rfl) K0 (by rw [Y1.out]; rfl) iY.out Y2.out ?_; intro w3 hput; have KY := hput.blk; have L3 := hput.lat w (L2.trans (Lat.alloc _ _)) (by have := L2.size; omega); have K3 := hput.keep (K2.alloc _) (by omega))
  clear hput K0 K2 L2
  refine (rZero7_any m s w3).mono ?_
  rintro e w4 ⟨rfl, rfl⟩
  rw [HZ.out]
  go_wp2_with fail
  refine (HO w3).mono ?_
  rintro e w5 ⟨X, rfl, x1, x2, x3, l5⟩
  have L5 := L3.trans l5
  have K5 := K3.later l5
  have KY5 := KY.later l5
  have hlt5 := K5.lt
  have hlt6 := KY5.lt
  have X1 := Lib.hid x1
  have X2 := Lib.hid x2
  have iX : Hid ((Tryz.prog.info? 32).map (·.size) = some X.size) := by show _ = _; rw [x1]; exact Hi16.out
  have K0 := Blk.new w5 32 #[.int .u64 W8.zero.a0, .int .u64 W8.zero.a1, .int .u64 W8.zero.a2, .int .u64 W8.zero.a3, .int .u64 W8.zero.a4, .int .u64 W8.zero.a5, .int .u64 W8.zero.a6, .int .u64 W8.zero.a7, .int .u64 W8.zero.a0, .int .u64 W8.zero.a1, .int .u64 W8.zero.a2, .int .u64 W8.zero.a3, .int .u64 W8.zero.a4, .int .u64 W8.zero.a5, .int .u64 W8.zero.a6, .int .u64 W8.zero.a7]
  have HD1 := fun w => HD X Y w x3 y3
  clear x1 x2 x3 y3 l5 HO L3 K3 KY HZ HD
  go_wp2_with (first
    | (refine wpList_put rfl 32 (.tmp 10) (.tmp 41) (by rfl) (by rfl) w5.heap.size (by rfl) X (by rfl) K0 (by rw [X1.out]; rfl) iX.out X2.out ?_; intro w6 hput; have KX := hput.blk; have L6 := hput.lat w (L5.trans (Lat.alloc _ _)) (by have := L5.size; omega); have K6 := hput.keep (K5.alloc _) (by omega); have KY6 := hput.keep (KY5.alloc _) (by omega))
    | (refine wpList_get rfl 32 (.tmp 10) (by rfl) w5.heap.size (by rfl) KX _ Tryz.underlying32 rfl iX.out ?_)
    | (refine wpList_get rfl 32 (.tmp 8) (by rfl) w2.heap.size (by rfl) KY6 _ Tryz.underlying32 rfl iY.out ?_))
  clear hput K0 L5 K5 KY5
  refine (HD1 w6).mono ?_
  rintro e w7 ⟨Z, rfl, z1, z2, z3, l7⟩
  have L7 := L6.trans l7
  have K7 := K6.later l7
  have Z1 := Lib.hid z1
  have Z2 := Lib.hid z2
  have iZ : Hid ((Tryz.prog.info? 32).map (·.size) = some Z.size) := by show _ = _; rw [z1]; exact Hi16.out
  clear z1 z2 l7 HD1 L6 K6
  go_wp2_with (refine wpList_put rfl 32 (.tmp 6) (.tmp 46) (by rfl) (by rfl) w.heap.size (by rfl) Z (by rfl) K7 (by rw [Z1.out]; rfl) iZ.out Z2.out ?_; intro w8 hput8; have KS := hput8.blk; have L8 := hput8.lat w L7 (Nat.le_refl _))
  obtain ⟨u, v, rfl, R⟩ := z3.out
  have e0 := KS.cell 0
  have e1 := KS.cell 1
  have e2 := KS.cell 2
  have e3 := KS.cell 3
  have e4 := KS.cell 4
  have e5 := KS.cell 5
  have e6 := KS.cell 6
  have e7 := KS.cell 7
  have e8 := KS.cell 8
  have e9 := KS.cell 9
  have e10 := KS.cell 10
  have e11 := KS.cell 11
  have e12 := KS.cell 12
  have e13 := KS.cell 13
  have e14 := KS.cell 14
  have e15 := KS.cell 15
  clear hput8 K7 KX KY6
  refine bodyPost_ret (v := .tuple #[.agg #[.int .u64 u.a0, .int .u64 u.a1, .int .u64 u.a2, .int .u64 u.a3, .int .u64 u.a4, .int .u64 u.a5, .int .u64 u.a6, .int .u64 u.a7, .int .u64 v.a0, .int .u64 v.a1, .int .u64 v.a2, .int .u64 v.a3, .int .u64 v.a4, .int .u64 v.a5, .int .u64 v.a6, .int .u64 v.a7], .int .i64 0]) (by simp [results, Tryz.results13, go_sem, e0, e1, e2, e3, e4, e5, e6, e7, e8, e9, e10, e11, e12, e13, e14, e15]) rfl ?_
  exact ⟨u, v, rfl, R, L8⟩
end Go.Proofs.YtebbhhdnjflmcaaGreat
