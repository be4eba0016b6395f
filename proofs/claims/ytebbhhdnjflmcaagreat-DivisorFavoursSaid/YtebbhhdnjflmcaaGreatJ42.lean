/- Several texts in one: GivC. -/
import Derived.Test.YtebbhhdnjflmcaaGreatJ39

/- The reference of the divisors: Post and Rank where they answer no. -/
namespace Go.Proofs.YtebbhhdnjflmcaaGreat
open Go.RowKit

theorem zeroAll : (#[.int .u64 W8.zero.a0, .int .u64 W8.zero.a1, .int .u64 W8.zero.a2, .int .u64 W8.zero.a3, .int .u64 W8.zero.a4, .int .u64 W8.zero.a5, .int .u64 W8.zero.a6, .int .u64 W8.zero.a7, .int .u64 W8.zero.a0, .int .u64 W8.zero.a1, .int .u64 W8.zero.a2, .int .u64 W8.zero.a3, .int .u64 W8.zero.a4, .int .u64 W8.zero.a5, .int .u64 W8.zero.a6, .int .u64 W8.zero.a7] : Array Value).all (·.oneCell') = true := by simp [Value.oneCell']

set_option maxRecDepth 100000 in
set_option maxHeartbeats 4000000 in
theorem rPost_no (m s : Int) (w : World) (h : ¬ (11 ≤ m ∧ m ≤ 15 ∧ 0 ≤ s ∧ s ≤ 1000)) :
    Calls Tryz.prog 11 #[.int .i64 m, .int .i64 s] w (ShNo w 2) := by
  have Hi16 := Lib.hid shareInfo'
  have Z0 := Lib.hid zeroAll
  go_enter Tryz.func11, Tryz.ntmps11
  go_wp2_with fail
  refine name1 (Q := fun W => Calls _ _ _ W _) ?_
  intro W hl hs k1
  refine (rKnown_any m W).mono ?_
  rintro e w1 ⟨rfl, rfl⟩
  by_cases hk : 11 ≤ m ∧ m ≤ 15
  · rw [decide_eq_true hk]
    rcases Int.lt_or_le s 0 with h0 | h0
    all_goals try have h1 : 1000 < s := by omega
    all_goals
      go_wp2_with (refine wpList_put rfl 32 (.tmp 4) (.tmp 17) (by rfl) (by rfl) w.heap.size (by rfl) #[.int .u64 W8.zero.a0, .int .u64 W8.zero.a1, .int .u64 W8.zero.a2, .int .u64 W8.zero.a3, .int .u64 W8.zero.a4, .int .u64 W8.zero.a5, .int .u64 W8.zero.a6, .int .u64 W8.zero.a7, .int .u64 W8.zero.a0, .int .u64 W8.zero.a1, .int .u64 W8.zero.a2, .int .u64 W8.zero.a3, .int .u64 W8.zero.a4, .int .u64 W8.zero.a5, .int .u64 W8.zero.a6, .int .u64 W8.zero.a7] (by rfl) k1 (by rfl) Hi16.out Z0.out ?_; intro w6 hput6; have KS := hput6.blk; have L6 := hput6.lat w hl (Nat.le_refl _))
      have e0 := KS.cell 0
      have e1 := KS.cell 1
      have e2 := KS.cell 2
      have e3 := KS.cell 3
      have e4 := KS.cell 4
      have e5 := KS.cell 5
      have e6 := KS.cell 6
      have e7 := KS.cell 7
      have e8 := KS.cell 8
      have e9 := KS.cell 9
      have e10 := KS.cell 10
      have e11 := KS.cell 11
      have e12 := KS.cell 12
      have e13 := KS.cell 13
      have e14 := KS.cell 14
      have e15 := KS.cell 15
      clear hput6 k1
      refine bodyPost_ret (v := .tuple #[.agg #[.int .u64 W8.zero.a0, .int .u64 W8.zero.a1, .int .u64 W8.zero.a2, .int .u64 W8.zero.a3, .int .u64 W8.zero.a4, .int .u64 W8.zero.a5, .int .u64 W8.zero.a6, .int .u64 W8.zero.a7, .int .u64 W8.zero.a0, .int .u64 W8.zero.a1, .int .u64 W8.zero.a2, .int .u64 W8.zero.a3, .int .u64 W8.zero.a4, .int .u64 W8.zero.a5, .int .u64 W8.zero.a6, .int .u64 W8.zero.a7], .int .i64 2]) (by simp [results, Tryz.results11, go_sem, e0, e1, e2, e3, e4, e5, e6, e7, e8, e9, e10, e11, e12, e13, e14, e15]) rfl ?_
      exact ⟨rfl, L6⟩
  · rw [decide_eq_false hk]
    go_wp2_with (refine wpList_put rfl 32 (.tmp 4) (.tmp 17) (by rfl) (by rfl) w.heap.size (by rfl) #[.int .u64 W8.zero.a0, .int .u64 W8.zero.a1, .int .u64 W8.zero.a2, .int .u64 W8.zero.a3, .int .u64 W8.zero.a4, .int .u64 W8.zero.a5, .int .u64 W8.zero.a6, .int .u64 W8.zero.a7, .int .u64 W8.zero.a0, .int .u64 W8.zero.a1, .int .u64 W8.zero.a2, .int .u64 W8.zero.a3, .int .u64 W8.zero.a4, .int .u64 W8.zero.a5, .int .u64 W8.zero.a6, .int .u64 W8.zero.a7] (by rfl) k1 (by rfl) Hi16.out Z0.out ?_; intro w6 hput6; have KS := hput6.blk; have L6 := hput6.lat w hl (Nat.le_refl _))
    have e0 := KS.cell 0
    have e1 := KS.cell 1
    have e2 := KS.cell 2
    have e3 := KS.cell 3
    have e4 := KS.cell 4
    have e5 := KS.cell 5
    have e6 := KS.cell 6
    have e7 := KS.cell 7
    have e8 := KS.cell 8
    have e9 := KS.cell 9
    have e10 := KS.cell 10
    have e11 := KS.cell 11
    have e12 := KS.cell 12
    have e13 := KS.cell 13
    have e14 := KS.cell 14
    have e15 := KS.cell 15
    clear hput6 k1
    refine bodyPost_ret (v := .tuple #[.agg #[.int .u64 W8.zero.a0, .int .u64 W8.zero.a1, .int .u64 W8.zero.a2, .int .u64 W8.zero.a3, .int .u64 W8.zero.a4, .int .u64 W8.zero.a5, .int .u64 W8.zero.a6, .int .u64 W8.zero.a7, .int .u64 W8.zero.a0, .int .u64 W8.zero.a1, .int .u64 W8.zero.a2, .int .u64 W8.zero.a3, .int .u64 W8.zero.a4, .int .u64 W8.zero.a5, .int .u64 W8.zero.a6, .int .u64 W8.zero.a7], .int .i64 2]) (by simp [results, Tryz.results11, go_sem, e0, e1, e2, e3, e4, e5, e6, e7, e8, e9, e10, e11, e12, e13, e14, e15]) rfl ?_
    exact ⟨rfl, L6⟩

set_option maxRecDepth 100000 in
set_option maxHeartbeats 4000000 in
theorem rRank_no (m p s : Int) (w : World) (h : ¬ (11 ≤ m ∧ m ≤ 15 ∧ 0 ≤ s ∧ s ≤ 1000)) :
    Calls Tryz.prog 13 #[.int .i64 m, .int .i64 p, .int .i64 s] w (ShNo w 2) := by
  have HP := fun w => rPost_no m s w h
  have Hi16 := Lib.hid shareInfo'
  have Z0 := Lib.hid zeroAll
  go_enter Tryz.func13, Tryz.ntmps13
  go_wp2_with fail
  refine name1 (Q := fun W => Calls _ _ _ W _) ?_
  intro W hl hs k1
  refine (HP W).mono ?_
  rintro e w2 ⟨rfl, l2⟩
  have L2 := hl.trans l2
  have K2 := k1.later l2
  have hlt2 := K2.lt
  have K0 := Blk.new w2 32 #[.int .u64 W8.zero.a0, .int .u64 W8.zero.a1, .int .u64 W8.zero.a2, .int .u64 W8.zero.a3, .int .u64 W8.zero.a4, .int .u64 W8.zero.a5, .int .u64 W8.zero.a6, .int .u64 W8.zero.a7, .int .u64 W8.zero.a0, .int .u64 W8.zero.a1, .int .u64 W8.zero.a2, .int .u64 W8.zero.a3, .int .u64 W8.zero.a4, .int .u64 W8.zero.a5, .int .u64 W8.zero.a6, .int .u64 W8.zero.a7]
  clear k1 hl l2 HP
  go_wp2_with (first
    | (refine wpList_put rfl 32 (.tmp 8) (.tmp 16) (by rfl) (by rfl) w2.heap.size (by rfl) #[.int .u64 W8.zero.a0, .int .u64 W8.zero.a1, .int .u64 W8.zero.a2, .int .u64 W8.zero.a3, .int .u64 W8.zero.a4, .int .u64 W8.zero.a5, .int .u64 W8.zero.a6, .int .u64 W8.zero.a7, .int .u64 W8.zero.a0, .int .u64 W8.zero.a1, .int .u64 W8.zero.a2, .int .u64 W8.zero.a3, .int .u64 W8.zero.a4, .int .u64 W8.zero.a5, .int .u64 W8.zero.a6, .int .u64 W8.zero.a7] (by rfl) K0 (by rfl) Hi16.out Z0.out ?_; intro w3 hput; have L3 := hput.lat w (L2.trans (Lat.alloc _ _)) (by have := L2.size; omega); have K3 := hput.keep (K2.alloc _) (by omega))
    | (refine wpList_put rfl 32 (.tmp 6) (.tmp 20) (by rfl) (by rfl) w.heap.size (by rfl) #[.int .u64 W8.zero.a0, .int .u64 W8.zero.a1, .int .u64 W8.zero.a2, .int .u64 W8.zero.a3, .int .u64 W8.zero.a4, .int .u64 W8.zero.a5, .int .u64 W8.zero.a6, .int .u64 W8.zero.a7, .int .u64 W8.zero.a0, .int .u64 W8.zero.a1, .int .u64 W8.zero.a2, .int .u64 W8.zero.a3, .int .u64 W8.zero.a4, .int .u64 W8.zero.a5, .int .u64 W8.zero.a6, .int .u64 W8.zero.a7] (by rfl) K3 (by rfl) Hi16.out Z0.out ?_; intro w6 hput6; have KS := hput6.blk; have L6 := hput6.lat w L3 (Nat.le_refl _)))
  have e0 := KS.cell 0
  have e1 := KS.cell 1
  have e2 := KS.cell 2
  have e3 := KS.cell 3
  have e4 := KS.cell 4
  have e5 := KS.cell 5
  have e6 := KS.cell 6
  have e7 := KS.cell 7
  have e8 := KS.cell 8
  have e9 := KS.cell 9
  have e10 := KS.cell 10
  have e11 := KS.cell 11
  have e12 := KS.cell 12
  have e13 := KS.cell 13
  have e14 := KS.cell 14
  have e15 := KS.cell 15
  clear hput hput6 K3 K0 K2
  refine bodyPost_ret (v := .tuple #[.agg #[.int .u64 W8.zero.a0, .int .u64 W8.zero.a1, .int .u64 W8.zero.a2, .int .u64 W8.zero.a3, .int .u64 W8.zero.a4, .int .u64 W8.zero.a5, .int .u64 W8.zero.a6, .int .u64 W8.zero.a7, .int .u64 W8.zero.a0, .int .u64 W8.zero.a1, .int .u64 W8.zero.a2, .int .u64 W8.zero.a3, .int .u64 W8.zero.a4, .int .u64 W8.zero.a5, .int .u64 W8.zero.a6, .int .u64 W8.zero.a7], .int .i64 2]) (by simp [results, Tryz.results13, go_sem, e0, e1, e2, e3, e4, e5, e6, e7, e8, e9, e10, e11, e12, e13, e14, e15]) rfl ?_
  exact ⟨rfl, L6⟩

set_option maxRecDepth 100000 in
set_option maxHeartbeats 4000000 in
theorem rRank_far (m p s : Int) (w : World) (h0 : 11 ≤ m) (h1 : m ≤ 15) (h2 : 0 ≤ s) (h3 : s ≤ 1000) (h : ¬ (0 ≤ p ∧ p ≤ 1000000000)) :
    Calls Tryz.prog 13 #[.int .i64 m, .int .i64 p, .int .i64 s] w (ShNo w 2) := by
  have HP := fun w => (rPost_ok m s w h0 h1 h2 h3).mono fun _ _ h => h.x
  have Hi16 := Lib.hid shareInfo'
  have Z0 := Lib.hid zeroAll
  clear h0 h1 h2 h3
  go_enter Tryz.func13, Tryz.ntmps13
  go_wp2_with fail
  refine name1 (Q := fun W => Calls _ _ _ W _) ?_
  intro W hl hs k1
  refine (HP W).mono ?_
  rintro e w2 ⟨Y, rfl, y1, y2, y3, l2⟩
  have L2 := hl.trans l2
  have K2 := k1.later l2
  have hlt2 := K2.lt
  have Y1 := Lib.hid y1
  have Y2 := Lib.hid y2
  have iY : Hid ((Tryz.prog.info? 32).map (·.size) = some Y.size) := by show _ = _; rw [y1]; exact Hi16.out
  have K0 := Blk.new w2 32 #[.int .u64 W8.zero.a0, .int .u64 W8.zero.a1, .int .u64 W8.zero.a2, .int .u64 W8.zero.a3, .int .u64 W8.zero.a4, .int .u64 W8.zero.a5, .int .u64 W8.zero.a6, .int .u64 W8.zero.a7, .int .u64 W8.zero.a0, .int .u64 W8.zero.a1, .int .u64 W8.zero.a2, .int .u64 W8.zero.a3, .int .u64 W8.zero.a4, .int .u64 W8.zero.a5, .int .u64 W8.zero.a6, .int .u64 W8.zero.a7]
  clear y1 y2 k1 hl l2 HP
  rcases Int.lt_or_le p 0 with h0 | h0
  all_goals try have h1 : 1000000000 < p := by omega
  all_goals
    go_wp2_with (first
      | (refine wpList_put rfl 32 (.tmp 8) (.tmp 16) (by rfl) (by rfl) w2.heap.size (by rfl) Y (by rfl) K0 (by rw [Y1.out]; rfl) iY.out Y2.out ?_; intro w3 hput; have L3 := hput.lat w (L2.trans (Lat.alloc _ _)) (by have := L2.size; omega); have K3 := hput.keep (K2.alloc _) (by omega))
      | (refine wpList_put rfl 32 (.tmp 6) (.tmp 28) (by rfl) (by rfl) w.heap.size (by rfl) #[.int .u64 W8.zero.a0, .int .u64 W8.zero.a1, .int .u64 W8.zero.a2, .int .u64 W8.zero.a3, .int .u64 W8.zero.a4, .int .u64 W8.zero.a5, .int .u64 W8.zero.a6, .int .u64 W8.zero.a7, .int .u64 W8.zero.a0, .int .u64 W8.zero.a1, .int .u64 W8.zero.a2, .int .u64 W8.zero.a3, .int .u64 W8.zero.a4, .int .u64 W8.zero.a5, .int .u64 W8.zero.a6, .int .u64 W8.zero.a7] (by rfl) K3 (by rfl) Hi16.out Z0.out ?_; intro w6 hput6; have KS := hput6.blk; have L6 := hput6.lat w L3 (Nat.le_refl _)))
    have e0 := KS.cell 0
    have e1 := KS.cell 1
    have e2 := KS.cell 2
    have e3 := KS.cell 3
    have e4 := KS.cell 4
    have e5 := KS.cell 5
    have e6 := KS.cell 6
    have e7 := KS.cell 7
    have e8 := KS.cell 8
    have e9 := KS.cell 9
    have e10 := KS.cell 10
    have e11 := KS.cell 11
    have e12 := KS.cell 12
    have e13 := KS.cell 13
    have e14 := KS.cell 14
    have e15 := KS.cell 15
    clear hput hput6 K3 K0 K2
    refine bodyPost_ret (v := .tuple #[.agg #[.int .u64 W8.zero.a0, .int .u64 W8.zero.a1, .int .u64 W8.zero.a2, .int .u64 W8.zero.a3, .int .u64 W8.zero.a4, .int .u64 W8.zero.a5, .int .u64 W8.zero.a6, .int .u64 W8.zero.a7, .int .u64 W8.zero.a0, .int .u64 W8.zero.a1, .int .u64 W8.zero.a2, .int .u64 W8.zero.a3, .int .u64 W8.zero.a4, .int .u64 W8.zero.a5, .int .u64 W8.zero.a6, .int .u64 W8.zero.a7], .int .i64 2]) (by simp [results, Tryz.results13, go_sem, e0, e1, e2, e3, e4, e5, e6, e7, e8, e9, e10, e11, e12, e13, e14, e15]) rfl ?_
    exact ⟨rfl, L6⟩

set_option maxRecDepth 100000 in
set_option maxHeartbeats 4000000 in
theorem rRank_zero (m p s : Int) (w : World) (h0 : 11 ≤ m) (h1 : m ≤ 15) (h2 : 0 ≤ s) (h3 : s ≤ 1000) (p0 : 0 ≤ p) (p1 : p ≤ 1000000000) (HZ : Hid (decide (s = 0 ∧ m ≤ 13) = true)) :
    Calls Tryz.prog 13 #[.int .i64 m, .int .i64 p, .int .i64 s] w (ShNo w 7) := by
  have HP := fun w => (rPost_ok m s w h0 h1 h2 h3).mono fun _ _ h => h.x
  have Hi16 := Lib.hid shareInfo'
  have Z0 := Lib.hid zeroAll
  clear h0 h1 h2 h3
  go_enter Tryz.func13, Tryz.ntmps13
  go_wp2_with fail
  refine name1 (Q := fun W => Calls _ _ _ W _) ?_
  intro W hl hs k1
  refine (HP W).mono ?_
  rintro e w2 ⟨Y, rfl, y1, y2, y3, l2⟩
  have L2 := hl.trans l2
  have K2 := k1.later l2
  have hlt2 := K2.lt
  have Y1 := Lib.hid y1
  have Y2 := Lib.hid y2
  have iY : Hid ((Tryz.prog.info? 32).map (·.size) = some Y.size) := by show _ = _; rw [y1]; exact Hi16.out
  have K0 := Blk.new w2 32 #[.int .u64 W8.zero.a0, .int .u64 W8.zero.a1, .int .u64 W8.zero.a2, .int .u64 W8.zero.a3, .int .u64 W8.zero.a4, .int .u64 W8.zero.a5, .int .u64 W8.zero.a6, .int .u64 W8.zero.a7, .int .u64 W8.zero.a0, .int .u64 W8.zero.a1, .int .u64 W8.zero.a2, .int .u64 W8.zero.a3, .int .u64 W8.zero.a4, .int .u64 W8.zero.a5, .int .u64 W8.zero.a6, .int .u64 W8.zero.a7]
  clear y1 y2 k1 hl l2 HP
  go_wp2_with (refine wpList_put rfl 32 (.tmp 8) (.tmp 16) (by rfl) (by rfl) w2.heap.size (by rfl) Y (by rfl) K0 (by rw [Y1.out]; rfl) iY.out Y2.out ?_; intro w3 hput; have L3 := hput.lat w (L2.trans (Lat.alloc _ _)) (by have := L2.size; omega); have K3 := hput.keep (K2.alloc _) (by omega))
  clear hput K0 K2 L2
  refine (rZero7_any m s w3).mono ?_
  rintro e w4 ⟨rfl, rfl⟩
  rw [HZ.out]
  go_wp2_with (refine wpList_put rfl 32 (.tmp 6) (.tmp 32) (by rfl) (by rfl) w.heap.size (by rfl) #[.int .u64 W8.zero.a0, .int .u64 W8.zero.a1, .int .u64 W8.zero.a2, .int .u64 W8.zero.a3, .int .u64 W8.zero.a4, .int .u64 W8.zero.a5, .int .u64 W8.zero.a6, .int .u64 W8.zero.a7, .int .u64 W8.zero.a0, .int .u64 W8.zero.a1, .int .u64 W8.zero.a2, .int .u64 W8.zero.a3, .int .u64 W8.zero.a4, .int .u64 W8.zero.a5, .int .u64 W8.zero.a6, .int .u64 W8.zero.a7] (by rfl) K3 (by rfl) Hi16.out Z0.out ?_; intro w6 hput6; have KS := hput6.blk; have L6 := hput6.lat w L3 (Nat.le_refl _))
  have e0 := KS.cell 0
  have e1 := KS.cell 1
  have e2 := KS.cell 2
  have e3 := KS.cell 3
  have e4 := KS.cell 4
  have e5 := KS.cell 5
  have e6 := KS.cell 6
  have e7 := KS.cell 7
  have e8 := KS.cell 8
  have e9 := KS.cell 9
  have e10 := KS.cell 10
  have e11 := KS.cell 11
  have e12 := KS.cell 12
  have e13 := KS.cell 13
  have e14 := KS.cell 14
  have e15 := KS.cell 15
  clear hput6 K3
  refine bodyPost_ret (v := .tuple #[.agg #[.int .u64 W8.zero.a0, .int .u64 W8.zero.a1, .int .u64 W8.zero.a2, .int .u64 W8.zero.a3, .int .u64 W8.zero.a4, .int .u64 W8.zero.a5, .int .u64 W8.zero.a6, .int .u64 W8.zero.a7, .int .u64 W8.zero.a0, .int .u64 W8.zero.a1, .int .u64 W8.zero.a2, .int .u64 W8.zero.a3, .int .u64 W8.zero.a4, .int .u64 W8.zero.a5, .int .u64 W8.zero.a6, .int .u64 W8.zero.a7], .int .i64 7]) (by simp [results, Tryz.results13, go_sem, e0, e1, e2, e3, e4, e5, e6, e7, e8, e9, e10, e11, e12, e13, e14, e15]) rfl ?_
  exact ⟨rfl, L6⟩
end Go.Proofs.YtebbhhdnjflmcaaGreat
