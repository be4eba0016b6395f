/- Several texts in one: DivC. -/
import Derived.Test.YtkjnjooggicgiaaJ32

/- Divisor: Post. -/
namespace Go.Proofs.Ytkjnjooggicgiaa
open Go.RowKit

set_option maxRecDepth 100000 in
set_option maxHeartbeats 2000000 in
theorem dPost_ok (m s : Int) (w : World) (h0 : 11 ≤ m) (h1 : m ≤ 15) (h2 : 0 ≤ s) (h3 : s ≤ 1000) :
    Calls Try.prog 5 #[.int .i64 m, .int .i64 s] w (ShPost w (postN m s) (postD m s)) := by
  have hN := postN_range (m := m) h2 h3
  have hD := postD_range (m := m) h2 h3
  have HP := fun w => pPost m s w h0 h1 h2 h3
  have HO := fun w => (shOf_ok (postN m s) (postD m s) (by omega) (by omega) (by omega) (by omega) (by omega) w).mono fun e w' h => h.fits (fits_small (by omega) (by omega) (by omega) (by omega))
  have HK := Lib.hid (known_yes h0 h1 h2 h3)
  obtain ⟨N, eN⟩ : ∃ N, postN m s = N := ⟨_, rfl⟩
  obtain ⟨D, eD⟩ : ∃ D, postD m s = D := ⟨_, rfl⟩
  rw [eN, eD] at HO
  have HP' : ∀ w, Calls Try.prog 15 #[.int .i64 s, .int .i64 m] w (fun e w' => e = .returned (.tuple #[.int .i64 N, .int .i64 D]) ∧ Lat w w') := fun w => by
    have := HP w; rw [eN, eD] at this; exact this
  rw [eN, eD]
  clear hN hD eN eD HP h0 h1 h2 h3
  go_enter Try.func5, Try.ntmps5
  go_wp2_with fail
  refine name2 (Q := fun W => Calls _ _ _ W _) ?_
  intro W hl hs k1 k2
  refine (known_any m (some ⟨w.heap.size + 1, 0, none⟩) 1 1 [s] W (Sl.of_blk' (t := 3) k2 rfl) (by omega)).mono ?_
  rintro e w1 ⟨rfl, l1⟩
  rw [HK.out]
  go_wp2_with fail
  refine (HP' w1).mono ?_
  rintro e w2 ⟨rfl, l2⟩
  go_wp2_with fail
  refine (HO w2).mono ?_
  rintro e w3 ⟨u, v, rfl, q1, l3⟩
  have L := ((hl.trans l1).trans l2).trans l3
  have K := k1.later ((l1.trans l2).trans l3)
  have Q := Lib.hid q1
  clear q1 k1 k2 l1 l2 l3 hl HP' HO
  have e0 := K.cell 0
  have e1 := K.cell 1
  have e2 := K.cell 2
  have e3 := K.cell 3
  have e4 := K.cell 4
  have e5 := K.cell 5
  have e6 := K.cell 6
  have e7 := K.cell 7
  have e8 := K.cell 8
  have e9 := K.cell 9
  have e10 := K.cell 10
  have e11 := K.cell 11
  have e12 := K.cell 12
  have e13 := K.cell 13
  have e14 := K.cell 14
  have e15 := K.cell 15
  have f0 := K.frozen 0
  have f1 := K.frozen 1
  have f2 := K.frozen 2
  have f3 := K.frozen 3
  have f4 := K.frozen 4
  have f5 := K.frozen 5
  have f6 := K.frozen 6
  have f7 := K.frozen 7
  have f8 := K.frozen 8
  have f9 := K.frozen 9
  have f10 := K.frozen 10
  have f11 := K.frozen 11
  have f12 := K.frozen 12
  have f13 := K.frozen 13
  have f14 := K.frozen 14
  have f15 := K.frozen 15
  go_wp2
  refine bodyPost_ret (v := .tuple #[.agg #[.int .u64 u.a0, .int .u64 u.a1, .int .u64 u.a2, .int .u64 u.a3, .int .u64 u.a4, .int .u64 u.a5, .int .u64 u.a6, .int .u64 u.a7, .int .u64 v.a0, .int .u64 v.a1, .int .u64 v.a2, .int .u64 v.a3, .int .u64 v.a4, .int .u64 v.a5, .int .u64 v.a6, .int .u64 v.a7], .int .i64 0]) (by simp [results, Try.results5, go_sem, e0, e1, e2, e3, e4, e5, e6, e7, e8, e9, e10, e11, e12, e13, e14, e15]) rfl ?_
  refine ⟨u, v, rfl, Q.out, ?_⟩
  iterate 16 (refine Lat.setCell ?_ (by simp; try omega) _)
  exact L

set_option maxRecDepth 100000 in
set_option maxHeartbeats 2000000 in
theorem dPost_no (m s : Int) (w : World) (h : ¬ (11 ≤ m ∧ m ≤ 15 ∧ 0 ≤ s ∧ s ≤ 1000)) :
    Calls Try.prog 5 #[.int .i64 m, .int .i64 s] w (ShNo w 2) := by
  have HK := Lib.hid (known_no h)
  clear h
  go_enter Try.func5, Try.ntmps5
  go_wp2_with fail
  refine name2 (Q := fun W => Calls _ _ _ W _) ?_
  intro W hl hs k1 k2
  refine (known_any m (some ⟨w.heap.size + 1, 0, none⟩) 1 1 [s] W (Sl.of_blk' (t := 3) k2 rfl) (by omega)).mono ?_
  rintro e w1 ⟨rfl, l1⟩
  rw [HK.out]
  have L := hl.trans l1
  have K := k1.later l1
  clear k1 k2 l1 hl
  have e0 := K.cell 0
  have e1 := K.cell 1
  have e2 := K.cell 2
  have e3 := K.cell 3
  have e4 := K.cell 4
  have e5 := K.cell 5
  have e6 := K.cell 6
  have e7 := K.cell 7
  have e8 := K.cell 8
  have e9 := K.cell 9
  have e10 := K.cell 10
  have e11 := K.cell 11
  have e12 := K.cell 12
  have e13 := K.cell 13
  have e14 := K.cell 14
  have e15 := K.cell 15
  have f0 := K.frozen 0
  have f1 := K.frozen 1
  have f2 := K.frozen 2
  have f3 := K.frozen 3
  have f4 := K.frozen 4
  have f5 := K.frozen 5
  have f6 := K.frozen 6
  have f7 := K.frozen 7
  have f8 := K.frozen 8
  have f9 := K.frozen 9
  have f10 := K.frozen 10
  have f11 := K.frozen 11
  have f12 := K.frozen 12
  have f13 := K.frozen 13
  have f14 := K.frozen 14
  have f15 := K.frozen 15
  go_wp2
  refine bodyPost_ret (v := .tuple #[.agg #[.int .u64 W8.zero.a0, .int .u64 W8.zero.a1, .int .u64 W8.zero.a2, .int .u64 W8.zero.a3, .int .u64 W8.zero.a4, .int .u64 W8.zero.a5, .int .u64 W8.zero.a6, .int .u64 W8.zero.a7, .int .u64 W8.zero.a0, .int .u64 W8.zero.a1, .int .u64 W8.zero.a2, .int .u64 W8.zero.a3, .int .u64 W8.zero.a4, .int .u64 W8.zero.a5, .int .u64 W8.zero.a6, .int .u64 W8.zero.a7], .int .i64 2]) (by simp [results, Try.results5, go_sem, W8.zero, e0, e1, e2, e3, e4, e5, e6, e7, e8, e9, e10, e11, e12, e13, e14, e15]) rfl ?_
  refine ⟨rfl, ?_⟩
  iterate 16 (refine Lat.setCell ?_ (by simp; try omega) _)
  exact L
end Go.Proofs.Ytkjnjooggicgiaa
