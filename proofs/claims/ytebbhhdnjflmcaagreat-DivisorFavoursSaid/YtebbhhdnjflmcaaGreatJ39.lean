/- Several texts in one: GivA. -/
import Derived.Test.YtebbhhdnjflmcaaGreatJ25
import Derived.Test.YtebbhhdnjflmcaaGreatJ34
import Derived.Test.YtebbhhdnjflmcaaGreatJ28
import Derived.Test.YtebbhhdnjflmcaaGreatJ35

/- The reference of the divisors: Known, zero, Post. -/
namespace Go.Proofs.YtebbhhdnjflmcaaGreat
open Go.RowKit

theorem rKnown_any (m : Int) (w : World) : Calls Tryz.prog 37 #[.int .i64 m] w (fun e w' => e = .returned (.bool (decide (11 ≤ m ∧ m ≤ 15))) ∧ w = w') := by
  go_enter Tryz.func37, Tryz.ntmps37
  by_cases h : 11 ≤ m <;> by_cases k : m ≤ 15
  all_goals
    go_wp2
    go_ret
    simp [h, k]
theorem rZero7_any (m s : Int) (w : World) : Calls Tryz.prog 41 #[.int .i64 m, .int .i64 s] w (fun e w' => e = .returned (.bool (decide (s = 0 ∧ m ≤ 13))) ∧ w = w') := by
  go_enter Tryz.func41, Tryz.ntmps41
  by_cases h : s = 0 <;> by_cases k : m ≤ 13
  all_goals
    go_wp2
    go_ret
    simp [h, k]

/-- A share that was told, its cells under a name. -/
def ShX (w : World) (N D : Int) (e : Ending) (w' : World) : Prop :=
  ∃ X : Array Value, e = .returned (.tuple #[.agg X, .int .i64 0]) ∧ X.size = 16 ∧ X.all (·.oneCell') = true ∧ Hid (∃ u v : W8, X = #[.int .u64 u.a0, .int .u64 u.a1, .int .u64 u.a2, .int .u64 u.a3, .int .u64 u.a4, .int .u64 u.a5, .int .u64 u.a6, .int .u64 u.a7, .int .u64 v.a0, .int .u64 v.a1, .int .u64 v.a2, .int .u64 v.a3, .int .u64 v.a4, .int .u64 v.a5, .int .u64 v.a6, .int .u64 v.a7] ∧ ShV u v N D) ∧ Lat w w'
theorem ShPost.x {w w' : World} {N D : Int} {e : Ending} (h : ShPost w N D e w') : ShX w N D e w' := by
  obtain ⟨u, v, h1, h2, h3⟩ := h
  exact ⟨#[.int .u64 u.a0, .int .u64 u.a1, .int .u64 u.a2, .int .u64 u.a3, .int .u64 u.a4, .int .u64 u.a5, .int .u64 u.a6, .int .u64 u.a7, .int .u64 v.a0, .int .u64 v.a1, .int .u64 v.a2, .int .u64 v.a3, .int .u64 v.a4, .int .u64 v.a5, .int .u64 v.a6, .int .u64 v.a7], h1, rfl, by simp [Value.oneCell'], ⟨u, v, rfl, h2⟩, h3⟩
theorem calls_fits {w : World} {f : Nat} {args : Array Value} {N D : Int} (h : Calls Tryz.prog f args w (SharePost w (lowN N D) (lowD N D))) (hf : Fits N D) : Calls Tryz.prog f args w (ShX w N D) := h.mono fun _ _ h => (h.fits hf).x

set_option maxRecDepth 100000 in
set_option maxHeartbeats 2000000 in
theorem rPost_11 (s : Int) (w : World) (h2 : 0 ≤ s) (h3 : s ≤ 1000) :
    Calls Tryz.prog 11 #[.int .i64 11, .int .i64 s] w (ShPost w (s) (1)) := by
  have h := sq_le h2 h3
  have h' : 2 * s * (s + 1) = 2 * (s * (s + 1)) := Int.mul_assoc _ _ _
  have HO := fun w => calls_fits (rOf_ok (s) (1) (by omega) (by omega) (by omega) (by omega) (by omega) w) (fits_small (by omega) (by omega) (by omega) (by omega))
  have e : IntKind.i64.wrap (s) = s := IntWalk.i64_in _ (by omega)
  have e' : wrap64 (s) = s := IntWalk.wrap64_in _ (by omega)
  have Hi16 := Lib.hid shareInfo'
  clear h h'
  go_enter Tryz.func11, Tryz.ntmps11
  go_wp2_with fail
  refine name1 (Q := fun W => Calls _ _ _ W _) ?_
  intro W hl hs k1
  refine (rKnown_any 11 W).mono ?_
  rintro e w1 ⟨rfl, rfl⟩
  rw [show decide ((11 : Int) ≤ 11 ∧ (11 : Int) ≤ 15) = true from rfl]
  go_wp2_with fail
  refine (HO W).mono ?_
  rintro e w2 ⟨X, rfl, x1, x2, x3, l2⟩
  have L := hl.trans l2
  have K := k1.later l2
  have X1 := Lib.hid x1
  have X2 := Lib.hid x2
  have i16 : Hid ((Tryz.prog.info? 32).map (·.size) = some X.size) := by show _ = _; rw [x1]; exact Hi16.out
  clear HO x1 x2 k1 hl l2 h2 h3 e e'
  go_wp2_with (refine wpList_put rfl 32 (.tmp 4) (.tmp 23) (by rfl) (by rfl) w.heap.size (by rfl) X (by rfl) K (by rw [X1.out]; rfl) i16.out X2.out ?_; intro w6 hput6; have KS := hput6.blk; have L6 := hput6.lat w L (Nat.le_refl _))
  obtain ⟨u, v, rfl, R⟩ := x3.out
  have e0 := KS.cell 0
  have e1 := KS.cell 1
  have e2 := KS.cell 2
  have e3 := KS.cell 3
  have e4 := KS.cell 4
  have e5 := KS.cell 5
  have e6 := KS.cell 6
  have e7 := KS.cell 7
  have e8 := KS.cell 8
  have e9 := KS.cell 9
  have e10 := KS.cell 10
  have e11 := KS.cell 11
  have e12 := KS.cell 12
  have e13 := KS.cell 13
  have e14 := KS.cell 14
  have e15 := KS.cell 15
  clear hput6 K
  refine bodyPost_ret (v := .tuple #[.agg #[.int .u64 u.a0, .int .u64 u.a1, .int .u64 u.a2, .int .u64 u.a3, .int .u64 u.a4, .int .u64 u.a5, .int .u64 u.a6, .int .u64 u.a7, .int .u64 v.a0, .int .u64 v.a1, .int .u64 v.a2, .int .u64 v.a3, .int .u64 v.a4, .int .u64 v.a5, .int .u64 v.a6, .int .u64 v.a7], .int .i64 0]) (by simp [results, Tryz.results11, go_sem, e0, e1, e2, e3, e4, e5, e6, e7, e8, e9, e10, e11, e12, e13, e14, e15]) rfl ?_
  exact ⟨u, v, rfl, R, L6⟩

set_option maxRecDepth 100000 in
set_option maxHeartbeats 2000000 in
theorem rPost_12 (s : Int) (w : World) (h2 : 0 ≤ s) (h3 : s ≤ 1000) :
    Calls Tryz.prog 11 #[.int .i64 12, .int .i64 s] w (ShPost w (2 * s * (s + 1)) (2 * s + 1)) := by
  have h := sq_le h2 h3
  have h' : 2 * s * (s + 1) = 2 * (s * (s + 1)) := Int.mul_assoc _ _ _
  have HO := fun w => calls_fits (rOf_ok (2 * s * (s + 1)) (2 * s + 1) (by omega) (by omega) (by omega) (by omega) (by omega) w) (fits_small (by omega) (by omega) (by omega) (by omega))
  have e : IntKind.i64.wrap (2 * s * (s + 1)) = 2 * s * (s + 1) := IntWalk.i64_in _ (by omega)
  have e' : wrap64 (2 * s * (s + 1)) = 2 * s * (s + 1) := IntWalk.wrap64_in _ (by omega)
  have Hi16 := Lib.hid shareInfo'
  clear h h'
  go_enter Tryz.func11, Tryz.ntmps11
  go_wp2_with fail
  refine name1 (Q := fun W => Calls _ _ _ W _) ?_
  intro W hl hs k1
  refine (rKnown_any 12 W).mono ?_
  rintro e w1 ⟨rfl, rfl⟩
  rw [show decide ((11 : Int) ≤ 12 ∧ (12 : Int) ≤ 15) = true from rfl]
  go_wp2_with fail
  refine (HO W).mono ?_
  rintro e w2 ⟨X, rfl, x1, x2, x3, l2⟩
  have L := hl.trans l2
  have K := k1.later l2
  have X1 := Lib.hid x1
  have X2 := Lib.hid x2
  have i16 : Hid ((Tryz.prog.info? 32).map (·.size) = some X.size) := by show _ = _; rw [x1]; exact Hi16.out
  clear HO x1 x2 k1 hl l2 h2 h3 e e'
  go_wp2_with (refine wpList_put rfl 32 (.tmp 4) (.tmp 36) (by rfl) (by rfl) w.heap.size (by rfl) X (by rfl) K (by rw [X1.out]; rfl) i16.out X2.out ?_; intro w6 hput6; have KS := hput6.blk; have L6 := hput6.lat w L (Nat.le_refl _))
  obtain ⟨u, v, rfl, R⟩ := x3.out
  have e0 := KS.cell 0
  have e1 := KS.cell 1
  have e2 := KS.cell 2
  have e3 := KS.cell 3
  have e4 := KS.cell 4
  have e5 := KS.cell 5
  have e6 := KS.cell 6
  have e7 := KS.cell 7
  have e8 := KS.cell 8
  have e9 := KS.cell 9
  have e10 := KS.cell 10
  have e11 := KS.cell 11
  have e12 := KS.cell 12
  have e13 := KS.cell 13
  have e14 := KS.cell 14
  have e15 := KS.cell 15
  clear hput6 K
  refine bodyPost_ret (v := .tuple #[.agg #[.int .u64 u.a0, .int .u64 u.a1, .int .u64 u.a2, .int .u64 u.a3, .int .u64 u.a4, .int .u64 u.a5, .int .u64 u.a6, .int .u64 u.a7, .int .u64 v.a0, .int .u64 v.a1, .int .u64 v.a2, .int .u64 v.a3, .int .u64 v.a4, .int .u64 v.a5, .int .u64 v.a6, .int .u64 v.a7], .int .i64 0]) (by simp [results, Tryz.results11, go_sem, e0, e1, e2, e3, e4, e5, e6, e7, e8, e9, e10, e11, e12, e13, e14, e15]) rfl ?_
  exact ⟨u, v, rfl, R, L6⟩

set_option maxRecDepth 100000 in
set_option maxHeartbeats 2000000 in
theorem rPost_13 (s : Int) (w : World) (h2 : 0 ≤ s) (h3 : s ≤ 1000) :
    Calls Tryz.prog 11 #[.int .i64 13, .int .i64 s] w (ShPost w (s * (s + 1)) (1)) := by
  have h := sq_le h2 h3
  have h' : 2 * s * (s + 1) = 2 * (s * (s + 1)) := Int.mul_assoc _ _ _
  have HO := fun w => calls_fits (rOf_ok (s * (s + 1)) (1) (by omega) (by omega) (by omega) (by omega) (by omega) w) (fits_small (by omega) (by omega) (by omega) (by omega))
  have e : IntKind.i64.wrap (s * (s + 1)) = s * (s + 1) := IntWalk.i64_in _ (by omega)
  have e' : wrap64 (s * (s + 1)) = s * (s + 1) := IntWalk.wrap64_in _ (by omega)
  have Hi16 := Lib.hid shareInfo'
  clear h h'
  go_enter Tryz.func11, Tryz.ntmps11
  go_wp2_with fail
  refine name1 (Q := fun W => Calls _ _ _ W _) ?_
  intro W hl hs k1
  refine (rKnown_any 13 W).mono ?_
  rintro e w1 ⟨rfl, rfl⟩
  rw [show decide ((11 : Int) ≤ 13 ∧ (13 : Int) ≤ 15) = true from rfl]
  go_wp2_with fail
  refine (HO W).mono ?_
  rintro e w2 ⟨X, rfl, x1, x2, x3, l2⟩
  have L := hl.trans l2
  have K := k1.later l2
  have X1 := Lib.hid x1
  have X2 := Lib.hid x2
  have i16 : Hid ((Tryz.prog.info? 32).map (·.size) = some X.size) := by show _ = _; rw [x1]; exact Hi16.out
  clear HO x1 x2 k1 hl l2 h2 h3 e e'
  go_wp2_with (refine wpList_put rfl 32 (.tmp 4) (.tmp 45) (by rfl) (by rfl) w.heap.size (by rfl) X (by rfl) K (by rw [X1.out]; rfl) i16.out X2.out ?_; intro w6 hput6; have KS := hput6.blk; have L6 := hput6.lat w L (Nat.le_refl _))
  obtain ⟨u, v, rfl, R⟩ := x3.out
  have e0 := KS.cell 0
  have e1 := KS.cell 1
  have e2 := KS.cell 2
  have e3 := KS.cell 3
  have e4 := KS.cell 4
  have e5 := KS.cell 5
  have e6 := KS.cell 6
  have e7 := KS.cell 7
  have e8 := KS.cell 8
  have e9 := KS.cell 9
  have e10 := KS.cell 10
  have e11 := KS.cell 11
  have e12 := KS.cell 12
  have e13 := KS.cell 13
  have e14 := KS.cell 14
  have e15 := KS.cell 15
  clear hput6 K
  refine bodyPost_ret (v := .tuple #[.agg #[.int .u64 u.a0, .int .u64 u.a1, .int .u64 u.a2, .int .u64 u.a3, .int .u64 u.a4, .int .u64 u.a5, .int .u64 u.a6, .int .u64 u.a7, .int .u64 v.a0, .int .u64 v.a1, .int .u64 v.a2, .int .u64 v.a3, .int .u64 v.a4, .int .u64 v.a5, .int .u64 v.a6, .int .u64 v.a7], .int .i64 0]) (by simp [results, Tryz.results11, go_sem, e0, e1, e2, e3, e4, e5, e6, e7, e8, e9, e10, e11, e12, e13, e14, e15]) rfl ?_
  exact ⟨u, v, rfl, R, L6⟩

set_option maxRecDepth 100000 in
set_option maxHeartbeats 2000000 in
theorem rPost_14 (s : Int) (w : World) (h2 : 0 ≤ s) (h3 : s ≤ 1000) :
    Calls Tryz.prog 11 #[.int .i64 14, .int .i64 s] w (ShPost w (2 * s + 1) (2)) := by
  have h := sq_le h2 h3
  have h' : 2 * s * (s + 1) = 2 * (s * (s + 1)) := Int.mul_assoc _ _ _
  have HO := fun w => calls_fits (rOf_ok (2 * s + 1) (2) (by omega) (by omega) (by omega) (by omega) (by omega) w) (fits_small (by omega) (by omega) (by omega) (by omega))
  have e : IntKind.i64.wrap (2 * s + 1) = 2 * s + 1 := IntWalk.i64_in _ (by omega)
  have e' : wrap64 (2 * s + 1) = 2 * s + 1 := IntWalk.wrap64_in _ (by omega)
  have Hi16 := Lib.hid shareInfo'
  clear h h'
  go_enter Tryz.func11, Tryz.ntmps11
  go_wp2_with fail
  refine name1 (Q := fun W => Calls _ _ _ W _) ?_
  intro W hl hs k1
  refine (rKnown_any 14 W).mono ?_
  rintro e w1 ⟨rfl, rfl⟩
  rw [show decide ((11 : Int) ≤ 14 ∧ (14 : Int) ≤ 15) = true from rfl]
  go_wp2_with fail
  refine (HO W).mono ?_
  rintro e w2 ⟨X, rfl, x1, x2, x3, l2⟩
  have L := hl.trans l2
  have K := k1.later l2
  have X1 := Lib.hid x1
  have X2 := Lib.hid x2
  have i16 : Hid ((Tryz.prog.info? 32).map (·.size) = some X.size) := by show _ = _; rw [x1]; exact Hi16.out
  clear HO x1 x2 k1 hl l2 h2 h3 e e'
  go_wp2_with (refine wpList_put rfl 32 (.tmp 4) (.tmp 53) (by rfl) (by rfl) w.heap.size (by rfl) X (by rfl) K (by rw [X1.out]; rfl) i16.out X2.out ?_; intro w6 hput6; have KS := hput6.blk; have L6 := hput6.lat w L (Nat.le_refl _))
  obtain ⟨u, v, rfl, R⟩ := x3.out
  have e0 := KS.cell 0
  have e1 := KS.cell 1
  have e2 := KS.cell 2
  have e3 := KS.cell 3
  have e4 := KS.cell 4
  have e5 := KS.cell 5
  have e6 := KS.cell 6
  have e7 := KS.cell 7
  have e8 := KS.cell 8
  have e9 := KS.cell 9
  have e10 := KS.cell 10
  have e11 := KS.cell 11
  have e12 := KS.cell 12
  have e13 := KS.cell 13
  have e14 := KS.cell 14
  have e15 := KS.cell 15
  clear hput6 K
  refine bodyPost_ret (v := .tuple #[.agg #[.int .u64 u.a0, .int .u64 u.a1, .int .u64 u.a2, .int .u64 u.a3, .int .u64 u.a4, .int .u64 u.a5, .int .u64 u.a6, .int .u64 u.a7, .int .u64 v.a0, .int .u64 v.a1, .int .u64 v.a2, .int .u64 v.a3, .int .u64 v.a4, .int .u64 v.a5, .int .u64 v.a6, .int .u64 v.a7], .int .i64 0]) (by simp [results, Tryz.results11, go_sem, e0, e1, e2, e3, e4, e5, e6, e7, e8, e9, e10, e11, e12, e13, e14, e15]) rfl ?_
  exact ⟨u, v, rfl, R, L6⟩

set_option maxRecDepth 100000 in
set_option maxHeartbeats 2000000 in
theorem rPost_15 (s : Int) (w : World) (h2 : 0 ≤ s) (h3 : s ≤ 1000) :
    Calls Tryz.prog 11 #[.int .i64 15, .int .i64 s] w (ShPost w (s + 1) (1)) := by
  have h := sq_le h2 h3
  have h' : 2 * s * (s + 1) = 2 * (s * (s + 1)) := Int.mul_assoc _ _ _
  have HO := fun w => calls_fits (rOf_ok (s + 1) (1) (by omega) (by omega) (by omega) (by omega) (by omega) w) (fits_small (by omega) (by omega) (by omega) (by omega))
  have e : IntKind.i64.wrap (s + 1) = s + 1 := IntWalk.i64_in _ (by omega)
  have e' : wrap64 (s + 1) = s + 1 := IntWalk.wrap64_in _ (by omega)
  have Hi16 := Lib.hid shareInfo'
  clear h h'
  go_enter Tryz.func11, Tryz.ntmps11
  go_wp2_with fail
  refine name1 (Q := fun W => Calls _ _ _ W _) ?_
  intro W hl hs k1
  refine (rKnown_any 15 W).mono ?_
  rintro e w1 ⟨rfl, rfl⟩
  rw [show decide ((11 : Int) ≤ 15 ∧ (15 : Int) ≤ 15) = true from rfl]
  go_wp2_with fail
  refine (HO W).mono ?_
  rintro e w2 ⟨X, rfl, x1, x2, x3, l2⟩
  have L := hl.trans l2
  have K := k1.later l2
  have X1 := Lib.hid x1
  have X2 := Lib.hid x2
  have i16 : Hid ((Tryz.prog.info? 32).map (·.size) = some X.size) := by show _ = _; rw [x1]; exact Hi16.out
  clear HO x1 x2 k1 hl l2 h2 h3 e e'
  go_wp2_with (refine wpList_put rfl 32 (.tmp 4) (.tmp 58) (by rfl) (by rfl) w.heap.size (by rfl) X (by rfl) K (by rw [X1.out]; rfl) i16.out X2.out ?_; intro w6 hput6; have KS := hput6.blk; have L6 := hput6.lat w L (Nat.le_refl _))
  obtain ⟨u, v, rfl, R⟩ := x3.out
  have e0 := KS.cell 0
  have e1 := KS.cell 1
  have e2 := KS.cell 2
  have e3 := KS.cell 3
  have e4 := KS.cell 4
  have e5 := KS.cell 5
  have e6 := KS.cell 6
  have e7 := KS.cell 7
  have e8 := KS.cell 8
  have e9 := KS.cell 9
  have e10 := KS.cell 10
  have e11 := KS.cell 11
  have e12 := KS.cell 12
  have e13 := KS.cell 13
  have e14 := KS.cell 14
  have e15 := KS.cell 15
  clear hput6 K
  refine bodyPost_ret (v := .tuple #[.agg #[.int .u64 u.a0, .int .u64 u.a1, .int .u64 u.a2, .int .u64 u.a3, .int .u64 u.a4, .int .u64 u.a5, .int .u64 u.a6, .int .u64 u.a7, .int .u64 v.a0, .int .u64 v.a1, .int .u64 v.a2, .int .u64 v.a3, .int .u64 v.a4, .int .u64 v.a5, .int .u64 v.a6, .int .u64 v.a7], .int .i64 0]) (by simp [results, Tryz.results11, go_sem, e0, e1, e2, e3, e4, e5, e6, e7, e8, e9, e10, e11, e12, e13, e14, e15]) rfl ?_
  exact ⟨u, v, rfl, R, L6⟩

theorem rPost_ok (m s : Int) (w : World) (h0 : 11 ≤ m) (h1 : m ≤ 15) (h2 : 0 ≤ s) (h3 : s ≤ 1000) :
    Calls Tryz.prog 11 #[.int .i64 m, .int .i64 s] w (ShPost w (postN m s) (postD m s)) := by
  have : m = 11 ∨ m = 12 ∨ m = 13 ∨ m = 14 ∨ m = 15 := by omega
  rcases this with rfl | rfl | rfl | rfl | rfl
  · exact rPost_11 s w h2 h3
  · exact rPost_12 s w h2 h3
  · exact rPost_13 s w h2 h3
  · exact rPost_14 s w h2 h3
  · exact rPost_15 s w h2 h3
end Go.Proofs.YtebbhhdnjflmcaaGreat
