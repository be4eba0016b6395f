/- Several texts in one: RKn, FrR, FrS. -/
import Derived.Test.YtkiaaefkobfkgaaGreatJ01
import Derived.Test.YtkiaaefkobfkgaaGreatProg
import Derived.Test.YtkiaaefkobfkgaaGreatShY
import Derived.Test.YtkiaaefkobfkgaaGreatOfs
import Derived.Test.YtkiaaefkobfkgaaGreatF04

/- The reference's methods of divisors. -/
namespace Go.Proofs.YtkiaaefkobfkgaaGreat
open Go.RowKit

theorem rKnown_any (m : Int) (w : World) : Calls Tryz.prog 81 #[.int .i64 m] w (fun e w' => e = .returned (.bool (decide (11 ≤ m ∧ m ≤ 15))) ∧ w = w') := by
  go_enter Tryz.func81, Tryz.ntmps81
  by_cases h : 11 ≤ m <;> by_cases k : m ≤ 15
  all_goals
    go_wp2
    go_ret
    simp [h, k]
end Go.Proofs.YtkiaaefkobfkgaaGreat

/- Fair: the reference's differences, inequalities, and whether a move helps. -/
namespace Go.Proofs.YtkiaaefkobfkgaaGreat
open Go.RowKit
set_option linter.unusedSimpArgs false

set_option maxRecDepth 100000 in
set_option maxHeartbeats 4000000 in
theorem rLess_gen (X Y Z : Array Value) (gX : GoodX X) (gY : GoodX Y) (gZ : GoodX Z) (HS : ∀ w, Calls Tryz.prog 135 #[.agg X, .agg Y] w (ShR w Z 0)) (w : World) :
    Calls Tryz.prog 83 #[.agg X, .agg Y] w (fun e w' => e = .returned (.agg Z) ∧ Lat w w') := by
  have i1 := Lib.hid gX.info
  have i2 := Lib.hid gY.info
  have i3 := Lib.hid gZ.info
  have z3 := Lib.hid gZ.1
  have c3 := Lib.hid gZ.2.1
  have G3 := Lib.hid gZ.cells
  clear gX gY gZ
  go_enter Tryz.func83, Tryz.ntmps83
  go_upto_region 1 with (fail)
  refine name3 (Q := fun W => Code.wp _ _ _ _ W) ?_
  intro W hl hs k1 k2 k3
  go_wp2_with (first
    | (refine wpList_get (by rfl) 35 (.tmp 2) (by rfl) w.heap.size (by rfl) k1 _ Tryz.underlying35 rfl i1.out ?_)
    | (refine wpList_get (by rfl) 35 (.tmp 3) (by rfl) (w.heap.size + 1) (by rfl) k2 _ Tryz.underlying35 rfl i2.out ?_))
  refine (HS W).mono ?_
  rintro e V1 ⟨rfl, l1⟩
  have K3 := k3.later l1
  have L1 := hl.trans l1
  have hlt := K3.lt
  have K0 := Blk.new V1 35 #[.int .u64 W8.zero.a0, .int .u64 W8.zero.a1, .int .u64 W8.zero.a2, .int .u64 W8.zero.a3, .int .u64 W8.zero.a4, .int .u64 W8.zero.a5, .int .u64 W8.zero.a6, .int .u64 W8.zero.a7, .int .u64 W8.zero.a0, .int .u64 W8.zero.a1, .int .u64 W8.zero.a2, .int .u64 W8.zero.a3, .int .u64 W8.zero.a4, .int .u64 W8.zero.a5, .int .u64 W8.zero.a6, .int .u64 W8.zero.a7]
  clear k1 k2 k3 hl l1 HS
  go_wp2_with (first
    | (refine wpList_put rfl 35 (.tmp 5) (.tmp 11) (by rfl) (by rfl) V1.heap.size (by rfl) Z (by rfl) K0 (by rw [z3.out]; rfl) i3.out c3.out ?_; intro W5 hput; have KX := hput.blk; have L5 := hput.lat w (L1.trans (Lat.alloc _ _)) L1.size; have KR := hput.keep (K3.alloc _) (by omega))
    | (refine wpList_get (by rfl) 35 (.tmp 5) (by rfl) V1.heap.size (by rfl) KX _ Tryz.underlying35 rfl i3.out ?_)
    | (refine wpList_put rfl 35 (.tmp 4) (.tmp 13) (by rfl) (by rfl) (w.heap.size + 1 + 1) (by rfl) Z (by rfl) KR (by rw [z3.out]; rfl) i3.out c3.out ?_; intro W6 hput6; have KS := hput6.blk; have L6 := hput6.lat w L5 (by omega)))
  obtain ⟨u, v, rfl⟩ := G3.out
  have e0 := KS.cell 0
  have e1 := KS.cell 1
  have e2 := KS.cell 2
  have e3 := KS.cell 3
  have e4 := KS.cell 4
  have e5 := KS.cell 5
  have e6 := KS.cell 6
  have e7 := KS.cell 7
  have e8 := KS.cell 8
  have e9 := KS.cell 9
  have e10 := KS.cell 10
  have e11 := KS.cell 11
  have e12 := KS.cell 12
  have e13 := KS.cell 13
  have e14 := KS.cell 14
  have e15 := KS.cell 15
  clear hput hput6 KX KR K0 K3
  refine bodyPost_ret (v := .agg #[.int .u64 u.a0, .int .u64 u.a1, .int .u64 u.a2, .int .u64 u.a3, .int .u64 u.a4, .int .u64 u.a5, .int .u64 u.a6, .int .u64 u.a7, .int .u64 v.a0, .int .u64 v.a1, .int .u64 v.a2, .int .u64 v.a3, .int .u64 v.a4, .int .u64 v.a5, .int .u64 v.a6, .int .u64 v.a7]) (by simp [results, Tryz.results83, go_sem, e0, e1, e2, e3, e4, e5, e6, e7, e8, e9, e10, e11, e12, e13, e14, e15]) rfl ?_
  exact ⟨rfl, L6⟩
theorem rLessX {a b c d : Int} (h1 : Fits a b) (h2 : Fits c d) (h3 : Fits (a * d - c * b) (b * d)) (w : World) :
    Calls Tryz.prog 83 #[.agg (shA a b), .agg (shA c d)] w (fun e w' => e = .returned (.agg (shA (a * d - c * b) (b * d))) ∧ Lat w w') :=
  rLess_gen _ _ _ (shA_good _ _) (shA_good _ _) (shA_good _ _) (fun w => rSubX h1 h2 h3 w) w

/-- What is known of the numbers of a pair, for the walk. -/
structure PF (p s q t : Int) : Prop where
  a : wrap64 (s * q) = s * q
  b : wrap64 (t * p) = t * p
  a' : IntKind.i64.wrap (s * q) = s * q
  b' : IntKind.i64.wrap (t * p) = t * p
theorem PairOk.pf {p s q t : Int} (h : PairOk p s q t) : PF p s q t := by
  have h1 := h.sq
  have h2 := h.tp
  exact ⟨IntWalk.wrap64_in _ (by omega), IntWalk.wrap64_in _ (by omega), IntWalk.i64_in _ (by omega), IntWalk.i64_in _ (by omega)⟩

set_option maxRecDepth 100000 in
set_option maxHeartbeats 4000000 in
theorem rMeas_eq (m p s q t : Int) (Z : Array Value) (gZ : GoodX Z) (hf : PF p s q t) (h0 : s * q = t * p)
    (H1 : ∀ w, Calls Tryz.prog 84 #[.int .i64 0, .int .i64 1] w (fun e w' => e = .returned (.agg Z) ∧ Lat w w')) (w : World) :
    Calls Tryz.prog 59 #[.int .i64 m, .int .i64 p, .int .i64 s, .int .i64 q, .int .i64 t] w (ShB w Z true) := by
  have i3 := Lib.hid gZ.info
  have z3 := Lib.hid gZ.1
  have c3 := Lib.hid gZ.2.1
  have G3 := Lib.hid gZ.cells
  have f1 := hf.a
  have f2 := hf.b
  have f3 := hf.a'
  have f4 := hf.b'
  have h1 : ¬ s * q < t * p := by omega
  have h1d : decide (s * q < t * p) = false := by simpa using h1
  have h2d : ((s * q : Int) == t * p) = true := by simpa using h0
  clear gZ hf h0
  go_enter Tryz.func59, Tryz.ntmps59
  go_wp2_with fail
  refine name1 (Q := fun W => Calls _ _ _ W _) ?_
  intro W hl hs k1
  refine (H1 W).mono ?_
  rintro e V1 ⟨rfl, l1⟩
  have K1 := k1.later l1
  go_wp2_with (refine wpList_put rfl 35 (.tmp 10) (.tmp 34) (by rfl) (by rfl) w.heap.size (by rfl) Z (by rfl) K1 (by rw [z3.out]; rfl) i3.out c3.out ?_; intro W6 hput6; have KS := hput6.blk; have L6 := hput6.lat w (hl.trans l1) (Nat.le_refl _))
  obtain ⟨u, v, rfl⟩ := G3.out
  have e0 := KS.cell 0
  have e1 := KS.cell 1
  have e2 := KS.cell 2
  have e3 := KS.cell 3
  have e4 := KS.cell 4
  have e5 := KS.cell 5
  have e6 := KS.cell 6
  have e7 := KS.cell 7
  have e8 := KS.cell 8
  have e9 := KS.cell 9
  have e10 := KS.cell 10
  have e11 := KS.cell 11
  have e12 := KS.cell 12
  have e13 := KS.cell 13
  have e14 := KS.cell 14
  have e15 := KS.cell 15
  clear hput6 K1 k1
  refine bodyPost_ret (v := .tuple #[.agg #[.int .u64 u.a0, .int .u64 u.a1, .int .u64 u.a2, .int .u64 u.a3, .int .u64 u.a4, .int .u64 u.a5, .int .u64 u.a6, .int .u64 u.a7, .int .u64 v.a0, .int .u64 v.a1, .int .u64 v.a2, .int .u64 v.a3, .int .u64 v.a4, .int .u64 v.a5, .int .u64 v.a6, .int .u64 v.a7], .bool true]) (by simp [results, Tryz.results59, go_sem, e0, e1, e2, e3, e4, e5, e6, e7, e8, e9, e10, e11, e12, e13, e14, e15]) rfl ?_
  exact ⟨rfl, L6⟩

set_option maxRecDepth 100000 in
set_option maxHeartbeats 4000000 in
theorem rMeas_11 (p s q t : Int) (X Y Z : Array Value) (gZ : GoodX Z) (hf : PF p s q t) (h1 : ¬ s * q < t * p) (h2 : ¬ s * q = t * p)
    (H1 : ∀ w, Calls Tryz.prog 84 #[.int .i64 s, .int .i64 1] w (fun e w' => e = .returned (.agg X) ∧ Lat w w')) (H2 : ∀ w, Calls Tryz.prog 84 #[.int .i64 (t * p), .int .i64 q] w (fun e w' => e = .returned (.agg Y) ∧ Lat w w'))
    (H3 : ∀ w, Calls Tryz.prog 83 #[.agg X, .agg Y] w (fun e w' => e = .returned (.agg Z) ∧ Lat w w')) (w : World) :
    Calls Tryz.prog 59 #[.int .i64 11, .int .i64 p, .int .i64 s, .int .i64 q, .int .i64 t] w (ShB w Z true) := by
  have i3 := Lib.hid gZ.info
  have z3 := Lib.hid gZ.1
  have c3 := Lib.hid gZ.2.1
  have G3 := Lib.hid gZ.cells
  have f1 := hf.a
  have f2 := hf.b
  have f3 := hf.a'
  have f4 := hf.b'
  have h1d : decide (s * q < t * p) = false := by simpa using h1
  have h2d : ((s * q : Int) == t * p) = false := by simpa using h2
  clear gZ hf
  go_enter Tryz.func59, Tryz.ntmps59
  go_wp2_with fail
  refine name1 (Q := fun W => Calls _ _ _ W _) ?_
  intro W hl hs k1
  refine (H1 W).mono ?_
  rintro e V1 ⟨rfl, l1⟩
  go_wp2_with fail
  refine (H2 V1).mono ?_
  rintro e V2 ⟨rfl, l2⟩
  go_wp2_with fail
  refine (H3 V2).mono ?_
  rintro e V3 ⟨rfl, l3⟩
  have K1 := k1.later ((l1.trans l2).trans l3)
  go_wp2_with (refine wpList_put rfl 35 (.tmp 10) (.tmp 45) (by rfl) (by rfl) w.heap.size (by rfl) Z (by rfl) K1 (by rw [z3.out]; rfl) i3.out c3.out ?_; intro W6 hput6; have KS := hput6.blk; have L6 := hput6.lat w (hl.trans ((l1.trans l2).trans l3)) (Nat.le_refl _))
  obtain ⟨u, v, rfl⟩ := G3.out
  have e0 := KS.cell 0
  have e1 := KS.cell 1
  have e2 := KS.cell 2
  have e3 := KS.cell 3
  have e4 := KS.cell 4
  have e5 := KS.cell 5
  have e6 := KS.cell 6
  have e7 := KS.cell 7
  have e8 := KS.cell 8
  have e9 := KS.cell 9
  have e10 := KS.cell 10
  have e11 := KS.cell 11
  have e12 := KS.cell 12
  have e13 := KS.cell 13
  have e14 := KS.cell 14
  have e15 := KS.cell 15
  clear hput6 K1 k1
  refine bodyPost_ret (v := .tuple #[.agg #[.int .u64 u.a0, .int .u64 u.a1, .int .u64 u.a2, .int .u64 u.a3, .int .u64 u.a4, .int .u64 u.a5, .int .u64 u.a6, .int .u64 u.a7, .int .u64 v.a0, .int .u64 v.a1, .int .u64 v.a2, .int .u64 v.a3, .int .u64 v.a4, .int .u64 v.a5, .int .u64 v.a6, .int .u64 v.a7], .bool true]) (by simp [results, Tryz.results59, go_sem, e0, e1, e2, e3, e4, e5, e6, e7, e8, e9, e10, e11, e12, e13, e14, e15]) rfl ?_
  exact ⟨rfl, L6⟩

set_option maxRecDepth 100000 in
set_option maxHeartbeats 4000000 in
theorem rMeas_12 (p s q t : Int) (X Y Z : Array Value) (gZ : GoodX Z) (hf : PF p s q t) (h1 : ¬ s * q < t * p) (h2 : ¬ s * q = t * p) (ht : t ≠ 0)
    (H1 : ∀ w, Calls Tryz.prog 84 #[.int .i64 q, .int .i64 t] w (fun e w' => e = .returned (.agg X) ∧ Lat w w')) (H2 : ∀ w, Calls Tryz.prog 84 #[.int .i64 p, .int .i64 s] w (fun e w' => e = .returned (.agg Y) ∧ Lat w w'))
    (H3 : ∀ w, Calls Tryz.prog 83 #[.agg X, .agg Y] w (fun e w' => e = .returned (.agg Z) ∧ Lat w w')) (w : World) :
    Calls Tryz.prog 59 #[.int .i64 12, .int .i64 p, .int .i64 s, .int .i64 q, .int .i64 t] w (ShB w Z true) := by
  have i3 := Lib.hid gZ.info
  have z3 := Lib.hid gZ.1
  have c3 := Lib.hid gZ.2.1
  have G3 := Lib.hid gZ.cells
  have f1 := hf.a
  have f2 := hf.b
  have f3 := hf.a'
  have f4 := hf.b'
  have h1d : decide (s * q < t * p) = false := by simpa using h1
  have h2d : ((s * q : Int) == t * p) = false := by simpa using h2
  have h3d : ((t : Int) == 0) = false := by simpa using ht
  clear gZ hf
  go_enter Tryz.func59, Tryz.ntmps59
  go_wp2_with fail
  refine name1 (Q := fun W => Calls _ _ _ W _) ?_
  intro W hl hs k1
  refine (H1 W).mono ?_
  rintro e V1 ⟨rfl, l1⟩
  go_wp2_with fail
  refine (H2 V1).mono ?_
  rintro e V2 ⟨rfl, l2⟩
  go_wp2_with fail
  refine (H3 V2).mono ?_
  rintro e V3 ⟨rfl, l3⟩
  have K1 := k1.later ((l1.trans l2).trans l3)
  go_wp2_with (refine wpList_put rfl 35 (.tmp 10) (.tmp 57) (by rfl) (by rfl) w.heap.size (by rfl) Z (by rfl) K1 (by rw [z3.out]; rfl) i3.out c3.out ?_; intro W6 hput6; have KS := hput6.blk; have L6 := hput6.lat w (hl.trans ((l1.trans l2).trans l3)) (Nat.le_refl _))
  obtain ⟨u, v, rfl⟩ := G3.out
  have e0 := KS.cell 0
  have e1 := KS.cell 1
  have e2 := KS.cell 2
  have e3 := KS.cell 3
  have e4 := KS.cell 4
  have e5 := KS.cell 5
  have e6 := KS.cell 6
  have e7 := KS.cell 7
  have e8 := KS.cell 8
  have e9 := KS.cell 9
  have e10 := KS.cell 10
  have e11 := KS.cell 11
  have e12 := KS.cell 12
  have e13 := KS.cell 13
  have e14 := KS.cell 14
  have e15 := KS.cell 15
  clear hput6 K1 k1
  refine bodyPost_ret (v := .tuple #[.agg #[.int .u64 u.a0, .int .u64 u.a1, .int .u64 u.a2, .int .u64 u.a3, .int .u64 u.a4, .int .u64 u.a5, .int .u64 u.a6, .int .u64 u.a7, .int .u64 v.a0, .int .u64 v.a1, .int .u64 v.a2, .int .u64 v.a3, .int .u64 v.a4, .int .u64 v.a5, .int .u64 v.a6, .int .u64 v.a7], .bool true]) (by simp [results, Tryz.results59, go_sem, e0, e1, e2, e3, e4, e5, e6, e7, e8, e9, e10, e11, e12, e13, e14, e15]) rfl ?_
  exact ⟨rfl, L6⟩

set_option maxRecDepth 100000 in
set_option maxHeartbeats 4000000 in
theorem rMeas_12z (p s q : Int) (hf : PF p s q 0) (h1 : ¬ s * q < 0 * p) (h2 : ¬ s * q = 0 * p) (w : World) :
    Calls Tryz.prog 59 #[.int .i64 12, .int .i64 p, .int .i64 s, .int .i64 q, .int .i64 0] w (ShB w zA false) := by
  have f1 := hf.a
  have f3 := hf.a'
  rw [Int.zero_mul] at h1 h2
  have h1d : decide (s * q < 0) = false := by simpa using h1
  have h1e : 0 ≤ s * q := by omega
  have h2d : ((s * q : Int) == 0) = false := by simpa using h2
  clear hf
  go_enter Tryz.func59, Tryz.ntmps59
  go_wp2
  refine bodyPost_ret (v := .tuple #[.agg #[.int .u64 W8.zero.a0, .int .u64 W8.zero.a1, .int .u64 W8.zero.a2, .int .u64 W8.zero.a3, .int .u64 W8.zero.a4, .int .u64 W8.zero.a5, .int .u64 W8.zero.a6, .int .u64 W8.zero.a7, .int .u64 W8.zero.a0, .int .u64 W8.zero.a1, .int .u64 W8.zero.a2, .int .u64 W8.zero.a3, .int .u64 W8.zero.a4, .int .u64 W8.zero.a5, .int .u64 W8.zero.a6, .int .u64 W8.zero.a7], .bool false]) (by simp [results, Tryz.results59, go_sem, W8.zero]) rfl ?_
  refine ⟨rfl, ?_⟩
  first
  | exact Lat.alloc _ _
  | (iterate 16 (refine Lat.setCell ?_ (by first | omega | (simp; done) | (simp; omega)) _)
     exact Lat.alloc _ _)

set_option maxRecDepth 100000 in
set_option maxHeartbeats 4000000 in
theorem rMeas_13 (p s q t : Int) (X Y Z : Array Value) (gZ : GoodX Z) (hf : PF p s q t) (h1 : ¬ s * q < t * p) (h2 : ¬ s * q = t * p) (ht : t ≠ 0)
    (H1 : ∀ w, Calls Tryz.prog 84 #[.int .i64 (s * q), .int .i64 (t * p)] w (fun e w' => e = .returned (.agg X) ∧ Lat w w')) (H2 : ∀ w, Calls Tryz.prog 84 #[.int .i64 1, .int .i64 1] w (fun e w' => e = .returned (.agg Y) ∧ Lat w w'))
    (H3 : ∀ w, Calls Tryz.prog 83 #[.agg X, .agg Y] w (fun e w' => e = .returned (.agg Z) ∧ Lat w w')) (w : World) :
    Calls Tryz.prog 59 #[.int .i64 13, .int .i64 p, .int .i64 s, .int .i64 q, .int .i64 t] w (ShB w Z true) := by
  have i3 := Lib.hid gZ.info
  have z3 := Lib.hid gZ.1
  have c3 := Lib.hid gZ.2.1
  have G3 := Lib.hid gZ.cells
  have f1 := hf.a
  have f2 := hf.b
  have f3 := hf.a'
  have f4 := hf.b'
  have h1d : decide (s * q < t * p) = false := by simpa using h1
  have h2d : ((s * q : Int) == t * p) = false := by simpa using h2
  have h3d : ((t : Int) == 0) = false := by simpa using ht
  clear gZ hf
  go_enter Tryz.func59, Tryz.ntmps59
  go_wp2_with fail
  refine name1 (Q := fun W => Calls _ _ _ W _) ?_
  intro W hl hs k1
  refine (H1 W).mono ?_
  rintro e V1 ⟨rfl, l1⟩
  go_wp2_with fail
  refine (H2 V1).mono ?_
  rintro e V2 ⟨rfl, l2⟩
  go_wp2_with fail
  refine (H3 V2).mono ?_
  rintro e V3 ⟨rfl, l3⟩
  have K1 := k1.later ((l1.trans l2).trans l3)
  go_wp2_with (refine wpList_put rfl 35 (.tmp 10) (.tmp 71) (by rfl) (by rfl) w.heap.size (by rfl) Z (by rfl) K1 (by rw [z3.out]; rfl) i3.out c3.out ?_; intro W6 hput6; have KS := hput6.blk; have L6 := hput6.lat w (hl.trans ((l1.trans l2).trans l3)) (Nat.le_refl _))
  obtain ⟨u, v, rfl⟩ := G3.out
  have e0 := KS.cell 0
  have e1 := KS.cell 1
  have e2 := KS.cell 2
  have e3 := KS.cell 3
  have e4 := KS.cell 4
  have e5 := KS.cell 5
  have e6 := KS.cell 6
  have e7 := KS.cell 7
  have e8 := KS.cell 8
  have e9 := KS.cell 9
  have e10 := KS.cell 10
  have e11 := KS.cell 11
  have e12 := KS.cell 12
  have e13 := KS.cell 13
  have e14 := KS.cell 14
  have e15 := KS.cell 15
  clear hput6 K1 k1
  refine bodyPost_ret (v := .tuple #[.agg #[.int .u64 u.a0, .int .u64 u.a1, .int .u64 u.a2, .int .u64 u.a3, .int .u64 u.a4, .int .u64 u.a5, .int .u64 u.a6, .int .u64 u.a7, .int .u64 v.a0, .int .u64 v.a1, .int .u64 v.a2, .int .u64 v.a3, .int .u64 v.a4, .int .u64 v.a5, .int .u64 v.a6, .int .u64 v.a7], .bool true]) (by simp [results, Tryz.results59, go_sem, e0, e1, e2, e3, e4, e5, e6, e7, e8, e9, e10, e11, e12, e13, e14, e15]) rfl ?_
  exact ⟨rfl, L6⟩

set_option maxRecDepth 100000 in
set_option maxHeartbeats 4000000 in
theorem rMeas_13z (p s q : Int) (hf : PF p s q 0) (h1 : ¬ s * q < 0 * p) (h2 : ¬ s * q = 0 * p) (w : World) :
    Calls Tryz.prog 59 #[.int .i64 13, .int .i64 p, .int .i64 s, .int .i64 q, .int .i64 0] w (ShB w zA false) := by
  have f1 := hf.a
  have f3 := hf.a'
  rw [Int.zero_mul] at h1 h2
  have h1d : decide (s * q < 0) = false := by simpa using h1
  have h1e : 0 ≤ s * q := by omega
  have h2d : ((s * q : Int) == 0) = false := by simpa using h2
  clear hf
  go_enter Tryz.func59, Tryz.ntmps59
  go_wp2
  refine bodyPost_ret (v := .tuple #[.agg #[.int .u64 W8.zero.a0, .int .u64 W8.zero.a1, .int .u64 W8.zero.a2, .int .u64 W8.zero.a3, .int .u64 W8.zero.a4, .int .u64 W8.zero.a5, .int .u64 W8.zero.a6, .int .u64 W8.zero.a7, .int .u64 W8.zero.a0, .int .u64 W8.zero.a1, .int .u64 W8.zero.a2, .int .u64 W8.zero.a3, .int .u64 W8.zero.a4, .int .u64 W8.zero.a5, .int .u64 W8.zero.a6, .int .u64 W8.zero.a7], .bool false]) (by simp [results, Tryz.results59, go_sem, W8.zero]) rfl ?_
  refine ⟨rfl, ?_⟩
  first
  | exact Lat.alloc _ _
  | (iterate 16 (refine Lat.setCell ?_ (by first | omega | (simp; done) | (simp; omega)) _)
     exact Lat.alloc _ _)

set_option maxRecDepth 100000 in
set_option maxHeartbeats 4000000 in
theorem rMeas_14 (p s q t : Int) (X Y Z : Array Value) (gZ : GoodX Z) (hf : PF p s q t) (h1 : ¬ s * q < t * p) (h2 : ¬ s * q = t * p)
    (H1 : ∀ w, Calls Tryz.prog 84 #[.int .i64 s, .int .i64 p] w (fun e w' => e = .returned (.agg X) ∧ Lat w w')) (H2 : ∀ w, Calls Tryz.prog 84 #[.int .i64 t, .int .i64 q] w (fun e w' => e = .returned (.agg Y) ∧ Lat w w'))
    (H3 : ∀ w, Calls Tryz.prog 83 #[.agg X, .agg Y] w (fun e w' => e = .returned (.agg Z) ∧ Lat w w')) (w : World) :
    Calls Tryz.prog 59 #[.int .i64 14, .int .i64 p, .int .i64 s, .int .i64 q, .int .i64 t] w (ShB w Z true) := by
  have i3 := Lib.hid gZ.info
  have z3 := Lib.hid gZ.1
  have c3 := Lib.hid gZ.2.1
  have G3 := Lib.hid gZ.cells
  have f1 := hf.a
  have f2 := hf.b
  have f3 := hf.a'
  have f4 := hf.b'
  have h1d : decide (s * q < t * p) = false := by simpa using h1
  have h2d : ((s * q : Int) == t * p) = false := by simpa using h2
  clear gZ hf
  go_enter Tryz.func59, Tryz.ntmps59
  go_wp2_with fail
  refine name1 (Q := fun W => Calls _ _ _ W _) ?_
  intro W hl hs k1
  refine (H1 W).mono ?_
  rintro e V1 ⟨rfl, l1⟩
  go_wp2_with fail
  refine (H2 V1).mono ?_
  rintro e V2 ⟨rfl, l2⟩
  go_wp2_with fail
  refine (H3 V2).mono ?_
  rintro e V3 ⟨rfl, l3⟩
  have K1 := k1.later ((l1.trans l2).trans l3)
  go_wp2_with (refine wpList_put rfl 35 (.tmp 10) (.tmp 80) (by rfl) (by rfl) w.heap.size (by rfl) Z (by rfl) K1 (by rw [z3.out]; rfl) i3.out c3.out ?_; intro W6 hput6; have KS := hput6.blk; have L6 := hput6.lat w (hl.trans ((l1.trans l2).trans l3)) (Nat.le_refl _))
  obtain ⟨u, v, rfl⟩ := G3.out
  have e0 := KS.cell 0
  have e1 := KS.cell 1
  have e2 := KS.cell 2
  have e3 := KS.cell 3
  have e4 := KS.cell 4
  have e5 := KS.cell 5
  have e6 := KS.cell 6
  have e7 := KS.cell 7
  have e8 := KS.cell 8
  have e9 := KS.cell 9
  have e10 := KS.cell 10
  have e11 := KS.cell 11
  have e12 := KS.cell 12
  have e13 := KS.cell 13
  have e14 := KS.cell 14
  have e15 := KS.cell 15
  clear hput6 K1 k1
  refine bodyPost_ret (v := .tuple #[.agg #[.int .u64 u.a0, .int .u64 u.a1, .int .u64 u.a2, .int .u64 u.a3, .int .u64 u.a4, .int .u64 u.a5, .int .u64 u.a6, .int .u64 u.a7, .int .u64 v.a0, .int .u64 v.a1, .int .u64 v.a2, .int .u64 v.a3, .int .u64 v.a4, .int .u64 v.a5, .int .u64 v.a6, .int .u64 v.a7], .bool true]) (by simp [results, Tryz.results59, go_sem, e0, e1, e2, e3, e4, e5, e6, e7, e8, e9, e10, e11, e12, e13, e14, e15]) rfl ?_
  exact ⟨rfl, L6⟩

set_option maxRecDepth 100000 in
set_option maxHeartbeats 4000000 in
theorem rMeas_15 (p s q t : Int) (X Y Z : Array Value) (gZ : GoodX Z) (hf : PF p s q t) (h1 : ¬ s * q < t * p) (h2 : ¬ s * q = t * p)
    (H1 : ∀ w, Calls Tryz.prog 84 #[.int .i64 (s * q), .int .i64 p] w (fun e w' => e = .returned (.agg X) ∧ Lat w w')) (H2 : ∀ w, Calls Tryz.prog 84 #[.int .i64 t, .int .i64 1] w (fun e w' => e = .returned (.agg Y) ∧ Lat w w'))
    (H3 : ∀ w, Calls Tryz.prog 83 #[.agg X, .agg Y] w (fun e w' => e = .returned (.agg Z) ∧ Lat w w')) (w : World) :
    Calls Tryz.prog 59 #[.int .i64 15, .int .i64 p, .int .i64 s, .int .i64 q, .int .i64 t] w (ShB w Z true) := by
  have i3 := Lib.hid gZ.info
  have z3 := Lib.hid gZ.1
  have c3 := Lib.hid gZ.2.1
  have G3 := Lib.hid gZ.cells
  have f1 := hf.a
  have f2 := hf.b
  have f3 := hf.a'
  have f4 := hf.b'
  have h1d : decide (s * q < t * p) = false := by simpa using h1
  have h2d : ((s * q : Int) == t * p) = false := by simpa using h2
  clear gZ hf
  go_enter Tryz.func59, Tryz.ntmps59
  go_wp2_with fail
  refine name1 (Q := fun W => Calls _ _ _ W _) ?_
  intro W hl hs k1
  refine (H1 W).mono ?_
  rintro e V1 ⟨rfl, l1⟩
  go_wp2_with fail
  refine (H2 V1).mono ?_
  rintro e V2 ⟨rfl, l2⟩
  go_wp2_with fail
  refine (H3 V2).mono ?_
  rintro e V3 ⟨rfl, l3⟩
  have K1 := k1.later ((l1.trans l2).trans l3)
  go_wp2_with (refine wpList_put rfl 35 (.tmp 10) (.tmp 88) (by rfl) (by rfl) w.heap.size (by rfl) Z (by rfl) K1 (by rw [z3.out]; rfl) i3.out c3.out ?_; intro W6 hput6; have KS := hput6.blk; have L6 := hput6.lat w (hl.trans ((l1.trans l2).trans l3)) (Nat.le_refl _))
  obtain ⟨u, v, rfl⟩ := G3.out
  have e0 := KS.cell 0
  have e1 := KS.cell 1
  have e2 := KS.cell 2
  have e3 := KS.cell 3
  have e4 := KS.cell 4
  have e5 := KS.cell 5
  have e6 := KS.cell 6
  have e7 := KS.cell 7
  have e8 := KS.cell 8
  have e9 := KS.cell 9
  have e10 := KS.cell 10
  have e11 := KS.cell 11
  have e12 := KS.cell 12
  have e13 := KS.cell 13
  have e14 := KS.cell 14
  have e15 := KS.cell 15
  clear hput6 K1 k1
  refine bodyPost_ret (v := .tuple #[.agg #[.int .u64 u.a0, .int .u64 u.a1, .int .u64 u.a2, .int .u64 u.a3, .int .u64 u.a4, .int .u64 u.a5, .int .u64 u.a6, .int .u64 u.a7, .int .u64 v.a0, .int .u64 v.a1, .int .u64 v.a2, .int .u64 v.a3, .int .u64 v.a4, .int .u64 v.a5, .int .u64 v.a6, .int .u64 v.a7], .bool true]) (by simp [results, Tryz.results59, go_sem, e0, e1, e2, e3, e4, e5, e6, e7, e8, e9, e10, e11, e12, e13, e14, e15]) rfl ?_
  exact ⟨rfl, L6⟩
end Go.Proofs.YtkiaaefkobfkgaaGreat

/- Fair: the reference's Measure and Helps. -/
namespace Go.Proofs.YtkiaaefkobfkgaaGreat
open Go.RowKit
set_option linter.unusedSimpArgs false

theorem shB_of {w w' : World} {X X' : Array Value} {b b' : Bool} {e : Ending} (h : ShB w X b e w') (hX : X = X') (hb : b = b') : ShB w X' b' e w' := hX ▸ hb ▸ h
theorem r9_ofX (n d : Int) (h0 : 0 < d) (h1 : d ≤ 9223372036854775807) (h2 : -9223372036854775808 ≤ n) (h3 : n ≤ 9223372036854775807) : ∀ w, Calls Tryz.prog 84 #[.int .i64 n, .int .i64 d] w (fun e w' => e = .returned (.agg (shA n d)) ∧ Lat w w') := fun w => r9_of n d w h0 h1 h2 h3
theorem fitsP {n d : Int} (h0 : 0 < d) (h1 : d ≤ 9000000000000000000) (h2 : -9000000000000000000 ≤ n) (h3 : n ≤ 9000000000000000000) : Fits n d := fits_small h0 (by omega) (by omega) (by omega)
/-- The inequality where the first region is not the less favoured one. -/
theorem rMeas_top {m p s q t : Int} (h : PairOk p s q t) (h0 : 11 ≤ m) (h1 : m ≤ 15) (hn : ¬ s * q < t * p) (w : World) :
    Calls Tryz.prog 59 #[.int .i64 m, .int .i64 p, .int .i64 s, .int .i64 q, .int .i64 t] w (ShB w (measX m p s q t) (measB m p s q t)) := by
  have hf := h.pf
  have hsq := h.sq
  have htp := h.tp
  have hpq := mul_bound (show 0 ≤ p by have := h.p0; omega) h.p1 (show 0 ≤ q by have := h.q0; omega) h.q1
  have hts := mul_bound h.t0 h.t1 h.s0 h.s1
  have p0 := h.p0
  have p1 := h.p1
  have q0 := h.q0
  have q1 := h.q1
  have s0 := h.s0
  have s1 := h.s1
  have t0 := h.t0
  have t1 := h.t1
  by_cases he : s * q = t * p
  · have e1 : measX m p s q t = shA 0 1 := by rw [measX, meas_eq he]; exact gapX_yes (by decide)
    have e2 : measB m p s q t = true := by rw [measB, meas_eq he]; rfl
    rw [e1, e2]
    exact rMeas_eq m p s q t _ (shA_good _ _) hf he (r9_ofX 0 1 (by omega) (by omega) (by omega) (by omega)) w
  · have hgt : t * p < s * q := by omega
    have hs := pos_of_fav p0 q0 t0 hgt
    have hm := meas_pos (k := m) hgt
    unfold measX measB
    rw [hm]
    show Calls _ _ _ _ (ShB w (gapX (s * q - t * p) (ineqD m p s q t)) (gapB (ineqD m p s q t)))
    have hm5 : m = 11 ∨ m = 12 ∨ m = 13 ∨ m = 14 ∨ m = 15 := by omega
    rcases hm5 with rfl | rfl | rfl | rfl | rfl
    · rw [ineqD_11, gapX_yes (show q ≠ 0 by omega), gapB_yes (show q ≠ 0 by omega)]
      have HL := rLessX (a := s) (b := 1) (c := t * p) (d := q) (fitsP (by omega) (by omega) (by omega) (by omega)) (fitsP (by omega) (by omega) (by omega) (by omega)) (by rw [Int.mul_one, Int.one_mul]; exact fitsP (by omega) (by omega) (by omega) (by omega))
      rw [Int.mul_one, Int.one_mul] at HL
      exact rMeas_11 p s q t _ _ _ (shA_good _ _) hf hn he (r9_ofX _ _ (by omega) (by omega) (by omega) (by omega)) (r9_ofX _ _ (by omega) (by omega) (by omega) (by omega)) HL w
    · rw [ineqD_12]
      by_cases ht : t = 0
      · subst ht
        rw [show (0 : Int) * s = 0 from Int.zero_mul s, gapX_no, gapB_no]
        exact rMeas_12z p s q hf hn he w
      · have hts0 : t * s ≠ 0 := Int.mul_ne_zero ht (by omega)
        rw [gapX_yes hts0, gapB_yes hts0]
        have HL := rLessX (a := q) (b := t) (c := p) (d := s) (fitsP (by omega) (by omega) (by omega) (by omega)) (fitsP (by omega) (by omega) (by omega) (by omega)) (by rw [Int.mul_comm q s, Int.mul_comm p t]; exact fitsP (by omega) (by omega) (by omega) (by omega))
        rw [Int.mul_comm q s, Int.mul_comm p t] at HL
        exact rMeas_12 p s q t _ _ _ (shA_good _ _) hf hn he ht (r9_ofX _ _ (by omega) (by omega) (by omega) (by omega)) (r9_ofX _ _ (by omega) (by omega) (by omega) (by omega)) HL w
    · rw [ineqD_13]
      by_cases ht : t = 0
      · subst ht
        rw [Int.zero_mul, gapX_no, gapB_no]
        exact rMeas_13z p s q hf hn he w
      · have htp0 : t * p ≠ 0 := Int.mul_ne_zero ht (by omega)
        rw [gapX_yes htp0, gapB_yes htp0]
        have HL := rLessX (a := s * q) (b := t * p) (c := 1) (d := 1) (fitsP (by omega) (by omega) (by omega) (by omega)) (fitsP (by omega) (by omega) (by omega) (by omega)) (by rw [Int.mul_one, Int.one_mul, Int.mul_one]; exact fitsP (by omega) (by omega) (by omega) (by omega))
        rw [Int.mul_one, Int.one_mul, Int.mul_one] at HL
        exact rMeas_13 p s q t _ _ _ (shA_good _ _) hf hn he ht (r9_ofX _ _ (by omega) (by omega) (by omega) (by omega)) (r9_ofX _ _ (by omega) (by omega) (by omega) (by omega)) HL w
    · have hpq0 : p * q ≠ 0 := Int.mul_ne_zero (by omega) (by omega)
      rw [ineqD_14, gapX_yes hpq0, gapB_yes hpq0]
      have HL := rLessX (a := s) (b := p) (c := t) (d := q) (fitsP (by omega) (by omega) (by omega) (by omega)) (fitsP (by omega) (by omega) (by omega) (by omega)) (fitsP (by omega) (by omega) (by omega) (by omega))
      exact rMeas_14 p s q t _ _ _ (shA_good _ _) hf hn he (r9_ofX _ _ (by omega) (by omega) (by omega) (by omega)) (r9_ofX _ _ (by omega) (by omega) (by omega) (by omega)) HL w
    · rw [ineqD_15, gapX_yes (show p ≠ 0 by omega), gapB_yes (show p ≠ 0 by omega)]
      have HL := rLessX (a := s * q) (b := p) (c := t) (d := 1) (fitsP (by omega) (by omega) (by omega) (by omega)) (fitsP (by omega) (by omega) (by omega) (by omega)) (by rw [Int.mul_one, Int.mul_one]; exact fitsP (by omega) (by omega) (by omega) (by omega))
      rw [Int.mul_one, Int.mul_one] at HL
      exact rMeas_15 p s q t _ _ _ (shA_good _ _) hf hn he (r9_ofX _ _ (by omega) (by omega) (by omega) (by omega)) (r9_ofX _ _ (by omega) (by omega) (by omega) (by omega)) HL w

set_option maxRecDepth 100000 in
set_option maxHeartbeats 4000000 in
theorem rMeas_rec (m p s q t : Int) (Z : Array Value) (b : Bool) (gZ : GoodX Z) (hf : PF p s q t) (h1 : s * q < t * p)
    (H1 : ∀ w, Calls Tryz.prog 59 #[.int .i64 m, .int .i64 q, .int .i64 t, .int .i64 p, .int .i64 s] w (ShB w Z b)) (w : World) :
    Calls Tryz.prog 59 #[.int .i64 m, .int .i64 p, .int .i64 s, .int .i64 q, .int .i64 t] w (ShB w Z b) := by
  have i3 := Lib.hid gZ.info
  have z3 := Lib.hid gZ.1
  have c3 := Lib.hid gZ.2.1
  have G3 := Lib.hid gZ.cells
  have f1 := hf.a
  have f2 := hf.b
  have f3 := hf.a'
  have f4 := hf.b'
  have h1d : decide (s * q < t * p) = true := by simpa using h1
  clear gZ hf
  go_enter Tryz.func59, Tryz.ntmps59
  go_wp2_with fail
  refine name1 (Q := fun W => Calls _ _ _ W _) ?_
  intro W hl hs k1
  refine (H1 W).mono ?_
  rintro e V1 ⟨rfl, l1⟩
  have K1 := k1.later l1
  go_wp2_with (refine wpList_put rfl 35 (.tmp 10) (.tmp 25) (by rfl) (by rfl) w.heap.size (by rfl) Z (by rfl) K1 (by rw [z3.out]; rfl) i3.out c3.out ?_; intro W6 hput6; have KS := hput6.blk; have L6 := hput6.lat w (hl.trans l1) (Nat.le_refl _))
  obtain ⟨u, v, rfl⟩ := G3.out
  have e0 := KS.cell 0
  have e1 := KS.cell 1
  have e2 := KS.cell 2
  have e3 := KS.cell 3
  have e4 := KS.cell 4
  have e5 := KS.cell 5
  have e6 := KS.cell 6
  have e7 := KS.cell 7
  have e8 := KS.cell 8
  have e9 := KS.cell 9
  have e10 := KS.cell 10
  have e11 := KS.cell 11
  have e12 := KS.cell 12
  have e13 := KS.cell 13
  have e14 := KS.cell 14
  have e15 := KS.cell 15
  clear hput6 K1 k1
  refine bodyPost_ret (v := .tuple #[.agg #[.int .u64 u.a0, .int .u64 u.a1, .int .u64 u.a2, .int .u64 u.a3, .int .u64 u.a4, .int .u64 u.a5, .int .u64 u.a6, .int .u64 u.a7, .int .u64 v.a0, .int .u64 v.a1, .int .u64 v.a2, .int .u64 v.a3, .int .u64 v.a4, .int .u64 v.a5, .int .u64 v.a6, .int .u64 v.a7], .bool b]) (by simp [results, Tryz.results59, go_sem, e0, e1, e2, e3, e4, e5, e6, e7, e8, e9, e10, e11, e12, e13, e14, e15]) rfl ?_
  exact ⟨rfl, L6⟩
theorem rMeas_any {m p s q t : Int} (h : PairOk p s q t) (h0 : 11 ≤ m) (h1 : m ≤ 15) (w : World) :
    Calls Tryz.prog 59 #[.int .i64 m, .int .i64 p, .int .i64 s, .int .i64 q, .int .i64 t] w (ShB w (measX m p s q t) (measB m p s q t)) := by
  by_cases hn : s * q < t * p
  · have e : meas m p s q t = meas m q t p s := meas_symm m p s q t
    unfold measX measB
    rw [e]
    exact rMeas_rec m p s q t _ _ (gapX_good _ _) h.pf hn (fun w => rMeas_top h.swap h0 h1 (by omega) w) w
  · exact rMeas_top h h0 h1 hn w

set_option maxRecDepth 100000 in
set_option maxHeartbeats 4000000 in
theorem rHelps_gen (m p s q t c : Int) (X1 X2 : Array Value) (b1 b2 : Bool) (g1 : GoodX X1) (g2 : GoodX X2) (hs0 : -1000000 ≤ s) (hs1 : s ≤ 1000000) (ht0 : -1000000 ≤ t) (ht1 : t ≤ 1000000)
    (H1 : ∀ w, Calls Tryz.prog 59 #[.int .i64 m, .int .i64 p, .int .i64 s, .int .i64 q, .int .i64 t] w (ShB w X1 b1))
    (H2 : ∀ w, Calls Tryz.prog 59 #[.int .i64 m, .int .i64 p, .int .i64 (s - 1), .int .i64 q, .int .i64 (t + 1)] w (ShB w X2 b2))
    (HC : b1 = true → b2 = true → ∀ w, Calls Tryz.prog 120 #[.agg X2, .agg X1] w (fun e w' => e = .returned (.tuple #[.int .i64 c, .int .i64 0]) ∧ Lat w w')) (w : World) :
    Calls Tryz.prog 61 #[.int .i64 m, .int .i64 p, .int .i64 s, .int .i64 q, .int .i64 t] w (fun e w' => e = .returned (.bool (helpB b1 b2 c)) ∧ Lat w w') := by
  have i1 := Lib.hid g1.info
  have i2 := Lib.hid g2.info
  have z1 := Lib.hid g1.1
  have z2 := Lib.hid g2.1
  have c1 := Lib.hid g1.2.1
  have c2 := Lib.hid g2.2.1
  clear g1 g2
  go_enter Tryz.func61, Tryz.ntmps61
  go_wp2_with fail
  refine (H1 w).mono ?_
  rintro e V1 ⟨rfl, L1⟩
  have K0 := Blk.new V1 35 #[.int .u64 W8.zero.a0, .int .u64 W8.zero.a1, .int .u64 W8.zero.a2, .int .u64 W8.zero.a3, .int .u64 W8.zero.a4, .int .u64 W8.zero.a5, .int .u64 W8.zero.a6, .int .u64 W8.zero.a7, .int .u64 W8.zero.a0, .int .u64 W8.zero.a1, .int .u64 W8.zero.a2, .int .u64 W8.zero.a3, .int .u64 W8.zero.a4, .int .u64 W8.zero.a5, .int .u64 W8.zero.a6, .int .u64 W8.zero.a7]
  go_wp2_with (refine wpList_put rfl 35 (.tmp 11) (.tmp 24) (by rfl) (by rfl) V1.heap.size (by rfl) X1 (by rfl) K0 (by rw [z1.out]; rfl) i1.out c1.out ?_; intro W2 hput; have B1 := hput.blk; have L2 := hput.lat w (L1.trans (Lat.alloc _ _)) L1.size; clear hput)
  refine (H2 W2).mono ?_
  rintro e V3 ⟨rfl, l3⟩
  have P2 := B1.later l3
  have K0 := Blk.new V3 35 #[.int .u64 W8.zero.a0, .int .u64 W8.zero.a1, .int .u64 W8.zero.a2, .int .u64 W8.zero.a3, .int .u64 W8.zero.a4, .int .u64 W8.zero.a5, .int .u64 W8.zero.a6, .int .u64 W8.zero.a7, .int .u64 W8.zero.a0, .int .u64 W8.zero.a1, .int .u64 W8.zero.a2, .int .u64 W8.zero.a3, .int .u64 W8.zero.a4, .int .u64 W8.zero.a5, .int .u64 W8.zero.a6, .int .u64 W8.zero.a7]
  have L4 := L2.trans l3
  have hne3 : V1.heap.size ≠ V3.heap.size := by have := P2.lt; omega
  clear B1 L2 l3 H2 H1
  cases b1 with
  | false =>
    cases b2 with
    | false =>
      go_wp2_with (refine wpList_put rfl 35 (.tmp 13) (.tmp 35) (by rfl) (by rfl) V3.heap.size (by rfl) X2 (by rfl) K0 (by rw [z2.out]; rfl) i2.out c2.out ?_; intro W5 hput; have L5 := hput.lat w (L4.trans (Lat.alloc _ _)) L4.size; clear hput)
      go_ret
      exact ⟨rfl, L5⟩
    | true =>
      go_wp2_with (refine wpList_put rfl 35 (.tmp 13) (.tmp 35) (by rfl) (by rfl) V3.heap.size (by rfl) X2 (by rfl) K0 (by rw [z2.out]; rfl) i2.out c2.out ?_; intro W5 hput; have L5 := hput.lat w (L4.trans (Lat.alloc _ _)) L4.size; clear hput)
      go_ret
      exact ⟨rfl, L5⟩
  | true =>
    cases b2 with
    | false =>
      go_wp2_with (refine wpList_put rfl 35 (.tmp 13) (.tmp 35) (by rfl) (by rfl) V3.heap.size (by rfl) X2 (by rfl) K0 (by rw [z2.out]; rfl) i2.out c2.out ?_; intro W5 hput; have L5 := hput.lat w (L4.trans (Lat.alloc _ _)) L4.size; clear hput)
      go_ret
      exact ⟨rfl, L5⟩
    | true =>
      have HC' := HC rfl rfl
      go_wp2_with (first
        | (refine wpList_put rfl 35 (.tmp 13) (.tmp 35) (by rfl) (by rfl) V3.heap.size (by rfl) X2 (by rfl) K0 (by rw [z2.out]; rfl) i2.out c2.out ?_; intro W5 hput; have B5 := hput.blk; have L5 := hput.lat w (L4.trans (Lat.alloc _ _)) L4.size; have Q1 := hput.keep (P2.alloc _) hne3; clear hput)
        | (refine wpList_get (by rfl) 35 (.tmp 13) (by rfl) V3.heap.size (by rfl) B5 _ Tryz.underlying35 rfl i2.out ?_)
        | (refine wpList_get (by rfl) 35 (.tmp 11) (by rfl) V1.heap.size (by rfl) Q1 _ Tryz.underlying35 rfl i1.out ?_))
      refine (HC' W5).mono ?_
      rintro e V6 ⟨rfl, l6⟩
      by_cases hc : c < 0
      · have hd : decide (c < 0) = true := by simpa using hc
        have HB : Hid (helpB true true c = true) := by show _ = _; simp [helpB, hc]
        go_wp2
        go_ret
        exact ⟨by rw [HB.out]; rfl, L5.trans l6⟩
      · have hd : decide (c < 0) = false := by simpa using hc
        have HB : Hid (helpB true true c = false) := by show _ = _; simp [helpB]; omega
        go_wp2
        go_ret
        exact ⟨by rw [HB.out]; rfl, L5.trans l6⟩
theorem rHelpsIn_any {m p s q t : Int} (h : PairOk p s q t) (hs : 1 ≤ s) (ht : t ≤ 1000) (h0 : 11 ≤ m) (h1 : m ≤ 15) (w : World) :
    Calls Tryz.prog 61 #[.int .i64 m, .int .i64 p, .int .i64 s, .int .i64 q, .int .i64 t] w (fun e w' => e = .returned (.bool (helpsF m p s q t)) ∧ Lat w w') := by
  have h' : PairOk p (s - 1) q (t + 1) := by
    obtain ⟨p0, p1, q0, q1, s0, s1, t0, t1⟩ := h
    exact ⟨p0, p1, q0, q1, by omega, by omega, by omega, by omega⟩
  have := rHelps_gen m p s q t (sideOf ((meas m p (s - 1) q (t + 1)).1 * (meas m p s q t).2 - (meas m p s q t).1 * (meas m p (s - 1) q (t + 1)).2)) _ _ _ _ (measX_good m p s q t) (measX_good m p (s - 1) q (t + 1)) (by omega) (by have := h.s1; omega) (by have := h.t0; omega) (by omega)
    (fun w => rMeas_any h h0 h1 w) (fun w => rMeas_any h' h0 h1 w) (fun hb1 hb2 w => by
      have n1 : (meas m p s q t).2 ≠ 0 := by simpa [measB, gapB] using hb1
      have n2 : (meas m p (s - 1) q (t + 1)).2 ≠ 0 := by simpa [measB, gapB] using hb2
      rw [measX, measX, gapX_yes n1, gapX_yes n2]
      exact rCmpX (meas_fits h' n2) (meas_fits h n1) w) w
  rw [help_is] at this
  exact this

set_option maxRecDepth 100000 in
set_option maxHeartbeats 2000000 in
theorem r9Known_any (m p s q t : Int) (w : World) :
    Calls Tryz.prog 58 #[.int .i64 m, .int .i64 p, .int .i64 s, .int .i64 q, .int .i64 t] w (fun e w' => e = .returned (.bool (fKnownB m p s q t)) ∧ w = w') := by
  have HK := rKnown_any m w
  have HB : Hid (fKnownB m p s q t = true ↔ (11 ≤ m ∧ m ≤ 15) ∧ (0 ≤ s ∧ s ≤ 1000 ∧ 0 ≤ t ∧ t ≤ 1000) ∧ 1 ≤ p ∧ p ≤ 1000000000 ∧ 1 ≤ q ∧ q ≤ 1000000000) := fKnown_iff
  obtain ⟨b, hb⟩ : ∃ b, fKnownB m p s q t = b := ⟨_, rfl⟩
  rw [hb] at HB ⊢
  clear hb
  by_cases h0 : 11 ≤ m ∧ m ≤ 15
  · have d0 : decide (11 ≤ m ∧ m ≤ 15) = true := decide_eq_true h0
    rw [d0] at HK
    by_cases h1 : 0 ≤ s
    · skip
      by_cases h2 : s ≤ 1000
      · skip
        by_cases h3 : 0 ≤ t
        · skip
          by_cases h4 : t ≤ 1000
          · skip
            by_cases h5 : 1 ≤ p
            · skip
              by_cases h6 : p ≤ 1000000000
              · skip
                by_cases h7 : 1 ≤ q
                · skip
                  by_cases h8 : q ≤ 1000000000
                  · skip
                    have hF : Hid (b = true) := HB.out.2 ⟨h0, ⟨h1, h2, h3, h4⟩, h5, h6, h7, h8⟩
                    clear HB d0 h0
                    go_enter Tryz.func58, Tryz.ntmps58
                    go_wp2_with fail
                    refine HK.mono ?_
                    rintro e w1 ⟨rfl, rfl⟩
                    go_wp2
                    go_ret
                    exact ⟨by rw [hF.out]; first | rfl | (simp <;> omega), rfl⟩
                  · skip
                    have hF : Hid (b = false) := by
                      show _ = _
                      rw [← Bool.not_eq_true]
                      exact fun hb => h8 (by have hh := HB.out.1 hb; exact hh.2.2.2.2.2)
                    clear HB d0 h0
                    have h8x := Int.not_le.1 h8
                    go_enter Tryz.func58, Tryz.ntmps58
                    go_wp2_with fail
                    refine HK.mono ?_
                    rintro e w1 ⟨rfl, rfl⟩
                    go_wp2
                    go_ret
                    exact ⟨by rw [hF.out]; first | rfl | (simp <;> omega), rfl⟩
                · skip
                  have hF : Hid (b = false) := by
                    show _ = _
                    rw [← Bool.not_eq_true]
                    exact fun hb => h7 (by have hh := HB.out.1 hb; exact hh.2.2.2.2.1)
                  clear HB d0 h0
                  have h7x := Int.not_le.1 h7
                  go_enter Tryz.func58, Tryz.ntmps58
                  go_wp2_with fail
                  refine HK.mono ?_
                  rintro e w1 ⟨rfl, rfl⟩
                  go_wp2
                  go_ret
                  exact ⟨by rw [hF.out]; first | rfl | (simp <;> omega), rfl⟩
              · skip
                have hF : Hid (b = false) := by
                  show _ = _
                  rw [← Bool.not_eq_true]
                  exact fun hb => h6 (by have hh := HB.out.1 hb; exact hh.2.2.2.1)
                clear HB d0 h0
                have h6x := Int.not_le.1 h6
                go_enter Tryz.func58, Tryz.ntmps58
                go_wp2_with fail
                refine HK.mono ?_
                rintro e w1 ⟨rfl, rfl⟩
                go_wp2
                go_ret
                exact ⟨by rw [hF.out]; first | rfl | (simp <;> omega), rfl⟩
            · skip
              have hF : Hid (b = false) := by
                show _ = _
                rw [← Bool.not_eq_true]
                exact fun hb => h5 (by have hh := HB.out.1 hb; exact hh.2.2.1)
              clear HB d0 h0
              have h5x := Int.not_le.1 h5
              go_enter Tryz.func58, Tryz.ntmps58
              go_wp2_with fail
              refine HK.mono ?_
              rintro e w1 ⟨rfl, rfl⟩
              go_wp2
              go_ret
              exact ⟨by rw [hF.out]; first | rfl | (simp <;> omega), rfl⟩
          · skip
            have hF : Hid (b = false) := by
              show _ = _
              rw [← Bool.not_eq_true]
              exact fun hb => h4 (by have hh := HB.out.1 hb; exact hh.2.1.2.2.2)
            clear HB d0 h0
            have h4x := Int.not_le.1 h4
            go_enter Tryz.func58, Tryz.ntmps58
            go_wp2_with fail
            refine HK.mono ?_
            rintro e w1 ⟨rfl, rfl⟩
            go_wp2
            go_ret
            exact ⟨by rw [hF.out]; first | rfl | (simp <;> omega), rfl⟩
        · skip
          have hF : Hid (b = false) := by
            show _ = _
            rw [← Bool.not_eq_true]
            exact fun hb => h3 (by have hh := HB.out.1 hb; exact hh.2.1.2.2.1)
          clear HB d0 h0
          have h3x := Int.not_le.1 h3
          go_enter Tryz.func58, Tryz.ntmps58
          go_wp2_with fail
          refine HK.mono ?_
          rintro e w1 ⟨rfl, rfl⟩
          go_wp2
          go_ret
          exact ⟨by rw [hF.out]; first | rfl | (simp <;> omega), rfl⟩
      · skip
        have hF : Hid (b = false) := by
          show _ = _
          rw [← Bool.not_eq_true]
          exact fun hb => h2 (by have hh := HB.out.1 hb; exact hh.2.1.2.1)
        clear HB d0 h0
        have h2x := Int.not_le.1 h2
        go_enter Tryz.func58, Tryz.ntmps58
        go_wp2_with fail
        refine HK.mono ?_
        rintro e w1 ⟨rfl, rfl⟩
        go_wp2
        go_ret
        exact ⟨by rw [hF.out]; first | rfl | (simp <;> omega), rfl⟩
    · skip
      have hF : Hid (b = false) := by
        show _ = _
        rw [← Bool.not_eq_true]
        exact fun hb => h1 (by have hh := HB.out.1 hb; exact hh.2.1.1)
      clear HB d0 h0
      have h1x := Int.not_le.1 h1
      go_enter Tryz.func58, Tryz.ntmps58
      go_wp2_with fail
      refine HK.mono ?_
      rintro e w1 ⟨rfl, rfl⟩
      go_wp2
      go_ret
      exact ⟨by rw [hF.out]; first | rfl | (simp <;> omega), rfl⟩
  · have d0 : decide (11 ≤ m ∧ m ≤ 15) = false := decide_eq_false h0
    rw [d0] at HK
    have hF : Hid (b = false) := by
      show _ = _
      rw [← Bool.not_eq_true]
      exact fun hb => h0 (HB.out.1 hb).1
    clear HB d0 h0
    go_enter Tryz.func58, Tryz.ntmps58
    go_wp2_with fail
    refine HK.mono ?_
    rintro e w1 ⟨rfl, rfl⟩
    go_wp2
    go_ret
    exact ⟨by rw [hF.out]; first | rfl | (simp <;> omega), rfl⟩

set_option maxRecDepth 100000 in
set_option maxHeartbeats 2000000 in
theorem rMeasure_any (m p s q t : Int) (w : World) :
    Calls Tryz.prog 17 #[.int .i64 m, .int .i64 p, .int .i64 s, .int .i64 q, .int .i64 t] w (ShR w (mX m p s q t) (mE m p s q t)) := by
  have HK := r9Known_any m p s q t
  have i0 := Lib.hid zA_good.info
  cases hk : fKnownB m p s q t with
  | false =>
    have e1 : mX m p s q t = zA := by rw [mX, if_neg (by simp [hk])]
    have e2 : mE m p s q t = 2 := by rw [mE, if_neg (by simp [hk])]
    rw [e1, e2]
    simp only [hk] at HK
    clear e1 e2 hk
    go_enter Tryz.func17, Tryz.ntmps17
    go_wp2_with fail
    refine name1 (Q := fun W => Calls _ _ _ W _) ?_
    intro W hl hs k1
    refine (HK W).mono ?_
    rintro e w1 ⟨rfl, rfl⟩
    go_wp2_with (refine wpList_put rfl 35 (.tmp 10) (.tmp 21) (by rfl) (by rfl) w.heap.size (by rfl) zA (by rfl) k1 (by rfl) i0.out zA_good.2.1 ?_; intro W6 hput6; have KS := hput6.blk; have L6 := hput6.lat w hl (Nat.le_refl _))
    have e0 := KS.cell 0
    have e1 := KS.cell 1
    have e2 := KS.cell 2
    have e3 := KS.cell 3
    have e4 := KS.cell 4
    have e5 := KS.cell 5
    have e6 := KS.cell 6
    have e7 := KS.cell 7
    have e8 := KS.cell 8
    have e9 := KS.cell 9
    have e10 := KS.cell 10
    have e11 := KS.cell 11
    have e12 := KS.cell 12
    have e13 := KS.cell 13
    have e14 := KS.cell 14
    have e15 := KS.cell 15
    clear hput6 k1
    refine bodyPost_ret (v := .tuple #[.agg zA, .int .i64 2]) (by simp [results, Tryz.results17, go_sem, zA, W8.zero, e0, e1, e2, e3, e4, e5, e6, e7, e8, e9, e10, e11, e12, e13, e14, e15]) rfl ?_
    exact ⟨rfl, L6⟩
  | true =>
    obtain ⟨hm, hp, _, _⟩ := fKnown_pair hk
    have HI := rMeas_any (m := m) hp hm.1 hm.2
    have e1 : mX m p s q t = measX m p s q t := by rw [mX, if_pos hk]
    have e2 : mE m p s q t = if (meas m p s q t).2 = 0 then 7 else 0 := by rw [mE, if_pos hk]
    have gX := measX_good m p s q t
    rw [e1, e2]
    simp only [hk] at HK
    by_cases hD : (meas m p s q t).2 = 0
    · have e3 : measX m p s q t = zA := by rw [measX, hD, gapX_no]
      have e4 : measB m p s q t = false := by rw [measB, hD]; rfl
      rw [if_pos hD]
      rw [e3] at HI ⊢
      rw [e4] at HI
      clear e1 e2 e3 e4 gX hD hp hm hk
      go_enter Tryz.func17, Tryz.ntmps17
      go_wp2_with fail
      refine name1 (Q := fun W => Calls _ _ _ W _) ?_
      intro W hl hs k1
      refine (HK W).mono ?_
      rintro e w1 ⟨rfl, rfl⟩
      go_wp2_with fail
      refine (HI W).mono ?_
      rintro e V3 ⟨rfl, l3⟩
      have K1 := k1.later l3
      have L3 := hl.trans l3
      have hlt := K1.lt
      have K0 := Blk.new V3 35 #[.int .u64 W8.zero.a0, .int .u64 W8.zero.a1, .int .u64 W8.zero.a2, .int .u64 W8.zero.a3, .int .u64 W8.zero.a4, .int .u64 W8.zero.a5, .int .u64 W8.zero.a6, .int .u64 W8.zero.a7, .int .u64 W8.zero.a0, .int .u64 W8.zero.a1, .int .u64 W8.zero.a2, .int .u64 W8.zero.a3, .int .u64 W8.zero.a4, .int .u64 W8.zero.a5, .int .u64 W8.zero.a6, .int .u64 W8.zero.a7]
      go_wp2_with (first
        | (refine wpList_put rfl 35 (.tmp 12) (.tmp 29) (by rfl) (by rfl) V3.heap.size (by rfl) zA (by rfl) K0 (by rfl) i0.out zA_good.2.1 ?_; intro W5 hput; have L5 := hput.lat w (L3.trans (Lat.alloc _ _)) L3.size; have Q1 := hput.keep (K1.alloc _) (by omega))
        | (refine wpList_put rfl 35 (.tmp 10) (.tmp 33) (by rfl) (by rfl) w.heap.size (by rfl) zA (by rfl) Q1 (by rfl) i0.out zA_good.2.1 ?_; intro W6 hput6; have KS := hput6.blk; have L6 := hput6.lat w L5 (Nat.le_refl _)))
      have e0 := KS.cell 0
      have e1 := KS.cell 1
      have e2 := KS.cell 2
      have e3 := KS.cell 3
      have e4 := KS.cell 4
      have e5 := KS.cell 5
      have e6 := KS.cell 6
      have e7 := KS.cell 7
      have e8 := KS.cell 8
      have e9 := KS.cell 9
      have e10 := KS.cell 10
      have e11 := KS.cell 11
      have e12 := KS.cell 12
      have e13 := KS.cell 13
      have e14 := KS.cell 14
      have e15 := KS.cell 15
      clear hput6 hput K1 k1 Q1 K0
      refine bodyPost_ret (v := .tuple #[.agg zA, .int .i64 7]) (by simp [results, Tryz.results17, go_sem, zA, W8.zero, e0, e1, e2, e3, e4, e5, e6, e7, e8, e9, e10, e11, e12, e13, e14, e15]) rfl ?_
      exact ⟨rfl, L6⟩
    · have e4 : measB m p s q t = true := by rw [measB, gapB_yes hD]
      rw [if_neg hD]
      obtain ⟨X, hX⟩ : ∃ X, measX m p s q t = X := ⟨_, rfl⟩
      rw [hX] at HI gX ⊢
      rw [e4] at HI
      have i3 := Lib.hid gX.info
      have z3 := Lib.hid gX.1
      have c3 := Lib.hid gX.2.1
      have G3 := Lib.hid gX.cells
      clear e1 e2 e4 gX hD hp hm hX hk
      go_enter Tryz.func17, Tryz.ntmps17
      go_wp2_with fail
      refine name1 (Q := fun W => Calls _ _ _ W _) ?_
      intro W hl hs k1
      refine (HK W).mono ?_
      rintro e w1 ⟨rfl, rfl⟩
      go_wp2_with fail
      refine (HI W).mono ?_
      rintro e V3 ⟨rfl, l3⟩
      have K1 := k1.later l3
      have L3 := hl.trans l3
      have hlt := K1.lt
      have K0 := Blk.new V3 35 #[.int .u64 W8.zero.a0, .int .u64 W8.zero.a1, .int .u64 W8.zero.a2, .int .u64 W8.zero.a3, .int .u64 W8.zero.a4, .int .u64 W8.zero.a5, .int .u64 W8.zero.a6, .int .u64 W8.zero.a7, .int .u64 W8.zero.a0, .int .u64 W8.zero.a1, .int .u64 W8.zero.a2, .int .u64 W8.zero.a3, .int .u64 W8.zero.a4, .int .u64 W8.zero.a5, .int .u64 W8.zero.a6, .int .u64 W8.zero.a7]
      go_wp2_with (first
        | (refine wpList_put rfl 35 (.tmp 12) (.tmp 29) (by rfl) (by rfl) V3.heap.size (by rfl) X (by rfl) K0 (by rw [z3.out]; rfl) i3.out c3.out ?_; intro W5 hput; have KX := hput.blk; have L5 := hput.lat w (L3.trans (Lat.alloc _ _)) L3.size; have Q1 := hput.keep (K1.alloc _) (by omega))
        | (refine wpList_get (by rfl) 35 (.tmp 12) (by rfl) V3.heap.size (by rfl) KX _ Tryz.underlying35 rfl i3.out ?_)
        | (refine wpList_put rfl 35 (.tmp 10) (.tmp 34) (by rfl) (by rfl) w.heap.size (by rfl) X (by rfl) Q1 (by rw [z3.out]; rfl) i3.out c3.out ?_; intro W6 hput6; have KS := hput6.blk; have L6 := hput6.lat w L5 (Nat.le_refl _)))
      obtain ⟨u, v, rfl⟩ := G3.out
      have e0 := KS.cell 0
      have e1 := KS.cell 1
      have e2 := KS.cell 2
      have e3 := KS.cell 3
      have e4 := KS.cell 4
      have e5 := KS.cell 5
      have e6 := KS.cell 6
      have e7 := KS.cell 7
      have e8 := KS.cell 8
      have e9 := KS.cell 9
      have e10 := KS.cell 10
      have e11 := KS.cell 11
      have e12 := KS.cell 12
      have e13 := KS.cell 13
      have e14 := KS.cell 14
      have e15 := KS.cell 15
      clear hput6 hput K1 k1 Q1 K0 KX
      refine bodyPost_ret (v := .tuple #[.agg #[.int .u64 u.a0, .int .u64 u.a1, .int .u64 u.a2, .int .u64 u.a3, .int .u64 u.a4, .int .u64 u.a5, .int .u64 u.a6, .int .u64 u.a7, .int .u64 v.a0, .int .u64 v.a1, .int .u64 v.a2, .int .u64 v.a3, .int .u64 v.a4, .int .u64 v.a5, .int .u64 v.a6, .int .u64 v.a7], .int .i64 0]) (by simp [results, Tryz.results17, go_sem, e0, e1, e2, e3, e4, e5, e6, e7, e8, e9, e10, e11, e12, e13, e14, e15]) rfl ?_
      exact ⟨rfl, L6⟩

set_option maxHeartbeats 1000000 in
theorem rHelps9_any (m p s q t : Int) (w : World) :
    Calls Tryz.prog 19 #[.int .i64 m, .int .i64 p, .int .i64 s, .int .i64 q, .int .i64 t] w (fun e w' => e = .returned (.tuple #[.bool (mvH m p s q t), .int .i64 (mvE m p s q t)]) ∧ Lat w w') := by
  have HK := r9Known_any m p s q t
  cases hk : fKnownB m p s q t with
  | false =>
    have e0 : mvB m p s q t = false := by rw [mvB, hk]; rfl
    have e1 : mvH m p s q t = false := by rw [mvH, e0]; rfl
    have e2 : mvE m p s q t = 2 := by rw [mvE, if_neg (by simp [e0])]
    rw [e1, e2]
    simp only [hk] at HK
    clear e0 e1 e2 hk
    go_enter Tryz.func19, Tryz.ntmps19
    go_wp2_with fail
    refine (HK w).mono ?_
    rintro e w1 ⟨rfl, rfl⟩
    go_wp2
    go_ret2
    exact ⟨rfl, Lat.refl _⟩
  | true =>
    obtain ⟨hm, hp, hs3, ht3⟩ := fKnown_pair hk
    simp only [hk] at HK
    cases hs : ((s : Int) == 0) with
    | true =>
      have e0 : mvB m p s q t = false := by rw [mvB, hs]; simp
      have e1 : mvH m p s q t = false := by rw [mvH, e0]; rfl
      have e2 : mvE m p s q t = 2 := by rw [mvE, if_neg (by simp [e0])]
      rw [e1, e2]
      clear e0 e1 e2 hk hm hp hs3 ht3
      go_enter Tryz.func19, Tryz.ntmps19
      go_wp2_with fail
      refine (HK w).mono ?_
      rintro e w1 ⟨rfl, rfl⟩
      go_wp2
      go_ret2
      exact ⟨rfl, Lat.refl _⟩
    | false =>
      cases ht : ((t : Int) == 1000) with
      | true =>
        have e0 : mvB m p s q t = false := by rw [mvB, ht]; simp
        have e1 : mvH m p s q t = false := by rw [mvH, e0]; rfl
        have e2 : mvE m p s q t = 2 := by rw [mvE, if_neg (by simp [e0])]
        rw [e1, e2]
        clear e0 e1 e2 hk hm hp hs3 ht3
        go_enter Tryz.func19, Tryz.ntmps19
        go_wp2_with fail
        refine (HK w).mono ?_
        rintro e w1 ⟨rfl, rfl⟩
        go_wp2
        go_ret2
        exact ⟨rfl, Lat.refl _⟩
      | false =>
        have e0 : mvB m p s q t = true := by rw [mvB, hk, hs, ht]; rfl
        have e1 : mvH m p s q t = helpsF m p s q t := by rw [mvH, e0]; rfl
        have e2 : mvE m p s q t = 0 := by rw [mvE, if_pos e0]
        have hs' : s ≠ 0 := by simpa using hs
        have ht' : t ≠ 1000 := by simpa using ht
        have HH := rHelpsIn_any (m := m) hp (by have := hp.s0; omega) (by omega) hm.1 hm.2
        rw [e1, e2]
        obtain ⟨hb, hhb⟩ : ∃ b, helpsF m p s q t = b := ⟨_, rfl⟩
        rw [hhb] at HH ⊢
        clear e0 e1 e2 hk hm hp hs3 ht3 hs' ht' hhb
        go_enter Tryz.func19, Tryz.ntmps19
        go_wp2_with fail
        refine (HK w).mono ?_
        rintro e w1 ⟨rfl, rfl⟩
        go_wp2_with fail
        refine (HH w).mono ?_
        rintro e w2 ⟨rfl, l2⟩
        go_wp2
        go_ret2
        exact ⟨rfl, l2⟩

end Go.Proofs.YtkiaaefkobfkgaaGreat
