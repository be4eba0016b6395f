/- Fair: the gap of two fractions. -/
import Derived.Test.YtkiaaefkobfkgaaGreatFrA
import Derived.Test.YtkiaaefkobfkgaaGreatShY
namespace Go.Proofs.YtkiaaefkobfkgaaGreat
open Go.RowKit
set_option linter.unusedSimpArgs false

/-- The words of a fraction that may have nothing below. -/
def gapX (N D : Int) : Array Value := if D = 0 then zA else shA N D
def gapB (D : Int) : Bool := !(D == 0)
theorem gapX_yes {N D : Int} (h : D ≠ 0) : gapX N D = shA N D := by rw [gapX, if_neg h]
theorem gapX_no (N : Int) : gapX N 0 = zA := by rw [gapX, if_pos rfl]
theorem gapB_yes {D : Int} (h : D ≠ 0) : gapB D = true := by simp [gapB, h]
theorem gapB_no : gapB 0 = false := rfl
theorem gapX_good (N D : Int) : GoodX (gapX N D) := by unfold gapX; split; exact zA_good; exact shA_good _ _
/-- What a call leaves that returns words of a fraction, if there is one. -/
def GapR (w : World) (N D : Int) (e : Ending) (w' : World) : Prop := e = .returned (.tuple #[.agg (gapX N D), .bool (gapB D)]) ∧ Lat w w'

theorem GoodX.cells {X : Array Value} (h : GoodX X) : ∃ u v : W8, X = #[.int .u64 u.a0, .int .u64 u.a1, .int .u64 u.a2, .int .u64 u.a3, .int .u64 u.a4, .int .u64 u.a5, .int .u64 u.a6, .int .u64 u.a7, .int .u64 v.a0, .int .u64 v.a1, .int .u64 v.a2, .int .u64 v.a3, .int .u64 v.a4, .int .u64 v.a5, .int .u64 v.a6, .int .u64 v.a7] := by obtain ⟨_, _, u, v, _, _, h⟩ := h; exact ⟨u, v, h⟩

set_option maxRecDepth 100000 in
set_option maxHeartbeats 4000000 in
theorem fGap_none (a b c d : Int) (w : World) (h0 : b * d = 0) (hb0 : -9223372036854775808 ≤ b) (hb1 : b ≤ 9223372036854775807) :
    Calls Tryz.prog 71 #[.int .i64 a, .int .i64 b, .int .i64 c, .int .i64 d] w (GapR w (a * d - c * b) (b * d)) := by
  rw [h0]
  have e0 : gapX (a * d - c * b) 0 = zA := gapX_no _
  unfold GapR
  rw [e0, gapB_no]
  have HP : ∀ (w : World) (g : Nat), Blk w g 3 #[.int .i64 b, .int .i64 d] → Calls Tryz.prog 72 #[.slice (some ⟨g, 0, none⟩) 2 2] w (fun e w' => e = .returned (.int .i64 0) ∧ w = w') := fun w g hk => by
    have := fProduct_any b d g 2 _ w hk hb0 hb1 (by omega) (by omega)
    rw [h0] at this
    exact this
  clear h0 hb0 hb1 e0
  go_enter Tryz.func71, Tryz.ntmps71
  go_wp2_with fail
  refine name2 (Q := fun W => Calls _ _ _ W _) ?_
  intro W hl hs k1 k2
  refine (HP W _ k2).mono ?_
  rintro e w1 ⟨rfl, rfl⟩
  have e0 := k1.cell 0
  have e1 := k1.cell 1
  have e2 := k1.cell 2
  have e3 := k1.cell 3
  have e4 := k1.cell 4
  have e5 := k1.cell 5
  have e6 := k1.cell 6
  have e7 := k1.cell 7
  have e8 := k1.cell 8
  have e9 := k1.cell 9
  have e10 := k1.cell 10
  have e11 := k1.cell 11
  have e12 := k1.cell 12
  have e13 := k1.cell 13
  have e14 := k1.cell 14
  have e15 := k1.cell 15
  have f0 := k1.frozen 0
  have f1 := k1.frozen 1
  have f2 := k1.frozen 2
  have f3 := k1.frozen 3
  have f4 := k1.frozen 4
  have f5 := k1.frozen 5
  have f6 := k1.frozen 6
  have f7 := k1.frozen 7
  have f8 := k1.frozen 8
  have f9 := k1.frozen 9
  have f10 := k1.frozen 10
  have f11 := k1.frozen 11
  have f12 := k1.frozen 12
  have f13 := k1.frozen 13
  have f14 := k1.frozen 14
  have f15 := k1.frozen 15
  go_wp2
  refine bodyPost_ret (v := .tuple #[.agg zA, .bool false]) (by simp [results, Tryz.results71, go_sem, zA, W8.zero, e0, e1, e2, e3, e4, e5, e6, e7, e8, e9, e10, e11, e12, e13, e14, e15]) rfl ?_
  refine ⟨rfl, ?_⟩
  iterate 16 (refine Lat.setCell ?_ (by simp; try omega) _)
  exact hl

set_option maxRecDepth 100000 in
set_option maxHeartbeats 4000000 in
theorem fGap_some (a b c d : Int) (w : World) (hb : 0 < b) (hd : 0 < d) (hbd : b * d ≤ 9223372036854775807) (ha0 : -9223372036854775808 ≤ a) (ha1 : a ≤ 9223372036854775807) (hc0 : -9223372036854775808 ≤ c) (hc1 : c ≤ 9223372036854775807) (hF : Fits (a * d - c * b) (b * d)) :
    Calls Tryz.prog 71 #[.int .i64 a, .int .i64 b, .int .i64 c, .int .i64 d] w (GapR w (a * d - c * b) (b * d)) := by
  have p1 : b ≤ b * d := by have := Int.mul_le_mul_of_nonneg_left (show 1 ≤ d by omega) (show 0 ≤ b by omega); omega
  have p2 : d ≤ b * d := by have := Int.mul_le_mul_of_nonneg_right (show 1 ≤ b by omega) (show 0 ≤ d by omega); omega
  have hD : b * d ≠ 0 := by have := Int.mul_pos hb hd; omega
  have F1 : Fits a b := fits_small hb (by omega) ha0 ha1
  have F2 : Fits c d := fits_small hd (by omega) hc0 hc1
  have HO1 := fun w => shOfX a b w hb (by omega) ha0 ha1
  have HO2 := fun w => shOfX c d w hd (by omega) hc0 hc1
  have HS := fun w => shSubX F1 F2 hF w
  have G1 := shA_good a b
  have G2 := shA_good c d
  have G3 := shA_good (a * d - c * b) (b * d)
  unfold GapR
  rw [gapX_yes hD, gapB_yes hD]
  obtain ⟨X1, hX1⟩ : ∃ X, shA a b = X := ⟨_, rfl⟩
  obtain ⟨X2, hX2⟩ : ∃ X, shA c d = X := ⟨_, rfl⟩
  obtain ⟨X3, hX3⟩ : ∃ X, shA (a * d - c * b) (b * d) = X := ⟨_, rfl⟩
  rw [hX1] at HO1 HS G1
  rw [hX2] at HO2 HS G2
  rw [hX3] at HS G3 ⊢
  have HP : ∀ (w : World) (g : Nat), Blk w g 3 #[.int .i64 b, .int .i64 d] → Calls Tryz.prog 72 #[.slice (some ⟨g, 0, none⟩) 2 2] w (fun e w' => e = .returned (.int .i64 (b * d)) ∧ w = w') := fun w g hk =>
    fProduct_any b d g 2 _ w hk (by omega) (by omega) (by omega) (by omega)
  obtain ⟨D, hDD⟩ : ∃ D, b * d = D := ⟨_, rfl⟩
  rw [hDD] at HP hD
  have hz : ((D : Int) == 0) = false := by simpa using hD
  have i1 := Lib.hid G1.info
  have i2 := Lib.hid G2.info
  have i3 := Lib.hid G3.info
  have z1 := Lib.hid G1.1
  have z2 := Lib.hid G2.1
  have z3 := Lib.hid G3.1
  have c1 := Lib.hid G1.2.1
  have c2 := Lib.hid G2.2.1
  have c3 := Lib.hid G3.2.1
  have G3' := Lib.hid G3.cells
  clear G1 G2 G3 hX1 hX2 hX3 hDD hb hd hbd ha0 ha1 hc0 hc1 hF p1 p2 hD F1 F2
  go_enter Tryz.func71, Tryz.ntmps71
  go_wp2_with fail
  refine name2 (Q := fun W => Calls _ _ _ W _) ?_
  intro W hl hs k1 k2
  refine (HP W _ k2).mono ?_
  rintro e w1 ⟨rfl, rfl⟩
  clear HP k2
  go_wp2_with fail
  refine (HO1 W).mono ?_
  rintro e V1 ⟨rfl, l1⟩
  have K0 := Blk.new V1 35 #[.int .u64 W8.zero.a0, .int .u64 W8.zero.a1, .int .u64 W8.zero.a2, .int .u64 W8.zero.a3, .int .u64 W8.zero.a4, .int .u64 W8.zero.a5, .int .u64 W8.zero.a6, .int .u64 W8.zero.a7, .int .u64 W8.zero.a0, .int .u64 W8.zero.a1, .int .u64 W8.zero.a2, .int .u64 W8.zero.a3, .int .u64 W8.zero.a4, .int .u64 W8.zero.a5, .int .u64 W8.zero.a6, .int .u64 W8.zero.a7]
  go_wp2_with (refine wpList_put rfl 35 (.tmp 10) (.tmp 26) (by rfl) (by rfl) V1.heap.size (by rfl) X1 (by rfl) K0 (by rw [z1.out]; rfl) i1.out c1.out ?_; intro W2 hput; have B1 := hput.blk; have m1 := hput.lat W (l1.trans (Lat.alloc _ _)) (by have := l1.size; omega))
  have L2 := hl.trans m1
  have k3 := k1.later m1
  clear K0 hput l1 m1 HO1 k1 hl
  refine (HO2 W2).mono ?_
  rintro e V2 ⟨rfl, l2⟩
  have K0 := Blk.new V2 35 #[.int .u64 W8.zero.a0, .int .u64 W8.zero.a1, .int .u64 W8.zero.a2, .int .u64 W8.zero.a3, .int .u64 W8.zero.a4, .int .u64 W8.zero.a5, .int .u64 W8.zero.a6, .int .u64 W8.zero.a7, .int .u64 W8.zero.a0, .int .u64 W8.zero.a1, .int .u64 W8.zero.a2, .int .u64 W8.zero.a3, .int .u64 W8.zero.a4, .int .u64 W8.zero.a5, .int .u64 W8.zero.a6, .int .u64 W8.zero.a7]
  go_wp2_with (first
    | (refine wpList_put rfl 35 (.tmp 12) (.tmp 32) (by rfl) (by rfl) V2.heap.size (by rfl) X2 (by rfl) K0 (by rw [z2.out]; rfl) i2.out c2.out ?_; intro W3 hput; have B2 := hput.blk; have m2 := hput.lat W2 (l2.trans (Lat.alloc _ _)) (by have := l2.size; omega); have B1 := B1.later m2)
    | (refine wpList_get rfl 35 (.tmp 10) (by rfl) V1.heap.size (by rfl) B1 _ Tryz.underlying35 rfl i1.out ?_)
    | (refine wpList_get rfl 35 (.tmp 12) (by rfl) V2.heap.size (by rfl) B2 _ Tryz.underlying35 rfl i2.out ?_))
  have L3 := L2.trans m2
  have k4 := k3.later m2
  clear K0 hput l2 m2 HO2 k3 L2 B1 B2
  refine (HS W3).mono ?_
  rintro e V3 ⟨rfl, l3⟩
  have K0 := Blk.new V3 35 #[.int .u64 W8.zero.a0, .int .u64 W8.zero.a1, .int .u64 W8.zero.a2, .int .u64 W8.zero.a3, .int .u64 W8.zero.a4, .int .u64 W8.zero.a5, .int .u64 W8.zero.a6, .int .u64 W8.zero.a7, .int .u64 W8.zero.a0, .int .u64 W8.zero.a1, .int .u64 W8.zero.a2, .int .u64 W8.zero.a3, .int .u64 W8.zero.a4, .int .u64 W8.zero.a5, .int .u64 W8.zero.a6, .int .u64 W8.zero.a7]
  have k5 := (k4.later l3).alloc (.cells #[.int .u64 W8.zero.a0, .int .u64 W8.zero.a1, .int .u64 W8.zero.a2, .int .u64 W8.zero.a3, .int .u64 W8.zero.a4, .int .u64 W8.zero.a5, .int .u64 W8.zero.a6, .int .u64 W8.zero.a7, .int .u64 W8.zero.a0, .int .u64 W8.zero.a1, .int .u64 W8.zero.a2, .int .u64 W8.zero.a3, .int .u64 W8.zero.a4, .int .u64 W8.zero.a5, .int .u64 W8.zero.a6, .int .u64 W8.zero.a7] 35)
  have hne : w.heap.size ≠ V3.heap.size := by have := (k4.later l3).lt; omega
  go_wp2_with (first
    | (refine wpList_put rfl 35 (.tmp 14) (.tmp 38) (by rfl) (by rfl) V3.heap.size (by rfl) X3 (by rfl) K0 (by rw [z3.out]; rfl) i3.out c3.out ?_; intro W4 hput; have B3 := hput.blk; have m3 := hput.lat W3 (l3.trans (Lat.alloc _ _)) (by have := l3.size; omega); have k6 := hput.keep k5 hne)
    | (refine wpList_get rfl 35 (.tmp 14) (by rfl) V3.heap.size (by rfl) B3 _ Tryz.underlying35 rfl i3.out ?_)
    | (refine wpList_put rfl 35 (.tmp 8) (.tmp 40) (by rfl) (by rfl) w.heap.size (by rfl) X3 (by rfl) k6 (by rw [z3.out]; rfl) i3.out c3.out ?_; intro W5 hput5; have KS := hput5.blk; have L5 := hput5.lat w (L3.trans m3) (Nat.le_refl _)))
  obtain ⟨u, v, rfl⟩ := G3'.out
  have e0 := KS.cell 0
  have e1 := KS.cell 1
  have e2 := KS.cell 2
  have e3 := KS.cell 3
  have e4 := KS.cell 4
  have e5 := KS.cell 5
  have e6 := KS.cell 6
  have e7 := KS.cell 7
  have e8 := KS.cell 8
  have e9 := KS.cell 9
  have e10 := KS.cell 10
  have e11 := KS.cell 11
  have e12 := KS.cell 12
  have e13 := KS.cell 13
  have e14 := KS.cell 14
  have e15 := KS.cell 15
  clear hput hput5 K0 k5 k6 B3
  refine bodyPost_ret (v := .tuple #[.agg #[.int .u64 u.a0, .int .u64 u.a1, .int .u64 u.a2, .int .u64 u.a3, .int .u64 u.a4, .int .u64 u.a5, .int .u64 u.a6, .int .u64 u.a7, .int .u64 v.a0, .int .u64 v.a1, .int .u64 v.a2, .int .u64 v.a3, .int .u64 v.a4, .int .u64 v.a5, .int .u64 v.a6, .int .u64 v.a7], .bool true]) (by simp [results, Tryz.results71, go_sem, e0, e1, e2, e3, e4, e5, e6, e7, e8, e9, e10, e11, e12, e13, e14, e15]) rfl ?_
  exact ⟨rfl, L5⟩
end Go.Proofs.YtkiaaefkobfkgaaGreat
