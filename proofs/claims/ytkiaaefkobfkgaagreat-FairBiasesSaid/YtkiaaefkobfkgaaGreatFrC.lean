/- Fair: the five inequalities of the favoured side, excess, turned. -/
import Derived.Test.YtkiaaefkobfkgaaGreatFrB
namespace Go.Proofs.YtkiaaefkobfkgaaGreat
open Go.RowKit
set_option linter.unusedSimpArgs false

theorem LatS.alloc {W w : World} {gs : List Nat} (h : LatS W gs w) (o : Obj) : LatS W gs (w.alloc o) :=
  ⟨Nat.le_trans h.1 (Lat.alloc w o).size, fun k hk hn => (Below.heap_alloc w o k (Nat.lt_of_lt_of_le hk h.1)).trans (h.2 k hk hn)⟩
theorem Blk.newD (w : World) (t : TypeId) (cs : Array Value) : Blk (w.alloc (.cells cs t)).drew w.heap.size t cs := Blk.new w t cs
theorem Blk.newE (w : World) (o : Obj) (t : TypeId) (cs : Array Value) : Blk ((w.alloc o).alloc (.cells cs t)).drew (w.heap.size + 1) t cs := by
  have := Blk.new (w.alloc o) t cs
  rw [show (w.alloc o).heap.size = w.heap.size + 1 by simp] at this
  exact this
theorem Blk.newF (w : World) (o : Obj) (t : TypeId) (cs : Array Value) : Blk ((w.alloc (.cells cs t)).alloc o).drew w.heap.size t cs := (Blk.new w t cs).alloc o
theorem LatS.drew {W w : World} {gs : List Nat} (h : LatS W gs w) : LatS W gs w.drew := h
/-- The cells of a side. -/
def sideC (p s q t : Int) : Array Value := #[.int .i64 p, .int .i64 s, .int .i64 q, .int .i64 t]
/-- What a call leaves that returns words of a share, and whether there is one. -/
def ShB (w : World) (X : Array Value) (b : Bool) (e : Ending) (w' : World) : Prop := e = .returned (.tuple #[.agg X, .bool b]) ∧ Lat w w'
theorem GapR.b {w w' : World} {N D : Int} {e : Ending} (h : GapR w N D e w') : ShB w (gapX N D) (gapB D) e w' := h

set_option maxHeartbeats 1000000 in
theorem fExcess_any (p s q t : Int) (w : World) (h0 : -1000000000000000 ≤ s * q) (h1 : s * q ≤ 1000000000000000) (h2 : -1000000000000000 ≤ t * p) (h3 : t * p ≤ 1000000000000000) :
    Calls Tryz.prog 112 #[.agg (sideC p s q t)] w (fun e w' => e = .returned (.int .i64 (s * q - t * p)) ∧ Lat w w') := by
  unfold sideC
  have w1 : wrap64 (s * q) = s * q := IntWalk.wrap64_in _ (by omega)
  have w2 : wrap64 (t * p) = t * p := IntWalk.wrap64_in _ (by omega)
  have w1' : IntKind.i64.wrap (s * q) = s * q := IntWalk.i64_in _ (by omega)
  have w2' : IntKind.i64.wrap (t * p) = t * p := IntWalk.i64_in _ (by omega)
  have w3 : wrap64 (s * q - t * p) = s * q - t * p := IntWalk.wrap64_in _ (by omega)
  have w3' : IntKind.i64.wrap (s * q - t * p) = s * q - t * p := IntWalk.i64_in _ (by omega)
  clear h0 h1 h2 h3
  go_enter Tryz.func112, Tryz.ntmps112
  go_wp2
  go_ret
  exact ⟨rfl, Lat.alloc _ _⟩
set_option maxHeartbeats 1000000 in
theorem fTurned_any (p s q t : Int) (w : World) :
    Calls Tryz.prog 113 #[.agg (sideC p s q t)] w (fun e w' => e = .returned (.agg (sideC q t p s)) ∧ Lat w w') := by
  unfold sideC
  go_enter Tryz.func113, Tryz.ntmps113
  go_wp2
  refine bodyPost_ret (v := .agg #[.int .i64 q, .int .i64 t, .int .i64 p, .int .i64 s]) (by simp [results, Tryz.results113, go_sem]) rfl ?_
  exact ⟨rfl, (Lat.alloc _ _).trans (Lat.alloc _ _)⟩


set_option maxRecDepth 100000 in
set_option maxHeartbeats 4000000 in
theorem fDean (p s q t : Int) (X : Array Value) (b : Bool) (hX : GoodX X) (HG : ∀ w, Calls Tryz.prog 71 #[.int .i64 q, .int .i64 t, .int .i64 p, .int .i64 s] w (ShB w X b)) (w : World) :
    Calls Tryz.prog 115 #[.agg (sideC p s q t)] w (ShB w X b) := by
  have i1 := Lib.hid hX.info
  have z1 := Lib.hid hX.1
  have c1 := Lib.hid hX.2.1
  have G1 := Lib.hid hX.cells
  unfold sideC
  clear hX
  go_enter Tryz.func115, Tryz.ntmps115
  go_wp2_with fail
  refine name2 (Q := fun W => Calls _ _ _ W _) ?_
  intro W hl hs k1 k2
  refine (HG W).mono ?_
  rintro e w1 ⟨rfl, l1⟩
  have K2 := k2.later l1
  go_wp2_with (refine wpList_put rfl 35 (.tmp 2) (.tmp 17) (by rfl) (by rfl) (w.heap.size + 1) (by rfl) X (by rfl) K2 (by rw [z1.out]; rfl) i1.out c1.out ?_; intro W2 hput; have B1 := hput.blk; have m1 := hput.lat w (hl.trans l1) (by omega))
  obtain ⟨u, v, rfl⟩ := G1.out
  have e0 := B1.cell 0
  have e1 := B1.cell 1
  have e2 := B1.cell 2
  have e3 := B1.cell 3
  have e4 := B1.cell 4
  have e5 := B1.cell 5
  have e6 := B1.cell 6
  have e7 := B1.cell 7
  have e8 := B1.cell 8
  have e9 := B1.cell 9
  have e10 := B1.cell 10
  have e11 := B1.cell 11
  have e12 := B1.cell 12
  have e13 := B1.cell 13
  have e14 := B1.cell 14
  have e15 := B1.cell 15
  clear hput K2 k1 k2
  refine bodyPost_ret (v := .tuple #[.agg #[.int .u64 u.a0, .int .u64 u.a1, .int .u64 u.a2, .int .u64 u.a3, .int .u64 u.a4, .int .u64 u.a5, .int .u64 u.a6, .int .u64 u.a7, .int .u64 v.a0, .int .u64 v.a1, .int .u64 v.a2, .int .u64 v.a3, .int .u64 v.a4, .int .u64 v.a5, .int .u64 v.a6, .int .u64 v.a7], .bool b]) (by simp [results, Tryz.results115, go_sem, e0, e1, e2, e3, e4, e5, e6, e7, e8, e9, e10, e11, e12, e13, e14, e15]) rfl ?_
  exact ⟨rfl, m1⟩

set_option maxRecDepth 100000 in
set_option maxHeartbeats 4000000 in
theorem fWebster (p s q t : Int) (X : Array Value) (b : Bool) (hX : GoodX X) (HG : ∀ w, Calls Tryz.prog 71 #[.int .i64 s, .int .i64 p, .int .i64 t, .int .i64 q] w (ShB w X b)) (w : World) :
    Calls Tryz.prog 117 #[.agg (sideC p s q t)] w (ShB w X b) := by
  have i1 := Lib.hid hX.info
  have z1 := Lib.hid hX.1
  have c1 := Lib.hid hX.2.1
  have G1 := Lib.hid hX.cells
  unfold sideC
  clear hX
  go_enter Tryz.func117, Tryz.ntmps117
  go_wp2_with fail
  refine name2 (Q := fun W => Calls _ _ _ W _) ?_
  intro W hl hs k1 k2
  refine (HG W).mono ?_
  rintro e w1 ⟨rfl, l1⟩
  have K2 := k2.later l1
  go_wp2_with (refine wpList_put rfl 35 (.tmp 2) (.tmp 17) (by rfl) (by rfl) (w.heap.size + 1) (by rfl) X (by rfl) K2 (by rw [z1.out]; rfl) i1.out c1.out ?_; intro W2 hput; have B1 := hput.blk; have m1 := hput.lat w (hl.trans l1) (by omega))
  obtain ⟨u, v, rfl⟩ := G1.out
  have e0 := B1.cell 0
  have e1 := B1.cell 1
  have e2 := B1.cell 2
  have e3 := B1.cell 3
  have e4 := B1.cell 4
  have e5 := B1.cell 5
  have e6 := B1.cell 6
  have e7 := B1.cell 7
  have e8 := B1.cell 8
  have e9 := B1.cell 9
  have e10 := B1.cell 10
  have e11 := B1.cell 11
  have e12 := B1.cell 12
  have e13 := B1.cell 13
  have e14 := B1.cell 14
  have e15 := B1.cell 15
  clear hput K2 k1 k2
  refine bodyPost_ret (v := .tuple #[.agg #[.int .u64 u.a0, .int .u64 u.a1, .int .u64 u.a2, .int .u64 u.a3, .int .u64 u.a4, .int .u64 u.a5, .int .u64 u.a6, .int .u64 u.a7, .int .u64 v.a0, .int .u64 v.a1, .int .u64 v.a2, .int .u64 v.a3, .int .u64 v.a4, .int .u64 v.a5, .int .u64 v.a6, .int .u64 v.a7], .bool b]) (by simp [results, Tryz.results117, go_sem, e0, e1, e2, e3, e4, e5, e6, e7, e8, e9, e10, e11, e12, e13, e14, e15]) rfl ?_
  exact ⟨rfl, m1⟩

set_option maxRecDepth 100000 in
set_option maxHeartbeats 4000000 in
theorem fAdams (p s q t : Int) (X : Array Value) (b : Bool) (hX : GoodX X) (hp0 : -9223372036854775808 ≤ t * p ∧ t * p ≤ 9223372036854775807 ∧ -9223372036854775808 ≤ t ∧ t ≤ 9223372036854775807) (HG : ∀ w, Calls Tryz.prog 71 #[.int .i64 s, .int .i64 1, .int .i64 (t * p), .int .i64 q] w (ShB w X b)) (w : World) :
    Calls Tryz.prog 114 #[.agg (sideC p s q t)] w (ShB w X b) := by
  obtain ⟨u, v, rfl⟩ := hX.cells
  have HP0 : ∀ (w : World) (g : Nat), Blk w g 3 #[.int .i64 t, .int .i64 p] → Calls Tryz.prog 72 #[.slice (some ⟨g, 0, none⟩) 2 2] w (fun e w' => e = .returned (.int .i64 (t * p)) ∧ w = w') := fun w g hk => fProduct_any t p g 2 _ w hk hp0.2.2.1 hp0.2.2.2 hp0.1 hp0.2.1
  clear hX hp0
  unfold sideC
  go_enter Tryz.func114, Tryz.ntmps114
  go_wp2
  refine name2 (Q := fun W => Code.wp _ _ _ _ W) ?_
  intro W hl hs k1 k2
  have hne : w.heap.size ∉ [w.heap.size + 1] := by simp
  have a0 := k1.evS hne 0 rfl
  have a1 := k1.evS hne 1 rfl
  have a2 := k1.evS hne 2 rfl
  have a3 := k1.evS hne 3 rfl
  have L0 := Lat.drew W
  have M0 := L0.s [w.heap.size + 1]
  have M00 := (Lat.refl W).s [w.heap.size + 1]
  go_region_held3 (fun w' => LatS W [w.heap.size + 1] w') (first | (with_reducible assumption) | (repeat (first | (with_reducible assumption) | (with_reducible refine LatS.drew ?_) | (with_reducible refine LatS.alloc ?_ _) | (refine LatS.set ?_ (by simp) _))))
    (first
      | (have _h := HP0; go_at_call 72; (with_reducible refine (HP0 _ _ ?_).mono ?_); (first | (with_reducible exact Blk.newD _ _ _) | (with_reducible exact Blk.newE _ _ _ _) | (with_reducible exact Blk.newF _ _ _ _) | exact Blk.newD _ _ _ | exact Blk.newE _ _ _ _); rintro e w0' ⟨rfl, rfl⟩; clear HP0 _h)
      | (have _h := HG; go_at_call 71; (with_reducible refine (HG _).mono ?_); rintro e w2 ⟨rfl, l2⟩; have L2 : Lat W w2 := Lat.trans (by repeat (first | (with_reducible assumption) | (with_reducible exact Lat.refl _) | (with_reducible refine Lat.trans ?_ (Lat.drew _)) | (with_reducible refine Lat.trans ?_ (Lat.alloc _ _)))) l2; have M2 := L2.s [w.heap.size + 1]; have K2 := k2.later L2
         have c0 := K2.cell 0
         have c1 := K2.cell 1
         have c2 := K2.cell 2
         have c3 := K2.cell 3
         have c4 := K2.cell 4
         have c5 := K2.cell 5
         have c6 := K2.cell 6
         have c7 := K2.cell 7
         have c8 := K2.cell 8
         have c9 := K2.cell 9
         have c10 := K2.cell 10
         have c11 := K2.cell 11
         have c12 := K2.cell 12
         have c13 := K2.cell 13
         have c14 := K2.cell 14
         have c15 := K2.cell 15
         have f0 := K2.frozen 0
         have f1 := K2.frozen 1
         have f2 := K2.frozen 2
         have f3 := K2.frozen 3
         have f4 := K2.frozen 4
         have f5 := K2.frozen 5
         have f6 := K2.frozen 6
         have f7 := K2.frozen 7
         have f8 := K2.frozen 8
         have f9 := K2.frozen 9
         have f10 := K2.frozen 10
         have f11 := K2.frozen 11
         have f12 := K2.frozen 12
         have f13 := K2.frozen 13
         have f14 := K2.frozen 14
         have f15 := K2.frozen 15
         clear HG _h))
  all_goals
    go_wp2
    refine bodyPost_ret (v := .tuple #[.agg #[.int .u64 u.a0, .int .u64 u.a1, .int .u64 u.a2, .int .u64 u.a3, .int .u64 u.a4, .int .u64 u.a5, .int .u64 u.a6, .int .u64 u.a7, .int .u64 v.a0, .int .u64 v.a1, .int .u64 v.a2, .int .u64 v.a3, .int .u64 v.a4, .int .u64 v.a5, .int .u64 v.a6, .int .u64 v.a7], .bool b]) (by simp [results, Tryz.results114, go_sem, c0, c1, c2, c3, c4, c5, c6, c7, c8, c9, c10, c11, c12, c13, c14, c15]) rfl ?_
    refine ⟨rfl, ?_⟩
    iterate 16 (refine Lat.setCell ?_ (by simp; try omega) _)
    exact hl.trans L2

set_option maxRecDepth 100000 in
set_option maxHeartbeats 4000000 in
theorem fJefferson (p s q t : Int) (X : Array Value) (b : Bool) (hX : GoodX X) (hp0 : -9223372036854775808 ≤ s * q ∧ s * q ≤ 9223372036854775807 ∧ -9223372036854775808 ≤ s ∧ s ≤ 9223372036854775807) (HG : ∀ w, Calls Tryz.prog 71 #[.int .i64 (s * q), .int .i64 p, .int .i64 t, .int .i64 1] w (ShB w X b)) (w : World) :
    Calls Tryz.prog 118 #[.agg (sideC p s q t)] w (ShB w X b) := by
  obtain ⟨u, v, rfl⟩ := hX.cells
  have HP0 : ∀ (w : World) (g : Nat), Blk w g 3 #[.int .i64 s, .int .i64 q] → Calls Tryz.prog 72 #[.slice (some ⟨g, 0, none⟩) 2 2] w (fun e w' => e = .returned (.int .i64 (s * q)) ∧ w = w') := fun w g hk => fProduct_any s q g 2 _ w hk hp0.2.2.1 hp0.2.2.2 hp0.1 hp0.2.1
  clear hX hp0
  unfold sideC
  go_enter Tryz.func118, Tryz.ntmps118
  go_wp2
  refine name2 (Q := fun W => Code.wp _ _ _ _ W) ?_
  intro W hl hs k1 k2
  have hne : w.heap.size ∉ [w.heap.size + 1] := by simp
  have a0 := k1.evS hne 0 rfl
  have a1 := k1.evS hne 1 rfl
  have a2 := k1.evS hne 2 rfl
  have a3 := k1.evS hne 3 rfl
  have L0 := Lat.drew W
  have M0 := L0.s [w.heap.size + 1]
  have M00 := (Lat.refl W).s [w.heap.size + 1]
  go_region_held3 (fun w' => LatS W [w.heap.size + 1] w') (first | (with_reducible assumption) | (repeat (first | (with_reducible assumption) | (with_reducible refine LatS.drew ?_) | (with_reducible refine LatS.alloc ?_ _) | (refine LatS.set ?_ (by simp) _))))
    (first
      | (have _h := HP0; go_at_call 72; (with_reducible refine (HP0 _ _ ?_).mono ?_); (first | (with_reducible exact Blk.newD _ _ _) | (with_reducible exact Blk.newE _ _ _ _) | (with_reducible exact Blk.newF _ _ _ _) | exact Blk.newD _ _ _ | exact Blk.newE _ _ _ _); rintro e w0' ⟨rfl, rfl⟩; clear HP0 _h)
      | (have _h := HG; go_at_call 71; (with_reducible refine (HG _).mono ?_); rintro e w2 ⟨rfl, l2⟩; have L2 : Lat W w2 := Lat.trans (by repeat (first | (with_reducible assumption) | (with_reducible exact Lat.refl _) | (with_reducible refine Lat.trans ?_ (Lat.drew _)) | (with_reducible refine Lat.trans ?_ (Lat.alloc _ _)))) l2; have M2 := L2.s [w.heap.size + 1]; have K2 := k2.later L2
         have c0 := K2.cell 0
         have c1 := K2.cell 1
         have c2 := K2.cell 2
         have c3 := K2.cell 3
         have c4 := K2.cell 4
         have c5 := K2.cell 5
         have c6 := K2.cell 6
         have c7 := K2.cell 7
         have c8 := K2.cell 8
         have c9 := K2.cell 9
         have c10 := K2.cell 10
         have c11 := K2.cell 11
         have c12 := K2.cell 12
         have c13 := K2.cell 13
         have c14 := K2.cell 14
         have c15 := K2.cell 15
         have f0 := K2.frozen 0
         have f1 := K2.frozen 1
         have f2 := K2.frozen 2
         have f3 := K2.frozen 3
         have f4 := K2.frozen 4
         have f5 := K2.frozen 5
         have f6 := K2.frozen 6
         have f7 := K2.frozen 7
         have f8 := K2.frozen 8
         have f9 := K2.frozen 9
         have f10 := K2.frozen 10
         have f11 := K2.frozen 11
         have f12 := K2.frozen 12
         have f13 := K2.frozen 13
         have f14 := K2.frozen 14
         have f15 := K2.frozen 15
         clear HG _h))
  all_goals
    go_wp2
    refine bodyPost_ret (v := .tuple #[.agg #[.int .u64 u.a0, .int .u64 u.a1, .int .u64 u.a2, .int .u64 u.a3, .int .u64 u.a4, .int .u64 u.a5, .int .u64 u.a6, .int .u64 u.a7, .int .u64 v.a0, .int .u64 v.a1, .int .u64 v.a2, .int .u64 v.a3, .int .u64 v.a4, .int .u64 v.a5, .int .u64 v.a6, .int .u64 v.a7], .bool b]) (by simp [results, Tryz.results118, go_sem, c0, c1, c2, c3, c4, c5, c6, c7, c8, c9, c10, c11, c12, c13, c14, c15]) rfl ?_
    refine ⟨rfl, ?_⟩
    iterate 16 (refine Lat.setCell ?_ (by simp; try omega) _)
    exact hl.trans L2
end Go.Proofs.YtkiaaefkobfkgaaGreat
