/- Several texts in one: ChR, ChS. -/
import Derived.Test.YtogkkhaepfablaaChQ
import Derived.Test.YtogkkhaepfablaaK07

/- Chance: Wide. -/
namespace Go.Proofs.Ytogkkhaepfablaa
open Go.RowKit Go.Shelf
set_option linter.unusedSimpArgs false

def WidC (s : Nat) (n u : W8) (en : Int) (t : Nat) : Prop := ∀ (b : Nat) (w : World), Blk w b 72 #[.int .u64 (s : Nat)] → Calls Try.prog 33 #[.pointer (some ⟨b, 0, none⟩), .agg #[.int .u64 n.a0, .int .u64 n.a1, .int .u64 n.a2, .int .u64 n.a3, .int .u64 n.a4, .int .u64 n.a5, .int .u64 n.a6, .int .u64 n.a7]] w (WidPost b w u en t)
/-- What Wide hands back. -/
def WidEnd (w : World) (u : W8) (t : Nat) (en : Int) (e : Ending) (w' : World) : Prop := e = .returned (.tuple #[.agg #[.int .u64 u.a0, .int .u64 u.a1, .int .u64 u.a2, .int .u64 u.a3, .int .u64 u.a4, .int .u64 u.a5, .int .u64 u.a6, .int .u64 u.a7], .agg #[.int .u64 (t : Nat)], .int .i64 en]) ∧ Lat w w'
set_option maxRecDepth 100000 in
set_option maxHeartbeats 4000000 in
theorem cWide_low (s : Nat) (n : W8) (sg : Int) (hsg : sg < 1) (HG : ∀ w, Calls Try.prog 32 #[.agg #[.int .u64 n.a0, .int .u64 n.a1, .int .u64 n.a2, .int .u64 n.a3, .int .u64 n.a4, .int .u64 n.a5, .int .u64 n.a6, .int .u64 n.a7]] w (fun e w' => e = .returned (.int .i64 sg) ∧ Lat w w')) (w : World) :
    Calls Try.prog 18 #[.agg #[.int .u64 s], .agg #[.int .u64 n.a0, .int .u64 n.a1, .int .u64 n.a2, .int .u64 n.a3, .int .u64 n.a4, .int .u64 n.a5, .int .u64 n.a6, .int .u64 n.a7]] w (WidEnd w W8.zero 0 2) := by
  go_enter Try.func18, Try.ntmps18
  go_wp2_with fail
  refine name4 (Q := fun W => Calls _ _ _ W _) ?_
  intro W1 l1 hs1 k2 k3 k4 k5
  refine (HG W1).mono ?_
  rintro e W2 ⟨rfl, l2⟩
  replace k2 := k2.later l2
  replace k3 := k3.later l2
  replace k4 := k4.later l2
  replace k5 := k5.later l2
  have L2 := l1.trans l2
  have hs2 : w.heap.size + 4 ≤ W2.heap.size := by have := l2.size; omega
  clear l1 l2 hs1 HG
  have d0 := k4.cell 0
  have d1 := k4.cell 1
  have d2 := k4.cell 2
  have d3 := k4.cell 3
  have d4 := k4.cell 4
  have d5 := k4.cell 5
  have d6 := k4.cell 6
  have d7 := k4.cell 7
  have f0 := k4.frozen 0
  have f1 := k4.frozen 1
  have f2 := k4.frozen 2
  have f3 := k4.frozen 3
  have f4 := k4.frozen 4
  have f5 := k4.frozen 5
  have f6 := k4.frozen 6
  have f7 := k4.frozen 7
  have e5 : W2.cell? ⟨w.heap.size + 1 + 1 + 1, 0, none⟩ = some (.int .u64 0) := k5.cell 0
  have f9 := k5.frozen 0
  have h4 := k4.lt
  have h5 := k5.lt
  go_wp2
  refine name_put8e (Q := fun W => bodyPost _ _ _ _ _ W) k4 k5 (by omega) ?_
  intro V2 j4 j5 l2
  have i5 : V2.cell? ⟨w.heap.size + 1 + 1 + 1, 0, none⟩ = some (.int .u64 0) := j5.cell 0
  clear d0 d1 d2 d3 d4 d5 d6 d7
  have e0 := j4.cell 0
  have e1 := j4.cell 1
  have e2 := j4.cell 2
  have e3 := j4.cell 3
  have e4 := j4.cell 4
  have e5 := j4.cell 5
  have e6 := j4.cell 6
  have e7 := j4.cell 7
  refine bodyPost_ret (v := .tuple #[.agg #[.int .u64 W8.zero.a0, .int .u64 W8.zero.a1, .int .u64 W8.zero.a2, .int .u64 W8.zero.a3, .int .u64 W8.zero.a4, .int .u64 W8.zero.a5, .int .u64 W8.zero.a6, .int .u64 W8.zero.a7], .agg #[.int .u64 0], .int .i64 2]) (by simp [results, Try.results18, go_sem, e0, e1, e2, e3, e4, e5, e6, e7, i5, W8.zero]) rfl ?_
  exact ⟨rfl, l2.lat L2 (fun q h => by omega)⟩

set_option maxRecDepth 100000 in
set_option maxHeartbeats 4000000 in
theorem cWide_err (s : Nat) (n u : W8) (sg : Int) (hsg : ¬ sg < 1) (HG : ∀ w, Calls Try.prog 32 #[.agg #[.int .u64 n.a0, .int .u64 n.a1, .int .u64 n.a2, .int .u64 n.a3, .int .u64 n.a4, .int .u64 n.a5, .int .u64 n.a6, .int .u64 n.a7]] w (fun e w' => e = .returned (.int .i64 sg) ∧ Lat w w')) (en : Int) (t : Nat) (hen : en ≠ 0) (HB : WidC s n u en t) (w : World) :
    Calls Try.prog 18 #[.agg #[.int .u64 s], .agg #[.int .u64 n.a0, .int .u64 n.a1, .int .u64 n.a2, .int .u64 n.a3, .int .u64 n.a4, .int .u64 n.a5, .int .u64 n.a6, .int .u64 n.a7]] w (WidEnd w W8.zero 0 en) := by
  have henb : ((en : Int) != 0) = true := by simpa using hen
  go_enter Try.func18, Try.ntmps18
  go_wp2_with fail
  refine name4 (Q := fun W => Calls _ _ _ W _) ?_
  intro W1 l1 hs1 k2 k3 k4 k5
  refine (HG W1).mono ?_
  rintro e W2 ⟨rfl, l2⟩
  replace k2 := k2.later l2
  replace k3 := k3.later l2
  replace k4 := k4.later l2
  replace k5 := k5.later l2
  have L2 := l1.trans l2
  have hs2 : w.heap.size + 4 ≤ W2.heap.size := by have := l2.size; omega
  clear l1 l2 hs1 HG
  have c0 : W2.cell? ⟨w.heap.size, 0, none⟩ = some (.int .u64 (s : Int)) := k2.cell 0
  go_wp2_with fail
  refine (chFrom_any s W2).mono ?_
  rintro e W3 ⟨g, rfl, kg, hg, l3⟩
  replace k3 := k3.later l3
  replace k4 := k4.later l3
  replace k5 := k5.later l3
  have L3 := L2.trans l3
  have hs3 : w.heap.size + 4 ≤ W3.heap.size := by have := l3.size; omega
  clear c0 k2 l3 L2
  have d0 := k3.cell 0
  have d1 := k3.cell 1
  have d2 := k3.cell 2
  have d3 := k3.cell 3
  have d4 := k3.cell 4
  have d5 := k3.cell 5
  have d6 := k3.cell 6
  have d7 := k3.cell 7
  go_wp2_with fail
  refine (HB g W3 kg).mono ?_
  rintro e W4 ⟨rfl, kg4, lp⟩
  replace k3 := k3.keepP lp (by omega)
  replace k4 := k4.keepP lp (by omega)
  replace k5 := k5.keepP lp (by omega)
  have L4 := lp.narrow L3 (by omega)
  have hs4 : w.heap.size + 4 ≤ W4.heap.size := by have := lp.size; omega
  clear d0 d1 d2 d3 d4 d5 d6 d7
  clear lp L3 kg k3 HB
  clear kg4
  have d0 := k4.cell 0
  have d1 := k4.cell 1
  have d2 := k4.cell 2
  have d3 := k4.cell 3
  have d4 := k4.cell 4
  have d5 := k4.cell 5
  have d6 := k4.cell 6
  have d7 := k4.cell 7
  have f0 := k4.frozen 0
  have f1 := k4.frozen 1
  have f2 := k4.frozen 2
  have f3 := k4.frozen 3
  have f4 := k4.frozen 4
  have f5 := k4.frozen 5
  have f6 := k4.frozen 6
  have f7 := k4.frozen 7
  have e5 : W4.cell? ⟨w.heap.size + 1 + 1 + 1, 0, none⟩ = some (.int .u64 0) := k5.cell 0
  have f9 := k5.frozen 0
  have h4 := k4.lt
  have h5 := k5.lt
  go_wp2
  refine name_put8e (Q := fun W => bodyPost _ _ _ _ _ (W.alloc _)) k4 k5 (by omega) ?_
  intro V2 j4 j5 l2
  have LL := l2.lat L4 (fun q h => by omega)
  clear l2
  refine name1 (Q := fun W => bodyPost _ _ _ _ _ W) ?_
  intro V3 l3 hs5 k8
  have i4 := j4.later l3
  have i5 : V3.cell? ⟨w.heap.size + 1 + 1 + 1, 0, none⟩ = some (.int .u64 0) := (j5.later l3).cell 0
  clear d0 d1 d2 d3 d4 d5 d6 d7
  have e0 := i4.cell 0
  have e1 := i4.cell 1
  have e2 := i4.cell 2
  have e3 := i4.cell 3
  have e4 := i4.cell 4
  have e5 := i4.cell 5
  have e6 := i4.cell 6
  have e7 := i4.cell 7
  refine bodyPost_ret (v := .tuple #[.agg #[.int .u64 W8.zero.a0, .int .u64 W8.zero.a1, .int .u64 W8.zero.a2, .int .u64 W8.zero.a3, .int .u64 W8.zero.a4, .int .u64 W8.zero.a5, .int .u64 W8.zero.a6, .int .u64 W8.zero.a7], .agg #[.int .u64 0], .int .i64 en]) (by simp [results, Try.results18, go_sem, e0, e1, e2, e3, e4, e5, e6, e7, i5, W8.zero]) rfl ?_
  exact ⟨rfl, LL.trans l3⟩

set_option maxRecDepth 100000 in
set_option maxHeartbeats 4000000 in
theorem cWide_in (s : Nat) (n u : W8) (sg : Int) (hsg : ¬ sg < 1) (HG : ∀ w, Calls Try.prog 32 #[.agg #[.int .u64 n.a0, .int .u64 n.a1, .int .u64 n.a2, .int .u64 n.a3, .int .u64 n.a4, .int .u64 n.a5, .int .u64 n.a6, .int .u64 n.a7]] w (fun e w' => e = .returned (.int .i64 sg) ∧ Lat w w')) (t : Nat) (HB : WidC s n u 0 t) (w : World) :
    Calls Try.prog 18 #[.agg #[.int .u64 s], .agg #[.int .u64 n.a0, .int .u64 n.a1, .int .u64 n.a2, .int .u64 n.a3, .int .u64 n.a4, .int .u64 n.a5, .int .u64 n.a6, .int .u64 n.a7]] w (WidEnd w u t 0) := by
  go_enter Try.func18, Try.ntmps18
  go_wp2_with fail
  refine name4 (Q := fun W => Calls _ _ _ W _) ?_
  intro W1 l1 hs1 k2 k3 k4 k5
  refine (HG W1).mono ?_
  rintro e W2 ⟨rfl, l2⟩
  replace k2 := k2.later l2
  replace k3 := k3.later l2
  replace k4 := k4.later l2
  replace k5 := k5.later l2
  have L2 := l1.trans l2
  have hs2 : w.heap.size + 4 ≤ W2.heap.size := by have := l2.size; omega
  clear l1 l2 hs1 HG
  have c0 : W2.cell? ⟨w.heap.size, 0, none⟩ = some (.int .u64 (s : Int)) := k2.cell 0
  go_wp2_with fail
  refine (chFrom_any s W2).mono ?_
  rintro e W3 ⟨g, rfl, kg, hg, l3⟩
  replace k3 := k3.later l3
  replace k4 := k4.later l3
  replace k5 := k5.later l3
  have L3 := L2.trans l3
  have hs3 : w.heap.size + 4 ≤ W3.heap.size := by have := l3.size; omega
  clear c0 k2 l3 L2
  have d0 := k3.cell 0
  have d1 := k3.cell 1
  have d2 := k3.cell 2
  have d3 := k3.cell 3
  have d4 := k3.cell 4
  have d5 := k3.cell 5
  have d6 := k3.cell 6
  have d7 := k3.cell 7
  go_wp2_with fail
  refine (HB g W3 kg).mono ?_
  rintro e W4 ⟨rfl, kg4, lp⟩
  replace k3 := k3.keepP lp (by omega)
  replace k4 := k4.keepP lp (by omega)
  replace k5 := k5.keepP lp (by omega)
  have L4 := lp.narrow L3 (by omega)
  have hs4 : w.heap.size + 4 ≤ W4.heap.size := by have := lp.size; omega
  clear d0 d1 d2 d3 d4 d5 d6 d7
  clear lp L3 kg k3 HB
  go_upto_region 7 with (fail)
  refine name1 (Q := fun W => Code.wp _ _ _ _ W) ?_
  intro W5 l5 hs5 k8
  replace k4 := k4.later l5
  replace k5 := k5.later l5
  replace kg4 := kg4.later l5
  have L5 := L4.trans l5
  obtain ⟨g8, hg8⟩ : ∃ z, W4.heap.size = z := ⟨_, rfl⟩
  rw [hg8] at k8 hs4 ⊢
  clear hg8 l5 L4 hs5
  have hne8 : g8 ∉ [w.heap.size + 1 + 1, w.heap.size + 1 + 1 + 1] := by simp; omega
  have hneg : g ∉ [w.heap.size + 1 + 1, w.heap.size + 1 + 1 + 1] := by simp; omega
  have R1 : ∀ w', LatS W5 [w.heap.size + 1 + 1, w.heap.size + 1 + 1 + 1] w' → w'.rangeAt g8 0 [.int .u64 u.a0, .int .u64 u.a1, .int .u64 u.a2, .int .u64 u.a3, .int .u64 u.a4, .int .u64 u.a5, .int .u64 u.a6, .int .u64 u.a7] := fun w' hl => Blk.rangeAll (l := [.int .u64 u.a0, .int .u64 u.a1, .int .u64 u.a2, .int .u64 u.a3, .int .u64 u.a4, .int .u64 u.a5, .int .u64 u.a6, .int .u64 u.a7]) (k8.keepS hne8 hl)
  have R2 : ∀ w', LatS W5 [w.heap.size + 1 + 1, w.heap.size + 1 + 1 + 1] w' → w'.cell? ⟨g, 0, none⟩ = some (.int .u64 (t : Int)) := fun w' hl => (kg4.keepS hneg hl).cell 0
  have L0 := Lat.drew W5
  refine wp_region_held_drew (S := fun w' => LatS W5 [w.heap.size + 1 + 1, w.heap.size + 1 + 1 + 1] w') (by kernel_rfl) (L0.s _) (fun hHeld => ?_)
  generalize W5.drew = V0 at L0 hHeld ⊢
  refine' wpAnyH_take (i := 0) rfl (by kernel_rfl) (by kernel_rfl) (by kernel_rfl) (fun _ _ _ h => h) (yieldsIf_load_mid (by rfl) 44 (.tmp 8) rfl g8 0 rfl _ _ R1 Try.underlying44 rfl wideInfo8) hHeld ?_
  simp only [Act.put, List.getElem_toArray, List.getElem_cons_succ, List.getElem_cons_zero, List.setIfInBounds_toArray, List.set_cons_zero, List.set_cons_succ]
  refine wpAnyH_take (i := 1) (v := .pointer (some ⟨g, 0, none⟩)) rfl (by kernel_rfl) (by kernel_rfl) (by kernel_rfl) (fun _ _ _ h => h) (Or.inl ⟨by rfl, by intro w' hS; go_simp⟩) hHeld ?_
  simp only [Act.put, List.getElem_toArray, List.getElem_cons_succ, List.getElem_cons_zero, List.setIfInBounds_toArray, List.set_cons_zero, List.set_cons_succ]
  refine wpAnyH_take (i := 2) (v := .pointer (some ⟨g, 0, none⟩)) rfl (by kernel_rfl) (by kernel_rfl) (by kernel_rfl) (fun _ _ _ h => h) (Or.inl ⟨by rfl, by intro w' hS; go_simp⟩) hHeld ?_
  simp only [Act.put, List.getElem_toArray, List.getElem_cons_succ, List.getElem_cons_zero, List.setIfInBounds_toArray, List.set_cons_zero, List.set_cons_succ]
  refine wpAnyH_take (i := 3) (v := .pointer (some ⟨g, 0, none⟩)) rfl (by kernel_rfl) (by kernel_rfl) (by kernel_rfl) (fun _ _ _ h => h) (Or.inl ⟨by rfl, by intro w' hS; go_simp⟩) hHeld ?_
  simp only [Act.put, List.getElem_toArray, List.getElem_cons_succ, List.getElem_cons_zero, List.setIfInBounds_toArray, List.set_cons_zero, List.set_cons_succ]
  refine wpAnyH_take (i := 4) (v := .pointer (some ⟨g, 0, none⟩)) rfl (by kernel_rfl) (by kernel_rfl) (by kernel_rfl) (fun _ _ _ h => h) (Or.inl ⟨by rfl, by intro w' hS; go_simp⟩) hHeld ?_
  simp only [Act.put, List.getElem_toArray, List.getElem_cons_succ, List.getElem_cons_zero, List.setIfInBounds_toArray, List.set_cons_zero, List.set_cons_succ]
  refine wpAnyH_take (i := 5) (v := .agg #[.int .u64 (t : Int)]) rfl (by kernel_rfl) (by kernel_rfl) (by kernel_rfl) (fun _ _ _ h => h) (Or.inl ⟨by rfl, by intro w' hS; have hc := R2 w' hS; go_simp⟩) hHeld ?_
  simp only [Act.put, List.getElem_toArray, List.getElem_cons_succ, List.getElem_cons_zero, List.setIfInBounds_toArray, List.set_cons_zero, List.set_cons_succ]
  refine wpAnyH_ready (rs := [6]) (by kernel_rfl) (by simp) (AllReadyH.cons rfl (fun K hK => ?_) AllReadyH.nil)
  rw [if_pos (by rfl)]
  have K5 := (k4.later L0)
  refine wp_store_mid 44 (.tmp 4) (.tmp 28) rfl (w.heap.size + 1 + 1) 0 #[.int .u64 u.a0, .int .u64 u.a1, .int .u64 u.a2, .int .u64 u.a3, .int .u64 u.a4, .int .u64 u.a5, .int .u64 u.a6, .int .u64 u.a7] rfl rfl (K5.thereAll _ rfl) (by kernel_rfl) (by simp [Value.oneCell']) ?_
  have KS := K5.setCells #[.int .u64 u.a0, .int .u64 u.a1, .int .u64 u.a2, .int .u64 u.a3, .int .u64 u.a4, .int .u64 u.a5, .int .u64 u.a6, .int .u64 u.a7] rfl
  have lpS : LatP (· = w.heap.size + 1 + 1) V0 (V0.setCells (w.heap.size + 1 + 1) 0 (#[.int .u64 u.a0, .int .u64 u.a1, .int .u64 u.a2, .int .u64 u.a3, .int .u64 u.a4, .int .u64 u.a5, .int .u64 u.a6, .int .u64 u.a7] : Array Value).toList) := LatP.setCells _ _ _
  have M9 : LatS W5 [w.heap.size + 1 + 1, w.heap.size + 1 + 1 + 1] (V0.setCells (w.heap.size + 1 + 1) 0 (#[.int .u64 u.a0, .int .u64 u.a1, .int .u64 u.a2, .int .u64 u.a3, .int .u64 u.a4, .int .u64 u.a5, .int .u64 u.a6, .int .u64 u.a7] : Array Value).toList) := LatS.setCells (by simp) _ _ _ (L0.s _)
  have L9 : Lat w (V0.setCells (w.heap.size + 1 + 1) 0 (#[.int .u64 u.a0, .int .u64 u.a1, .int .u64 u.a2, .int .u64 u.a3, .int .u64 u.a4, .int .u64 u.a5, .int .u64 u.a6, .int .u64 u.a7] : Array Value).toList) := Lat.setCells (by omega) _ _ _ (L5.trans L0)
  have K9 := (k5.later L0).keepP lpS (by omega)
  obtain ⟨V9, hV9⟩ : ∃ V, V0.setCells (w.heap.size + 1 + 1) 0 (#[.int .u64 u.a0, .int .u64 u.a1, .int .u64 u.a2, .int .u64 u.a3, .int .u64 u.a4, .int .u64 u.a5, .int .u64 u.a6, .int .u64 u.a7] : Array Value).toList = V := ⟨_, rfl⟩
  rw [hV9] at KS M9 L9 K9 ⊢
  clear hV9 K5 lpS
  refine hK.out _ _ M9 (fun hHeld1 => ?_)
  clear hK K
  try simp only [Act.put, List.getElem_toArray, List.getElem_cons_succ, List.getElem_cons_zero, List.setIfInBounds_toArray, List.set_cons_zero, List.set_cons_succ]
  refine wpAnyH_ready (rs := [7]) (by kernel_rfl) (by simp) (AllReadyH.cons rfl (fun K hK => ?_) AllReadyH.nil)
  rw [if_pos (by rfl)]
  refine wp_store_mid 24 (.tmp 5) (.tmp 33) rfl (w.heap.size + 1 + 1 + 1) 0 #[.int .u64 (t : Int)] rfl rfl (K9.thereAll _ rfl) (by kernel_rfl) (by simp [Value.oneCell']) ?_
  have KT := K9.setCells #[.int .u64 (t : Int)] rfl
  have lpS : LatP (· = w.heap.size + 1 + 1 + 1) V9 (V9.setCells (w.heap.size + 1 + 1 + 1) 0 (#[.int .u64 (t : Int)] : Array Value).toList) := LatP.setCells _ _ _
  have M10 : LatS W5 [w.heap.size + 1 + 1, w.heap.size + 1 + 1 + 1] (V9.setCells (w.heap.size + 1 + 1 + 1) 0 (#[.int .u64 (t : Int)] : Array Value).toList) := LatS.setCells (by simp) _ _ _ M9
  have L10 : Lat w (V9.setCells (w.heap.size + 1 + 1 + 1) 0 (#[.int .u64 (t : Int)] : Array Value).toList) := Lat.setCells (by omega) _ _ _ L9
  have KS2 := KS.keepP lpS (by omega)
  obtain ⟨V10, hV9⟩ : ∃ V, V9.setCells (w.heap.size + 1 + 1 + 1) 0 (#[.int .u64 (t : Int)] : Array Value).toList = V := ⟨_, rfl⟩
  rw [hV9] at KT M10 L10 KS2 ⊢
  clear hV9 lpS
  refine hK.out _ _ M10 (fun hHeld2 => ?_)
  clear hK K
  try simp only [Act.put, List.getElem_toArray, List.getElem_cons_succ, List.getElem_cons_zero, List.setIfInBounds_toArray, List.set_cons_zero, List.set_cons_succ]
  refine wpAnyH_ready (rs := [8]) (by kernel_rfl) (by simp) (AllReadyH.cons rfl (fun K hK => ?_) AllReadyH.nil)
  go_simp
  refine hK.out _ _ M10 (fun hHeld3 => ?_)
  clear hK K
  try simp only [Act.put, List.getElem_toArray, List.getElem_cons_succ, List.getElem_cons_zero, List.setIfInBounds_toArray, List.set_cons_zero, List.set_cons_succ]
  refine wpAnyH_done (by kernel_rfl) ?_ _
  go_wp2
  have e0 := KS2.cell 0
  have e1 := KS2.cell 1
  have e2 := KS2.cell 2
  have e3 := KS2.cell 3
  have e4 := KS2.cell 4
  have e5 := KS2.cell 5
  have e6 := KS2.cell 6
  have e7 := KS2.cell 7
  have i5 : V10.cell? ⟨w.heap.size + 1 + 1 + 1, 0, none⟩ = some (.int .u64 (t : Int)) := KT.cell 0
  refine bodyPost_ret (v := .tuple #[.agg #[.int .u64 u.a0, .int .u64 u.a1, .int .u64 u.a2, .int .u64 u.a3, .int .u64 u.a4, .int .u64 u.a5, .int .u64 u.a6, .int .u64 u.a7], .agg #[.int .u64 (t : Int)], .int .i64 0]) (by simp [results, Try.results18, go_sem, e0, e1, e2, e3, e4, e5, e6, e7, i5]) rfl ?_
  exact ⟨rfl, L10⟩
end Go.Proofs.Ytogkkhaepfablaa

/- Chance: Wide answers as the plain law says. -/
namespace Go.Proofs.Ytogkkhaepfablaa
open Go.RowKit Go.Shelf
set_option linter.unusedSimpArgs false

theorem bits_and_u64_nat (a b : Nat) (ha : a < 18446744073709551616) (hb : b < 18446744073709551616) : bits .and .u64 (a : Int) (b : Int) = ((a &&& b : Nat) : Int) := by
  have hx : a &&& b < 2 ^ 64 := Nat.lt_of_le_of_lt Nat.and_le_left ha
  have h1 : (BitVec.ofInt 64 (a : Int)).toNat = a := by
    rw [BitVec.ofInt_natCast, BitVec.toNat_ofNat]; exact Nat.mod_eq_of_lt (by omega)
  have h2 : (BitVec.ofInt 64 (b : Int)).toNat = b := by
    rw [BitVec.ofInt_natCast, BitVec.toNat_ofNat]; exact Nat.mod_eq_of_lt (by omega)
  show IntKind.u64.wrap ((BitVec.ofInt 64 (a : Int) &&& BitVec.ofInt 64 (b : Int)).toNat : Int) = _
  rw [BitVec.toNat_and, h1, h2, IntKind.wrap_u64]
  omega
theorem mask_bits {x : Int} {r p1 : Nat} (hx : 0 ≤ x ∧ x < W64) (hr : r ≤ 63) (hp : p1 + 1 = 2 ^ r) : bits .and .u64 x (p1 : Int) = x % 2 ^ r := by
  obtain ⟨n, rfl⟩ := Int.eq_ofNat_of_zero_le hx.1
  unfold W64 at hx
  have hle : 2 ^ r ≤ 2 ^ 63 := Nat.pow_le_pow_right (by decide) hr
  have h63 : (2 : Nat) ^ 63 = 9223372036854775808 := by decide
  have e : p1 = 2 ^ r - 1 := by omega
  rw [bits_and_u64_nat n p1 (by omega) (by omega), e, Nat.and_two_pow_sub_one_eq_mod, Int.natCast_emod, pow_cast]

theorem words_any (bk bs b k s : Nat) (hs : s < 18446744073709551616) (hk1 : 1 ≤ k) (hk : k ≤ 511) (w : World) (h : WdsF w bk bs b k s) :
    Calls Try.prog 54 #[.pointer (some ⟨bk, 0, none⟩), .pointer (some ⟨bs, 0, none⟩)] w (WdsPost w b (chNum k s) (chSt ((k + 63) / 64) s)) := by
  obtain ⟨m, hm⟩ : ∃ m, (k + 63) / 64 = m := ⟨_, rfl⟩
  obtain ⟨q, hq⟩ : ∃ q, k / 64 = q := ⟨_, rfl⟩
  obtain ⟨r, hr⟩ : ∃ r, k % 64 = r := ⟨_, rfl⟩
  obtain ⟨p1, hp1⟩ : ∃ p1, p1 + 1 = 2 ^ r := ⟨2 ^ r - 1, by have := Nat.two_pow_pos r; omega⟩
  have hm8 : m ≤ 8 := by omega
  have hle : 2 ^ r ≤ 2 ^ 63 := Nat.pow_le_pow_right (by decide) (by omega)
  have h63 : (2 : Nat) ^ 63 = 9223372036854775808 := by decide
  have ep : (2 : Int) ^ r = ((2 ^ r : Nat) : Int) := (pow_cast r).symm
  rw [hm]
  refine words_in bk bs b k s m (fun i => chSt i s) (fun i => chMix (chStep (chSt i s))) (fun i => chOs i s) rfl (fun j => nextC (chSt j s) (chSt_lt j s hs)) ?_ hk hm8 ?_ (fun j hj => (chOs_succ s (by omega)).symm) (fun j hj => chOs_length s (by omega)) q r (2 ^ r) p1 ?_ ?_ (by omega) ?_ ?_ (chNum k s) ?_ ?_ w h
  · rw [Int.tdiv_eq_ediv_of_nonneg (by omega)]; omega
  · rfl
  · rw [Int.tdiv_eq_ediv_of_nonneg (by omega)]; omega
  · rw [Int.tmod_eq_emod_of_nonneg (by omega)]; omega
  · rw [IntKind.wrap_u64, ep]; omega
  · rw [IntKind.wrap_u64]; omega
  · intro h0
    have := mask_none (k := k) (s := s) hk (by omega)
    rw [hm] at this
    exact this
  · intro h0
    refine ⟨by omega, fun x hx => ⟨x % 2 ^ r, ?_, ?_⟩⟩
    · exact mask_bits ((chOs_in m s).at hx) (by omega) hp1
    · have := mask_some (k := k) (s := s) hk (by omega) (x := x) (by rw [hm, hq]; exact hx)
      rw [hm, hq, hr] at this
      exact this

theorem draw_fst (k x : Nat) : (chDraw k x).1 = chNum k x := by simp only [chDraw]
theorem draw_snd (k x : Nat) : (chDraw k x).2 = chSt ((k + 63) / 64) x := by simp only [chDraw]
theorem afterW_succ (k j s : Nat) : chAfter (chDraw k) (j + 1) s = chSt ((k + 63) / 64) (chAfter (chDraw k) j s) := by rw [chAfter, draw_snd]
theorem afterW_lt {k s : Nat} (hs : s < 18446744073709551616) (j : Nat) : chAfter (chDraw k) j s < 18446744073709551616 := by
  induction j with
  | zero => exact hs
  | succ j ih => rw [afterW_succ]; exact chSt_lt _ _ ih
theorem side_neg {z : Int} (h : z < 0) : sideOf z < 0 := by rw [sideOf, if_pos h]; decide
theorem side_nonneg {z : Int} (h : 0 ≤ z) : 0 ≤ sideOf z ∧ ¬ sideOf z < 0 := by
  rw [sideOf, if_neg (by omega)]
  split <;> exact ⟨by decide, by decide⟩
/-- The state behind a call of wide. -/
def widT (s : Nat) (N : Int) : Nat := optT (chAfter (chDraw (blen (N - 1))) 200 s) (chWid s N)

theorem wide_any (s : Nat) (hs : s < 18446744073709551616) (n : W8) (hn : n.ok) (h1 : 1 ≤ n.toInt) : WidC s n (W8.of (optI (chWid s n.toInt))) (optE (chWid s n.toInt)) (widT s n.toInt) := by
  intro b w hb
  obtain ⟨N, hN⟩ : ∃ N, n.toInt = N := ⟨_, rfl⟩
  have hbd := W8.toInt_bounds hn
  rw [hN] at hbd h1 ⊢
  have hp := P511_pos
  have h1ok : (W8.of 1).ok := W8.of_ok 1
  have h1t : (W8.of 1).toInt = 1 := W8.of_toInt (by omega) (by decide)
  have HS : ∀ w, Calls Try.prog 52 #[.agg #[.int .u64 n.a0, .int .u64 n.a1, .int .u64 n.a2, .int .u64 n.a3, .int .u64 n.a4, .int .u64 n.a5, .int .u64 n.a6, .int .u64 n.a7], .agg #[.int .u64 (W8.of 1).a0, .int .u64 (W8.of 1).a1, .int .u64 (W8.of 1).a2, .int .u64 (W8.of 1).a3, .int .u64 (W8.of 1).a4, .int .u64 (W8.of 1).a5, .int .u64 (W8.of 1).a6, .int .u64 (W8.of 1).a7]] w (fun e w' => e = .returned (.tuple #[.agg #[.int .u64 (W8.of (N - 1)).a0, .int .u64 (W8.of (N - 1)).a1, .int .u64 (W8.of (N - 1)).a2, .int .u64 (W8.of (N - 1)).a3, .int .u64 (W8.of (N - 1)).a4, .int .u64 (W8.of (N - 1)).a5, .int .u64 (W8.of (N - 1)).a6, .int .u64 (W8.of (N - 1)).a7], .int .i64 0]) ∧ Lat w w') := fun w => by
    refine (wSub_any n (W8.of 1) hn h1ok w).mono ?_
    rintro e w' ⟨u, r, rfl, h, hl⟩
    rw [hN, h1t] at h
    rcases h with ⟨_, _, rfl, rfl⟩ | ⟨h, _, _⟩
    · exact ⟨rfl, hl⟩
    · omega
  have huok := W8.of_ok (N - 1)
  have hum : (W8.of (N - 1)).mag = N - 1 := by
    rw [W8.of_mag]
    have := P512_two
    exact Int.emod_eq_of_lt (by omega) (by omega)
  have HL := chLen_any (W8.of (N - 1)) huok
  rw [hum] at HL
  by_cases hk : blen (N - 1) = 0
  · have hw : chWid s N = some (0, s) := by unfold chWid; rw [if_pos hk]
    have e1 : W8.of (optI (chWid s N)) = W8.zero := by rw [hw, optI, W8.zero_eq]
    have e2 : optE (chWid s N) = 0 := by rw [hw, optE]
    have e3 : widT s N = s := by rw [widT, hw, optT]
    rw [e1, e2, e3]
    rw [hk] at HL
    exact wide_zero b s n (W8.of (N - 1)) HS HL w hb
  · obtain ⟨k, hke⟩ : ∃ k, blen (N - 1) = k := ⟨_, rfl⟩
    have hk511 : k ≤ 511 := by rw [← hke]; exact blen_lt (by omega) (by omega)
    have hT : widT s N = optT (chAfter (chDraw k) 200 s) (chWid s N) := by rw [widT, hke]
    have hw : chWid s N = chTry (chDraw k) (fun x => decide (x < N)) 200 s := by unfold chWid; rw [if_neg hk, hke]
    rw [hke] at HL hk
    rw [hT]
    obtain ⟨st, hst⟩ : ∃ st : Nat → Nat, st = fun j => chAfter (chDraw k) j s := ⟨_, rfl⟩
    obtain ⟨z, hz⟩ : ∃ z : Nat → Int, z = fun j => chNum k (chAfter (chDraw k) j s) := ⟨_, rfl⟩
    have hzb : ∀ j, 0 ≤ z j ∧ z j < P511 := fun j => by simp only [hz]; exact chNum_bound hk511
    have hzt : ∀ j, (W8.of (z j)).toInt = z j := fun j => W8.of_toInt (by have := (hzb j).1; omega) (hzb j).2
    refine (wide_pos b s k n (W8.of (N - 1)) (by omega) st z (by simp only [hst, chAfter]) (fun j bk bs W hW => ?_) (fun j => decide (z j < N)) (fun j => sideOf (z j - N)) (fun j => sideOf (z j)) (fun j w => ?_) (fun j w => ?_) (fun j h => ?_) (fun j h => ?_) HS HL w hb).mono ?_
    · have hsj : st j < 18446744073709551616 := by simp only [hst]; exact afterW_lt hs j
      have := words_any bk bs b k (st j) hsj (by omega) hk511 W hW
      have e1 : z j = chNum k (st j) := by simp only [hz, hst]
      have e2 : st (j + 1) = chSt ((k + 63) / 64) (st j) := by simp only [hst, afterW_succ]
      rw [e1, e2]
      exact this
    · have := wCmp_any (W8.of (z j)) n (W8.of_ok _) hn w
      rw [hzt, hN] at this
      exact this
    · have := wSign_any (W8.of (z j)) (W8.of_ok _) w
      rw [hzt] at this
      exact this
    · have h := of_decide_eq_true h
      exact ⟨side_neg (by omega), (side_nonneg (hzb j).1).1⟩
    · have h := of_decide_eq_false h
      exact (side_nonneg (by omega)).2
    · simp only [hst, hz]
      rintro e w' (⟨j, hj, hn, hok, hp⟩ | ⟨hn, hp⟩)
      · have ht : chWid s N = some (chDraw k (chAfter (chDraw k) j s)) := by
          rw [hw]
          exact chTry_take (draw := chDraw k) (ok := fun x => decide (x < N)) (f := 200) (j := j) (s := s) hj (fun i hi => by rw [draw_fst]; exact hn i hi) (by rw [draw_fst]; exact hok)
        have e1 : optI (chWid s N) = chNum k (chAfter (chDraw k) j s) := by rw [ht, ← draw_fst, optI]
        have e2 : optE (chWid s N) = 0 := by rw [ht, optE]
        have e3 : optT (chAfter (chDraw k) 200 s) (chWid s N) = chAfter (chDraw k) (j + 1) s := by rw [ht, optT, afterW_succ, draw_snd]
        rw [e1, e2, e3]
        exact hp
      · have ht : chWid s N = none := by
          rw [hw]
          exact chTry_none (draw := chDraw k) (ok := fun x => decide (x < N)) (f := 200) (s := s) (fun i hi => by rw [draw_fst]; exact hn i hi)
        have e1 : W8.of (optI (chWid s N)) = W8.zero := by rw [ht, optI, W8.zero_eq]
        have e2 : optE (chWid s N) = 9 := by rw [ht, optE]
        have e3 : optT (chAfter (chDraw k) 200 s) (chWid s N) = chAfter (chDraw k) 200 s := by rw [ht, optT]
        rw [e1, e2, e3]
        exact hp

/-- Wide: the number, the state, the error. -/
theorem cWide_any (s : Nat) (hs : s < 18446744073709551616) (n : W8) (hn : n.ok) (w : World) :
    Calls Try.prog 18 #[.agg #[.int .u64 s], .agg #[.int .u64 n.a0, .int .u64 n.a1, .int .u64 n.a2, .int .u64 n.a3, .int .u64 n.a4, .int .u64 n.a5, .int .u64 n.a6, .int .u64 n.a7]] w (WidEnd w (W8.of (widV s n.toInt)) (widS s n.toInt) (widE s n.toInt)) := by
  have HG := wSign_any n hn
  by_cases h : n.toInt < 1
  · have e0 : W8.of (widV s n.toInt) = W8.zero := by rw [widV, if_pos h, W8.zero_eq]
    rw [e0, widS, widE, if_pos h, if_pos h]
    refine cWide_low s n _ ?_ HG w
    rw [sideOf]
    split
    · decide
    · split
      · decide
      · omega
  · have hsg : ¬ sideOf n.toInt < 1 := by rw [sideOf, if_neg (by omega), if_neg (by omega)]; decide
    have HW := wide_any s hs n hn (by omega)
    rw [widV, widS, widE, if_neg h, if_neg h, if_neg h]
    rcases optE_zero (chWid s n.toInt) with h0 | ⟨h9, hnone⟩
    · have hT : widT s n.toInt = optT 0 (chWid s n.toInt) := by
        unfold widT
        cases hc : chWid s n.toInt with
        | none => rw [hc, optE] at h0; cases h0
        | some p => simp only [optT]
      rw [h0] at HW ⊢
      rw [← hT]
      exact cWide_in s n _ _ hsg HG _ HW w
    · have e1 : W8.of (optI (chWid s n.toInt)) = W8.zero := by rw [hnone, optI, W8.zero_eq]
      have e2 : optT 0 (chWid s n.toInt) = 0 := by rw [hnone, optT]
      rw [h9] at HW ⊢
      rw [e1, e2]
      exact cWide_err s n _ _ hsg HG 9 _ (by decide) HW w
end Go.Proofs.Ytogkkhaepfablaa
