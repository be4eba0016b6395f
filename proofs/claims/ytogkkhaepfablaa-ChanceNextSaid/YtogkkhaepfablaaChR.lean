/- Chance: Wide. -/
import Derived.Test.YtogkkhaepfablaaChQ
import Derived.Test.YtogkkhaepfablaaChG
namespace Go.Proofs.Ytogkkhaepfablaa
open Go.RowKit Go.Shelf
set_option linter.unusedSimpArgs false

def WidC (s : Nat) (n u : W8) (en : Int) (t : Nat) : Prop := ∀ (b : Nat) (w : World), Blk w b 72 #[.int .u64 (s : Nat)] → Calls Try.prog 33 #[.pointer (some ⟨b, 0, none⟩), .agg #[.int .u64 n.a0, .int .u64 n.a1, .int .u64 n.a2, .int .u64 n.a3, .int .u64 n.a4, .int .u64 n.a5, .int .u64 n.a6, .int .u64 n.a7]] w (WidPost b w u en t)
/-- What Wide hands back. -/
def WidEnd (w : World) (u : W8) (t : Nat) (en : Int) (e : Ending) (w' : World) : Prop := e = .returned (.tuple #[.agg #[.int .u64 u.a0, .int .u64 u.a1, .int .u64 u.a2, .int .u64 u.a3, .int .u64 u.a4, .int .u64 u.a5, .int .u64 u.a6, .int .u64 u.a7], .agg #[.int .u64 (t : Nat)], .int .i64 en]) ∧ Lat w w'
theorem chInfo1 : (Try.prog.info? 24).map (·.size) = some 1 := by kernel_rfl


set_option maxRecDepth 100000 in
set_option maxHeartbeats 4000000 in
theorem cWide_low (s : Nat) (n : W8) (sg : Int) (hsg : sg < 1) (HG : ∀ w, Calls Try.prog 32 #[.agg #[.int .u64 n.a0, .int .u64 n.a1, .int .u64 n.a2, .int .u64 n.a3, .int .u64 n.a4, .int .u64 n.a5, .int .u64 n.a6, .int .u64 n.a7]] w (fun e w' => e = .returned (.int .i64 sg) ∧ Lat w w')) (w : World) :
    Calls Try.prog 18 #[.agg #[.int .u64 s], .agg #[.int .u64 n.a0, .int .u64 n.a1, .int .u64 n.a2, .int .u64 n.a3, .int .u64 n.a4, .int .u64 n.a5, .int .u64 n.a6, .int .u64 n.a7]] w (WidEnd w W8.zero 0 2) := by
  go_enter Try.func18, Try.ntmps18
  go_wp2_with fail
  refine name4 (Q := fun W => Calls _ _ _ W _) ?_
  intro W1 l1 hs1 k2 k3 k4 k5
  refine (HG W1).mono ?_
  rintro e W2 ⟨rfl, l2⟩
  replace k2 := k2.later l2
  replace k3 := k3.later l2
  replace k4 := k4.later l2
  replace k5 := k5.later l2
  have L2 := l1.trans l2
  have hs2 : w.heap.size + 4 ≤ W2.heap.size := by have := l2.size; omega
  clear l1 l2 hs1 HG
  have d0 := k4.cell 0
  have d1 := k4.cell 1
  have d2 := k4.cell 2
  have d3 := k4.cell 3
  have d4 := k4.cell 4
  have d5 := k4.cell 5
  have d6 := k4.cell 6
  have d7 := k4.cell 7
  have f0 := k4.frozen 0
  have f1 := k4.frozen 1
  have f2 := k4.frozen 2
  have f3 := k4.frozen 3
  have f4 := k4.frozen 4
  have f5 := k4.frozen 5
  have f6 := k4.frozen 6
  have f7 := k4.frozen 7
  have e5 : W2.cell? ⟨w.heap.size + 1 + 1 + 1, 0, none⟩ = some (.int .u64 0) := k5.cell 0
  have f9 := k5.frozen 0
  have h4 := k4.lt
  have h5 := k5.lt
  go_wp2
  refine name_put8e (Q := fun W => bodyPost _ _ _ _ _ W) k4 k5 (by omega) ?_
  intro V2 j4 j5 l2
  have i5 : V2.cell? ⟨w.heap.size + 1 + 1 + 1, 0, none⟩ = some (.int .u64 0) := j5.cell 0
  clear d0 d1 d2 d3 d4 d5 d6 d7
  have e0 := j4.cell 0
  have e1 := j4.cell 1
  have e2 := j4.cell 2
  have e3 := j4.cell 3
  have e4 := j4.cell 4
  have e5 := j4.cell 5
  have e6 := j4.cell 6
  have e7 := j4.cell 7
  refine bodyPost_ret (v := .tuple #[.agg #[.int .u64 W8.zero.a0, .int .u64 W8.zero.a1, .int .u64 W8.zero.a2, .int .u64 W8.zero.a3, .int .u64 W8.zero.a4, .int .u64 W8.zero.a5, .int .u64 W8.zero.a6, .int .u64 W8.zero.a7], .agg #[.int .u64 0], .int .i64 2]) (by simp [results, Try.results18, go_sem, e0, e1, e2, e3, e4, e5, e6, e7, i5, W8.zero]) rfl ?_
  exact ⟨rfl, l2.lat L2 (fun q h => by omega)⟩

set_option maxRecDepth 100000 in
set_option maxHeartbeats 4000000 in
theorem cWide_err (s : Nat) (n u : W8) (sg : Int) (hsg : ¬ sg < 1) (HG : ∀ w, Calls Try.prog 32 #[.agg #[.int .u64 n.a0, .int .u64 n.a1, .int .u64 n.a2, .int .u64 n.a3, .int .u64 n.a4, .int .u64 n.a5, .int .u64 n.a6, .int .u64 n.a7]] w (fun e w' => e = .returned (.int .i64 sg) ∧ Lat w w')) (en : Int) (t : Nat) (hen : en ≠ 0) (HB : WidC s n u en t) (w : World) :
    Calls Try.prog 18 #[.agg #[.int .u64 s], .agg #[.int .u64 n.a0, .int .u64 n.a1, .int .u64 n.a2, .int .u64 n.a3, .int .u64 n.a4, .int .u64 n.a5, .int .u64 n.a6, .int .u64 n.a7]] w (WidEnd w W8.zero 0 en) := by
  have henb : ((en : Int) != 0) = true := by simpa using hen
  go_enter Try.func18, Try.ntmps18
  go_wp2_with fail
  refine name4 (Q := fun W => Calls _ _ _ W _) ?_
  intro W1 l1 hs1 k2 k3 k4 k5
  refine (HG W1).mono ?_
  rintro e W2 ⟨rfl, l2⟩
  replace k2 := k2.later l2
  replace k3 := k3.later l2
  replace k4 := k4.later l2
  replace k5 := k5.later l2
  have L2 := l1.trans l2
  have hs2 : w.heap.size + 4 ≤ W2.heap.size := by have := l2.size; omega
  clear l1 l2 hs1 HG
  have c0 : W2.cell? ⟨w.heap.size, 0, none⟩ = some (.int .u64 (s : Int)) := k2.cell 0
  go_wp2_with fail
  refine (chFrom_any s W2).mono ?_
  rintro e W3 ⟨g, rfl, kg, hg, l3⟩
  replace k3 := k3.later l3
  replace k4 := k4.later l3
  replace k5 := k5.later l3
  have L3 := L2.trans l3
  have hs3 : w.heap.size + 4 ≤ W3.heap.size := by have := l3.size; omega
  clear c0 k2 l3 L2
  have d0 := k3.cell 0
  have d1 := k3.cell 1
  have d2 := k3.cell 2
  have d3 := k3.cell 3
  have d4 := k3.cell 4
  have d5 := k3.cell 5
  have d6 := k3.cell 6
  have d7 := k3.cell 7
  go_wp2_with fail
  refine (HB g W3 kg).mono ?_
  rintro e W4 ⟨rfl, kg4, lp⟩
  replace k3 := k3.keepP lp (by omega)
  replace k4 := k4.keepP lp (by omega)
  replace k5 := k5.keepP lp (by omega)
  have L4 := lp.narrow L3 (by omega)
  have hs4 : w.heap.size + 4 ≤ W4.heap.size := by have := lp.size; omega
  clear d0 d1 d2 d3 d4 d5 d6 d7
  clear lp L3 kg k3 HB
  clear kg4
  have d0 := k4.cell 0
  have d1 := k4.cell 1
  have d2 := k4.cell 2
  have d3 := k4.cell 3
  have d4 := k4.cell 4
  have d5 := k4.cell 5
  have d6 := k4.cell 6
  have d7 := k4.cell 7
  have f0 := k4.frozen 0
  have f1 := k4.frozen 1
  have f2 := k4.frozen 2
  have f3 := k4.frozen 3
  have f4 := k4.frozen 4
  have f5 := k4.frozen 5
  have f6 := k4.frozen 6
  have f7 := k4.frozen 7
  have e5 : W4.cell? ⟨w.heap.size + 1 + 1 + 1, 0, none⟩ = some (.int .u64 0) := k5.cell 0
  have f9 := k5.frozen 0
  have h4 := k4.lt
  have h5 := k5.lt
  go_wp2
  refine name_put8e (Q := fun W => bodyPost _ _ _ _ _ (W.alloc _)) k4 k5 (by omega) ?_
  intro V2 j4 j5 l2
  have LL := l2.lat L4 (fun q h => by omega)
  clear l2
  refine name1 (Q := fun W => bodyPost _ _ _ _ _ W) ?_
  intro V3 l3 hs5 k8
  have i4 := j4.later l3
  have i5 : V3.cell? ⟨w.heap.size + 1 + 1 + 1, 0, none⟩ = some (.int .u64 0) := (j5.later l3).cell 0
  clear d0 d1 d2 d3 d4 d5 d6 d7
  have e0 := i4.cell 0
  have e1 := i4.cell 1
  have e2 := i4.cell 2
  have e3 := i4.cell 3
  have e4 := i4.cell 4
  have e5 := i4.cell 5
  have e6 := i4.cell 6
  have e7 := i4.cell 7
  refine bodyPost_ret (v := .tuple #[.agg #[.int .u64 W8.zero.a0, .int .u64 W8.zero.a1, .int .u64 W8.zero.a2, .int .u64 W8.zero.a3, .int .u64 W8.zero.a4, .int .u64 W8.zero.a5, .int .u64 W8.zero.a6, .int .u64 W8.zero.a7], .agg #[.int .u64 0], .int .i64 en]) (by simp [results, Try.results18, go_sem, e0, e1, e2, e3, e4, e5, e6, e7, i5, W8.zero]) rfl ?_
  exact ⟨rfl, LL.trans l3⟩

set_option maxRecDepth 100000 in
set_option maxHeartbeats 4000000 in
theorem cWide_in (s : Nat) (n u : W8) (sg : Int) (hsg : ¬ sg < 1) (HG : ∀ w, Calls Try.prog 32 #[.agg #[.int .u64 n.a0, .int .u64 n.a1, .int .u64 n.a2, .int .u64 n.a3, .int .u64 n.a4, .int .u64 n.a5, .int .u64 n.a6, .int .u64 n.a7]] w (fun e w' => e = .returned (.int .i64 sg) ∧ Lat w w')) (t : Nat) (HB : WidC s n u 0 t) (w : World) :
    Calls Try.prog 18 #[.agg #[.int .u64 s], .agg #[.int .u64 n.a0, .int .u64 n.a1, .int .u64 n.a2, .int .u64 n.a3, .int .u64 n.a4, .int .u64 n.a5, .int .u64 n.a6, .int .u64 n.a7]] w (WidEnd w u t 0) := by
  go_enter Try.func18, Try.ntmps18
  go_wp2_with fail
  refine name4 (Q := fun W => Calls _ _ _ W _) ?_
  intro W1 l1 hs1 k2 k3 k4 k5
  refine (HG W1).mono ?_
  rintro e W2 ⟨rfl, l2⟩
  replace k2 := k2.later l2
  replace k3 := k3.later l2
  replace k4 := k4.later l2
  replace k5 := k5.later l2
  have L2 := l1.trans l2
  have hs2 : w.heap.size + 4 ≤ W2.heap.size := by have := l2.size; omega
  clear l1 l2 hs1 HG
  have c0 : W2.cell? ⟨w.heap.size, 0, none⟩ = some (.int .u64 (s : Int)) := k2.cell 0
  go_wp2_with fail
  refine (chFrom_any s W2).mono ?_
  rintro e W3 ⟨g, rfl, kg, hg, l3⟩
  replace k3 := k3.later l3
  replace k4 := k4.later l3
  replace k5 := k5.later l3
  have L3 := L2.trans l3
  have hs3 : w.heap.size + 4 ≤ W3.heap.size := by have := l3.size; omega
  clear c0 k2 l3 L2
  have d0 := k3.cell 0
  have d1 := k3.cell 1
  have d2 := k3.cell 2
  have d3 := k3.cell 3
  have d4 := k3.cell 4
  have d5 := k3.cell 5
  have d6 := k3.cell 6
  have d7 := k3.cell 7
  go_wp2_with fail
  refine (HB g W3 kg).mono ?_
  rintro e W4 ⟨rfl, kg4, lp⟩
  replace k3 := k3.keepP lp (by omega)
  replace k4 := k4.keepP lp (by omega)
  replace k5 := k5.keepP lp (by omega)
  have L4 := lp.narrow L3 (by omega)
  have hs4 : w.heap.size + 4 ≤ W4.heap.size := by have := lp.size; omega
  clear d0 d1 d2 d3 d4 d5 d6 d7
  clear lp L3 kg k3 HB
  go_upto_region 7 with (fail)
  refine name1 (Q := fun W => Code.wp _ _ _ _ W) ?_
  intro W5 l5 hs5 k8
  replace k4 := k4.later l5
  replace k5 := k5.later l5
  replace kg4 := kg4.later l5
  have L5 := L4.trans l5
  obtain ⟨g8, hg8⟩ : ∃ z, W4.heap.size = z := ⟨_, rfl⟩
  rw [hg8] at k8 hs4 ⊢
  clear hg8 l5 L4 hs5
  have hne8 : g8 ∉ [w.heap.size + 1 + 1, w.heap.size + 1 + 1 + 1] := by simp; omega
  have hneg : g ∉ [w.heap.size + 1 + 1, w.heap.size + 1 + 1 + 1] := by simp; omega
  have R1 : ∀ w', LatS W5 [w.heap.size + 1 + 1, w.heap.size + 1 + 1 + 1] w' → w'.rangeAt g8 0 [.int .u64 u.a0, .int .u64 u.a1, .int .u64 u.a2, .int .u64 u.a3, .int .u64 u.a4, .int .u64 u.a5, .int .u64 u.a6, .int .u64 u.a7] := fun w' hl => Blk.rangeAll (l := [.int .u64 u.a0, .int .u64 u.a1, .int .u64 u.a2, .int .u64 u.a3, .int .u64 u.a4, .int .u64 u.a5, .int .u64 u.a6, .int .u64 u.a7]) (k8.keepS hne8 hl)
  have R2 : ∀ w', LatS W5 [w.heap.size + 1 + 1, w.heap.size + 1 + 1 + 1] w' → w'.cell? ⟨g, 0, none⟩ = some (.int .u64 (t : Int)) := fun w' hl => (kg4.keepS hneg hl).cell 0
  have L0 := Lat.drew W5
  refine wp_region_held_drew (S := fun w' => LatS W5 [w.heap.size + 1 + 1, w.heap.size + 1 + 1 + 1] w') (by kernel_rfl) (L0.s _) (fun hHeld => ?_)
  generalize W5.drew = V0 at L0 hHeld ⊢
  refine' wpAnyH_take (i := 0) rfl (by kernel_rfl) (by kernel_rfl) (by kernel_rfl) (fun _ _ _ h => h) (yieldsIf_load_mid (by rfl) 44 (.tmp 8) rfl g8 0 rfl _ _ R1 Try.underlying44 rfl wideInfo8) hHeld ?_
  simp only [Act.put, List.getElem_toArray, List.getElem_cons_succ, List.getElem_cons_zero, List.setIfInBounds_toArray, List.set_cons_zero, List.set_cons_succ]
  refine wpAnyH_take (i := 1) (v := .pointer (some ⟨g, 0, none⟩)) rfl (by kernel_rfl) (by kernel_rfl) (by kernel_rfl) (fun _ _ _ h => h) (Or.inl ⟨by rfl, by intro w' hS; go_simp⟩) hHeld ?_
  simp only [Act.put, List.getElem_toArray, List.getElem_cons_succ, List.getElem_cons_zero, List.setIfInBounds_toArray, List.set_cons_zero, List.set_cons_succ]
  refine wpAnyH_take (i := 2) (v := .pointer (some ⟨g, 0, none⟩)) rfl (by kernel_rfl) (by kernel_rfl) (by kernel_rfl) (fun _ _ _ h => h) (Or.inl ⟨by rfl, by intro w' hS; go_simp⟩) hHeld ?_
  simp only [Act.put, List.getElem_toArray, List.getElem_cons_succ, List.getElem_cons_zero, List.setIfInBounds_toArray, List.set_cons_zero, List.set_cons_succ]
  refine wpAnyH_take (i := 3) (v := .pointer (some ⟨g, 0, none⟩)) rfl (by kernel_rfl) (by kernel_rfl) (by kernel_rfl) (fun _ _ _ h => h) (Or.inl ⟨by rfl, by intro w' hS; go_simp⟩) hHeld ?_
  simp only [Act.put, List.getElem_toArray, List.getElem_cons_succ, List.getElem_cons_zero, List.setIfInBounds_toArray, List.set_cons_zero, List.set_cons_succ]
  refine wpAnyH_take (i := 4) (v := .pointer (some ⟨g, 0, none⟩)) rfl (by kernel_rfl) (by kernel_rfl) (by kernel_rfl) (fun _ _ _ h => h) (Or.inl ⟨by rfl, by intro w' hS; go_simp⟩) hHeld ?_
  simp only [Act.put, List.getElem_toArray, List.getElem_cons_succ, List.getElem_cons_zero, List.setIfInBounds_toArray, List.set_cons_zero, List.set_cons_succ]
  refine wpAnyH_take (i := 5) (v := .agg #[.int .u64 (t : Int)]) rfl (by kernel_rfl) (by kernel_rfl) (by kernel_rfl) (fun _ _ _ h => h) (Or.inl ⟨by rfl, by intro w' hS; have hc := R2 w' hS; go_simp⟩) hHeld ?_
  simp only [Act.put, List.getElem_toArray, List.getElem_cons_succ, List.getElem_cons_zero, List.setIfInBounds_toArray, List.set_cons_zero, List.set_cons_succ]
  refine wpAnyH_ready (rs := [6]) (by kernel_rfl) (by simp) (AllReadyH.cons rfl (fun K hK => ?_) AllReadyH.nil)
  rw [if_pos (by rfl)]
  have K5 := (k4.later L0)
  refine wp_store_mid 44 (.tmp 4) (.tmp 28) rfl (w.heap.size + 1 + 1) 0 #[.int .u64 u.a0, .int .u64 u.a1, .int .u64 u.a2, .int .u64 u.a3, .int .u64 u.a4, .int .u64 u.a5, .int .u64 u.a6, .int .u64 u.a7] rfl rfl (K5.thereAll _ rfl) (by kernel_rfl) (by simp [Value.oneCell']) ?_
  have KS := K5.setCells #[.int .u64 u.a0, .int .u64 u.a1, .int .u64 u.a2, .int .u64 u.a3, .int .u64 u.a4, .int .u64 u.a5, .int .u64 u.a6, .int .u64 u.a7] rfl
  have lpS : LatP (· = w.heap.size + 1 + 1) V0 (V0.setCells (w.heap.size + 1 + 1) 0 (#[.int .u64 u.a0, .int .u64 u.a1, .int .u64 u.a2, .int .u64 u.a3, .int .u64 u.a4, .int .u64 u.a5, .int .u64 u.a6, .int .u64 u.a7] : Array Value).toList) := LatP.setCells _ _ _
  have M9 : LatS W5 [w.heap.size + 1 + 1, w.heap.size + 1 + 1 + 1] (V0.setCells (w.heap.size + 1 + 1) 0 (#[.int .u64 u.a0, .int .u64 u.a1, .int .u64 u.a2, .int .u64 u.a3, .int .u64 u.a4, .int .u64 u.a5, .int .u64 u.a6, .int .u64 u.a7] : Array Value).toList) := LatS.setCells (by simp) _ _ _ (L0.s _)
  have L9 : Lat w (V0.setCells (w.heap.size + 1 + 1) 0 (#[.int .u64 u.a0, .int .u64 u.a1, .int .u64 u.a2, .int .u64 u.a3, .int .u64 u.a4, .int .u64 u.a5, .int .u64 u.a6, .int .u64 u.a7] : Array Value).toList) := Lat.setCells (by omega) _ _ _ (L5.trans L0)
  have K9 := (k5.later L0).keepP lpS (by omega)
  obtain ⟨V9, hV9⟩ : ∃ V, V0.setCells (w.heap.size + 1 + 1) 0 (#[.int .u64 u.a0, .int .u64 u.a1, .int .u64 u.a2, .int .u64 u.a3, .int .u64 u.a4, .int .u64 u.a5, .int .u64 u.a6, .int .u64 u.a7] : Array Value).toList = V := ⟨_, rfl⟩
  rw [hV9] at KS M9 L9 K9 ⊢
  clear hV9 K5 lpS
  refine hK.out _ _ M9 (fun hHeld1 => ?_)
  clear hK K
  try simp only [Act.put, List.getElem_toArray, List.getElem_cons_succ, List.getElem_cons_zero, List.setIfInBounds_toArray, List.set_cons_zero, List.set_cons_succ]
  refine wpAnyH_ready (rs := [7]) (by kernel_rfl) (by simp) (AllReadyH.cons rfl (fun K hK => ?_) AllReadyH.nil)
  rw [if_pos (by rfl)]
  refine wp_store_mid 24 (.tmp 5) (.tmp 33) rfl (w.heap.size + 1 + 1 + 1) 0 #[.int .u64 (t : Int)] rfl rfl (K9.thereAll _ rfl) (by kernel_rfl) (by simp [Value.oneCell']) ?_
  have KT := K9.setCells #[.int .u64 (t : Int)] rfl
  have lpS : LatP (· = w.heap.size + 1 + 1 + 1) V9 (V9.setCells (w.heap.size + 1 + 1 + 1) 0 (#[.int .u64 (t : Int)] : Array Value).toList) := LatP.setCells _ _ _
  have M10 : LatS W5 [w.heap.size + 1 + 1, w.heap.size + 1 + 1 + 1] (V9.setCells (w.heap.size + 1 + 1 + 1) 0 (#[.int .u64 (t : Int)] : Array Value).toList) := LatS.setCells (by simp) _ _ _ M9
  have L10 : Lat w (V9.setCells (w.heap.size + 1 + 1 + 1) 0 (#[.int .u64 (t : Int)] : Array Value).toList) := Lat.setCells (by omega) _ _ _ L9
  have KS2 := KS.keepP lpS (by omega)
  obtain ⟨V10, hV9⟩ : ∃ V, V9.setCells (w.heap.size + 1 + 1 + 1) 0 (#[.int .u64 (t : Int)] : Array Value).toList = V := ⟨_, rfl⟩
  rw [hV9] at KT M10 L10 KS2 ⊢
  clear hV9 lpS
  refine hK.out _ _ M10 (fun hHeld2 => ?_)
  clear hK K
  try simp only [Act.put, List.getElem_toArray, List.getElem_cons_succ, List.getElem_cons_zero, List.setIfInBounds_toArray, List.set_cons_zero, List.set_cons_succ]
  refine wpAnyH_ready (rs := [8]) (by kernel_rfl) (by simp) (AllReadyH.cons rfl (fun K hK => ?_) AllReadyH.nil)
  go_simp
  refine hK.out _ _ M10 (fun hHeld3 => ?_)
  clear hK K
  try simp only [Act.put, List.getElem_toArray, List.getElem_cons_succ, List.getElem_cons_zero, List.setIfInBounds_toArray, List.set_cons_zero, List.set_cons_succ]
  refine wpAnyH_done (by kernel_rfl) ?_ _
  go_wp2
  have e0 := KS2.cell 0
  have e1 := KS2.cell 1
  have e2 := KS2.cell 2
  have e3 := KS2.cell 3
  have e4 := KS2.cell 4
  have e5 := KS2.cell 5
  have e6 := KS2.cell 6
  have e7 := KS2.cell 7
  have i5 : V10.cell? ⟨w.heap.size + 1 + 1 + 1, 0, none⟩ = some (.int .u64 (t : Int)) := KT.cell 0
  refine bodyPost_ret (v := .tuple #[.agg #[.int .u64 u.a0, .int .u64 u.a1, .int .u64 u.a2, .int .u64 u.a3, .int .u64 u.a4, .int .u64 u.a5, .int .u64 u.a6, .int .u64 u.a7], .agg #[.int .u64 (t : Int)], .int .i64 0]) (by simp [results, Try.results18, go_sem, e0, e1, e2, e3, e4, e5, e6, e7, i5]) rfl ?_
  exact ⟨rfl, L10⟩
end Go.Proofs.Ytogkkhaepfablaa
