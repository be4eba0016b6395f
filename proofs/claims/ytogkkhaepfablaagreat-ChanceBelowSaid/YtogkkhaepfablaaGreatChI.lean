
/- wide: of. -/
import Derived.Test.YtogkkhaepfablaaGreatChH
import Derived.Test.YtogkkhaepfablaaGreatRgA
namespace Go.Proofs.YtogkkhaepfablaaGreat
open Go.RowKit
set_option linter.unusedSimpArgs false

theorem sizeInfo8 : (Tryz.prog.info? 104).map (·.size) = some 8 := by kernel_rfl
/-- What 'of' hands back. -/
def OfPost (w : World) (b : Bool) (x : W8) (e : Ending) (w' : World) : Prop := e = .returned (.agg #[.bool (b && !decide (x.mag = 0)), .int .u64 x.a0, .int .u64 x.a1, .int .u64 x.a2, .int .u64 x.a3, .int .u64 x.a4, .int .u64 x.a5, .int .u64 x.a6, .int .u64 x.a7]) ∧ Lat w w'

set_option maxRecDepth 100000 in
set_option maxHeartbeats 4000000 in
theorem of2_any (b : Bool) (x : W8) (hx : x.ok) (w : World) : Calls Tryz.prog 107 #[.bool b, .agg #[.int .u64 x.a0, .int .u64 x.a1, .int .u64 x.a2, .int .u64 x.a3, .int .u64 x.a4, .int .u64 x.a5, .int .u64 x.a6, .int .u64 x.a7]] w (OfPost w b x) := by
  have HZ := zero_any x hx
  unfold OfPost
  obtain ⟨v, hv⟩ : ∃ v, decide (x.mag = 0) = v := ⟨_, rfl⟩
  rw [hv] at HZ ⊢
  clear hv hx
  go_enter Tryz.func107, Tryz.ntmps107
  go_upto_region 1 with (fail)
  refine name2 (Q := fun W => Code.wp _ _ _ _ W) ?_
  intro W hl hs k1 k2
  have hne : w.heap.size ∉ [w.heap.size + 1] := by simp
  have R1 : ∀ w', LatS W [w.heap.size + 1] w' → w'.rangeAt w.heap.size 0 [.int .u64 x.a0, .int .u64 x.a1, .int .u64 x.a2, .int .u64 x.a3, .int .u64 x.a4, .int .u64 x.a5, .int .u64 x.a6, .int .u64 x.a7] := fun w' hl => Blk.rangeAll (l := [.int .u64 x.a0, .int .u64 x.a1, .int .u64 x.a2, .int .u64 x.a3, .int .u64 x.a4, .int .u64 x.a5, .int .u64 x.a6, .int .u64 x.a7]) (k1.keepS hne hl)
  have L0 := Lat.drew W
  cases b
  · skip
    refine wp_region_held_drew (S := fun w' => LatS W [w.heap.size + 1] w') (by kernel_rfl) (L0.s _) (fun hHeld => ?_)
    generalize W.drew = V0 at L0 hHeld ⊢
    refine wpAnyH_take (i := 0) (v := .bool false) rfl (by kernel_rfl) (by kernel_rfl) (by kernel_rfl) (fun _ _ _ h => h) (Or.inl ⟨by rfl, by intro w' hS; go_simp⟩) hHeld ?_
    simp only [Act.put, List.getElem_toArray, List.getElem_cons_succ, List.getElem_cons_zero, List.setIfInBounds_toArray, List.set_cons_zero, List.set_cons_succ]
    refine wpAnyH_take (i := 1) (v := .bool false) rfl (by kernel_rfl) (by kernel_rfl) (by kernel_rfl) (fun _ _ _ h => h) (Or.inl ⟨by rfl, by intro w' hS; go_simp⟩) hHeld ?_
    simp only [Act.put, List.getElem_toArray, List.getElem_cons_succ, List.getElem_cons_zero, List.setIfInBounds_toArray, List.set_cons_zero, List.set_cons_succ]
    refine wpAnyH_skip 2 7 rfl (by kernel_rfl) (by kernel_rfl) (by kernel_rfl) (fun _ _ _ h => h) (by kernel_rfl) hHeld ?_
    simp only [Act.put, List.getElem_toArray, List.getElem_cons_succ, List.getElem_cons_zero, List.setIfInBounds_toArray, List.set_cons_zero, List.set_cons_succ]
    refine wpAnyH_skip 3 8 rfl (by kernel_rfl) (by kernel_rfl) (by kernel_rfl) (fun _ _ _ h => h) (by kernel_rfl) hHeld ?_
    simp only [Act.put, List.getElem_toArray, List.getElem_cons_succ, List.getElem_cons_zero, List.setIfInBounds_toArray, List.set_cons_zero, List.set_cons_succ]
    refine wpAnyH_skip 4 9 rfl (by kernel_rfl) (by kernel_rfl) (by kernel_rfl) (fun _ _ _ h => h) (by kernel_rfl) hHeld ?_
    simp only [Act.put, List.getElem_toArray, List.getElem_cons_succ, List.getElem_cons_zero, List.setIfInBounds_toArray, List.set_cons_zero, List.set_cons_succ]
    refine' wpAnyH_take (i := 6) rfl (by kernel_rfl) (by kernel_rfl) (by kernel_rfl) (fun _ _ _ h => h) (yieldsIf_load_mid (by rfl) 104 (.tmp 3) rfl w.heap.size 0 rfl _ _ R1 Tryz.underlying104 rfl sizeInfo8) hHeld ?_
    simp only [Act.put, List.getElem_toArray, List.getElem_cons_succ, List.getElem_cons_zero, List.setIfInBounds_toArray, List.set_cons_zero, List.set_cons_succ]
    have L1 := L0
    refine wpAnyH_take (i := 5) (v := .bool false) rfl (by kernel_rfl) (by kernel_rfl) (by kernel_rfl) (fun _ _ _ h => h) (Or.inl ⟨by rfl, by intro w' hS; go_simp⟩) hHeld ?_
    simp only [Act.put, List.getElem_toArray, List.getElem_cons_succ, List.getElem_cons_zero, List.setIfInBounds_toArray, List.set_cons_zero, List.set_cons_succ]
    refine wpAnyH_take (i := 7) (v := .agg #[.bool false, .int .u64 x.a0, .int .u64 x.a1, .int .u64 x.a2, .int .u64 x.a3, .int .u64 x.a4, .int .u64 x.a5, .int .u64 x.a6, .int .u64 x.a7]) rfl (by kernel_rfl) (by kernel_rfl) (by kernel_rfl) (fun _ _ _ h => h) (Or.inl ⟨by rfl, by intro w' hS; go_simp⟩) hHeld ?_
    simp only [Act.put, List.getElem_toArray, List.getElem_cons_succ, List.getElem_cons_zero, List.setIfInBounds_toArray, List.set_cons_zero, List.set_cons_succ]
    refine wpAnyH_ready (rs := [8]) (by kernel_rfl) (by simp) (AllReadyH.cons rfl (fun K hK => ?_) AllReadyH.nil)
    rw [if_pos (by rfl)]
    have K5 := (k2.later L1)
    refine wp_store_mid 106 (.tmp 4) (.tmp 12) rfl (w.heap.size + 1) 0 #[.bool false, .int .u64 x.a0, .int .u64 x.a1, .int .u64 x.a2, .int .u64 x.a3, .int .u64 x.a4, .int .u64 x.a5, .int .u64 x.a6, .int .u64 x.a7] rfl rfl (K5.thereAll _ rfl) (by kernel_rfl) (by simp [Value.oneCell']) ?_
    have KS := K5.setCells #[.bool false, .int .u64 x.a0, .int .u64 x.a1, .int .u64 x.a2, .int .u64 x.a3, .int .u64 x.a4, .int .u64 x.a5, .int .u64 x.a6, .int .u64 x.a7] rfl
    have M9 : LatS W [w.heap.size + 1] (V0.setCells (w.heap.size + 1) 0 (#[.bool false, .int .u64 x.a0, .int .u64 x.a1, .int .u64 x.a2, .int .u64 x.a3, .int .u64 x.a4, .int .u64 x.a5, .int .u64 x.a6, .int .u64 x.a7] : Array Value).toList) := LatS.setCells (by simp) _ _ _ (L1.s _)
    have L9 : Lat w (V0.setCells (w.heap.size + 1) 0 (#[.bool false, .int .u64 x.a0, .int .u64 x.a1, .int .u64 x.a2, .int .u64 x.a3, .int .u64 x.a4, .int .u64 x.a5, .int .u64 x.a6, .int .u64 x.a7] : Array Value).toList) := Lat.setCells (by omega) _ _ _ (hl.trans L1)
    obtain ⟨V9, hV9⟩ : ∃ V, V0.setCells (w.heap.size + 1) 0 (#[.bool false, .int .u64 x.a0, .int .u64 x.a1, .int .u64 x.a2, .int .u64 x.a3, .int .u64 x.a4, .int .u64 x.a5, .int .u64 x.a6, .int .u64 x.a7] : Array Value).toList = V := ⟨_, rfl⟩
    rw [hV9] at KS M9 L9 ⊢
    clear hV9 K5
    refine hK.out _ _ M9 (fun hHeld1 => ?_)
    clear hK K
    try simp only [Act.put, List.getElem_toArray, List.getElem_cons_succ, List.getElem_cons_zero, List.setIfInBounds_toArray, List.set_cons_zero, List.set_cons_succ]
    refine wpAnyH_done (by kernel_rfl) ?_ _
    go_wp2
    have e0 := KS.cell 0
    have e1 := KS.cell 1
    have e2 := KS.cell 2
    have e3 := KS.cell 3
    have e4 := KS.cell 4
    have e5 := KS.cell 5
    have e6 := KS.cell 6
    have e7 := KS.cell 7
    have e8 := KS.cell 8
    refine bodyPost_ret (v := .agg #[.bool false, .int .u64 x.a0, .int .u64 x.a1, .int .u64 x.a2, .int .u64 x.a3, .int .u64 x.a4, .int .u64 x.a5, .int .u64 x.a6, .int .u64 x.a7]) (by simp [results, Tryz.results107, go_sem, e0, e1, e2, e3, e4, e5, e6, e7, e8]) rfl ?_
    exact ⟨rfl, L9⟩
  · skip
    refine wp_region_held_drew (S := fun w' => LatS W [w.heap.size + 1] w') (by kernel_rfl) (L0.s _) (fun hHeld => ?_)
    generalize W.drew = V0 at L0 hHeld ⊢
    refine wpAnyH_take (i := 0) (v := .bool true) rfl (by kernel_rfl) (by kernel_rfl) (by kernel_rfl) (fun _ _ _ h => h) (Or.inl ⟨by rfl, by intro w' hS; go_simp⟩) hHeld ?_
    simp only [Act.put, List.getElem_toArray, List.getElem_cons_succ, List.getElem_cons_zero, List.setIfInBounds_toArray, List.set_cons_zero, List.set_cons_succ]
    refine wpAnyH_take (i := 1) (v := .bool true) rfl (by kernel_rfl) (by kernel_rfl) (by kernel_rfl) (fun _ _ _ h => h) (Or.inl ⟨by rfl, by intro w' hS; go_simp⟩) hHeld ?_
    simp only [Act.put, List.getElem_toArray, List.getElem_cons_succ, List.getElem_cons_zero, List.setIfInBounds_toArray, List.set_cons_zero, List.set_cons_succ]
    refine' wpAnyH_take (i := 2) rfl (by kernel_rfl) (by kernel_rfl) (by kernel_rfl) (fun _ _ _ h => h) (yieldsIf_load_mid (by rfl) 104 (.tmp 3) rfl w.heap.size 0 rfl _ _ R1 Tryz.underlying104 rfl sizeInfo8) hHeld ?_
    simp only [Act.put, List.getElem_toArray, List.getElem_cons_succ, List.getElem_cons_zero, List.setIfInBounds_toArray, List.set_cons_zero, List.set_cons_succ]
    refine' wpAnyH_take (i := 6) rfl (by kernel_rfl) (by kernel_rfl) (by kernel_rfl) (fun _ _ _ h => h) (yieldsIf_load_mid (by rfl) 104 (.tmp 3) rfl w.heap.size 0 rfl _ _ R1 Tryz.underlying104 rfl sizeInfo8) hHeld ?_
    simp only [Act.put, List.getElem_toArray, List.getElem_cons_succ, List.getElem_cons_zero, List.setIfInBounds_toArray, List.set_cons_zero, List.set_cons_succ]
    refine wpAnyH_ready (rs := [3]) (by kernel_rfl) (by simp) (AllReadyH.cons rfl (fun K hK => ?_) AllReadyH.nil)
    go_simp
    refine (HZ _).mono ?_
    rintro e V1 ⟨rfl, lg⟩
    have L1 := L0.trans lg
    clear lg
    refine hK.out _ _ (L1.s _) (fun hHeld1 => ?_)
    clear hK K
    try simp only [Act.put, List.getElem_toArray, List.getElem_cons_succ, List.getElem_cons_zero, List.setIfInBounds_toArray, List.set_cons_zero, List.set_cons_succ]
    refine wpAnyH_take (i := 4) (v := .bool (!v)) rfl (by kernel_rfl) (by kernel_rfl) (by kernel_rfl) (fun _ _ _ h => h) (Or.inl ⟨by rfl, by intro w' hS; go_simp⟩) hHeld1 ?_
    simp only [Act.put, List.getElem_toArray, List.getElem_cons_succ, List.getElem_cons_zero, List.setIfInBounds_toArray, List.set_cons_zero, List.set_cons_succ]
    refine wpAnyH_take (i := 5) (v := .bool (!v)) rfl (by kernel_rfl) (by kernel_rfl) (by kernel_rfl) (fun _ _ _ h => h) (Or.inl ⟨by rfl, by intro w' hS; go_simp⟩) hHeld1 ?_
    simp only [Act.put, List.getElem_toArray, List.getElem_cons_succ, List.getElem_cons_zero, List.setIfInBounds_toArray, List.set_cons_zero, List.set_cons_succ]
    refine wpAnyH_take (i := 7) (v := .agg #[.bool (!v), .int .u64 x.a0, .int .u64 x.a1, .int .u64 x.a2, .int .u64 x.a3, .int .u64 x.a4, .int .u64 x.a5, .int .u64 x.a6, .int .u64 x.a7]) rfl (by kernel_rfl) (by kernel_rfl) (by kernel_rfl) (fun _ _ _ h => h) (Or.inl ⟨by rfl, by intro w' hS; go_simp⟩) hHeld1 ?_
    simp only [Act.put, List.getElem_toArray, List.getElem_cons_succ, List.getElem_cons_zero, List.setIfInBounds_toArray, List.set_cons_zero, List.set_cons_succ]
    refine wpAnyH_ready (rs := [8]) (by kernel_rfl) (by simp) (AllReadyH.cons rfl (fun K hK => ?_) AllReadyH.nil)
    rw [if_pos (by rfl)]
    have K5 := (k2.later L1)
    refine wp_store_mid 106 (.tmp 4) (.tmp 12) rfl (w.heap.size + 1) 0 #[.bool (!v), .int .u64 x.a0, .int .u64 x.a1, .int .u64 x.a2, .int .u64 x.a3, .int .u64 x.a4, .int .u64 x.a5, .int .u64 x.a6, .int .u64 x.a7] rfl rfl (K5.thereAll _ rfl) (by kernel_rfl) (by simp [Value.oneCell']) ?_
    have KS := K5.setCells #[.bool (!v), .int .u64 x.a0, .int .u64 x.a1, .int .u64 x.a2, .int .u64 x.a3, .int .u64 x.a4, .int .u64 x.a5, .int .u64 x.a6, .int .u64 x.a7] rfl
    have M9 : LatS W [w.heap.size + 1] (V1.setCells (w.heap.size + 1) 0 (#[.bool (!v), .int .u64 x.a0, .int .u64 x.a1, .int .u64 x.a2, .int .u64 x.a3, .int .u64 x.a4, .int .u64 x.a5, .int .u64 x.a6, .int .u64 x.a7] : Array Value).toList) := LatS.setCells (by simp) _ _ _ (L1.s _)
    have L9 : Lat w (V1.setCells (w.heap.size + 1) 0 (#[.bool (!v), .int .u64 x.a0, .int .u64 x.a1, .int .u64 x.a2, .int .u64 x.a3, .int .u64 x.a4, .int .u64 x.a5, .int .u64 x.a6, .int .u64 x.a7] : Array Value).toList) := Lat.setCells (by omega) _ _ _ (hl.trans L1)
    obtain ⟨V9, hV9⟩ : ∃ V, V1.setCells (w.heap.size + 1) 0 (#[.bool (!v), .int .u64 x.a0, .int .u64 x.a1, .int .u64 x.a2, .int .u64 x.a3, .int .u64 x.a4, .int .u64 x.a5, .int .u64 x.a6, .int .u64 x.a7] : Array Value).toList = V := ⟨_, rfl⟩
    rw [hV9] at KS M9 L9 ⊢
    clear hV9 K5
    refine hK.out _ _ M9 (fun hHeld2 => ?_)
    clear hK K
    try simp only [Act.put, List.getElem_toArray, List.getElem_cons_succ, List.getElem_cons_zero, List.setIfInBounds_toArray, List.set_cons_zero, List.set_cons_succ]
    refine wpAnyH_done (by kernel_rfl) ?_ _
    go_wp2
    have e0 := KS.cell 0
    have e1 := KS.cell 1
    have e2 := KS.cell 2
    have e3 := KS.cell 3
    have e4 := KS.cell 4
    have e5 := KS.cell 5
    have e6 := KS.cell 6
    have e7 := KS.cell 7
    have e8 := KS.cell 8
    refine bodyPost_ret (v := .agg #[.bool (!v), .int .u64 x.a0, .int .u64 x.a1, .int .u64 x.a2, .int .u64 x.a3, .int .u64 x.a4, .int .u64 x.a5, .int .u64 x.a6, .int .u64 x.a7]) (by simp [results, Tryz.results107, go_sem, e0, e1, e2, e3, e4, e5, e6, e7, e8]) rfl ?_
    exact ⟨rfl, L9⟩
end Go.Proofs.YtogkkhaepfablaaGreat
