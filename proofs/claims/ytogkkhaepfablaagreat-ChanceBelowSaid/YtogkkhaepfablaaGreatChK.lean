
/- wide: the difference of two numbers. -/
import Derived.Test.YtogkkhaepfablaaGreatChJ
namespace Go.Proofs.YtogkkhaepfablaaGreat
open Go.RowKit
set_option linter.unusedSimpArgs false

theorem numInfo9 : (Tryz.prog.info? 106).map (·.size) = some 9 := by kernel_rfl
set_option maxRecDepth 100000 in
set_option maxHeartbeats 4000000 in
theorem diff_any (b1 b2 : Bool) (x y : W8) (hx : x.ok) (hy : y.ok) (hb2 : b2 = true → y.mag ≠ 0) (w : World) :
    Calls Tryz.prog 98 #[.agg #[.bool b1, .int .u64 x.a0, .int .u64 x.a1, .int .u64 x.a2, .int .u64 x.a3, .int .u64 x.a4, .int .u64 x.a5, .int .u64 x.a6, .int .u64 x.a7], .agg #[.bool b2, .int .u64 y.a0, .int .u64 y.a1, .int .u64 y.a2, .int .u64 y.a3, .int .u64 y.a4, .int .u64 y.a5, .int .u64 y.a6, .int .u64 y.a7]] w (SumPost w (sgn b1 x.mag - sgn b2 y.mag)) := by
  have HT := turned2_any b2 y hy
  unfold OfPost at HT
  obtain ⟨v, hv⟩ : ∃ v, (!b2 && !decide (y.mag = 0)) = v := ⟨_, rfl⟩
  rw [hv] at HT
  have hz : sgn b1 x.mag - sgn b2 y.mag = sgn b1 x.mag + sgn v y.mag := by
    rw [← hv]
    by_cases h0 : y.mag = 0
    · rw [h0]; cases b2 <;> simp [sgn]
    · simp only [h0, decide_false, Bool.not_false, Bool.and_true]
      cases b2 <;> simp [sgn] <;> omega
  rw [hz]
  have HS := sum_any b1 v x y hx hy
  obtain ⟨z, hz2⟩ : ∃ z, sgn b1 x.mag + sgn v y.mag = z := ⟨_, rfl⟩
  rw [hz2] at HS ⊢
  clear hz hz2 hv hx hy hb2
  go_enter Tryz.func98, Tryz.ntmps98
  go_upto_region 1 with (fail)
  refine name3 (Q := fun W => Code.wp _ _ _ _ W) ?_
  intro W hl hs k1 k2 k4
  have hne1 : w.heap.size ∉ [w.heap.size + 1 + 1] := by simp; omega
  have hne2 : w.heap.size + 1 ∉ [w.heap.size + 1 + 1] := by simp
  have R1 : ∀ w', LatS W [w.heap.size + 1 + 1] w' → w'.rangeAt w.heap.size 0 [.bool b1, .int .u64 x.a0, .int .u64 x.a1, .int .u64 x.a2, .int .u64 x.a3, .int .u64 x.a4, .int .u64 x.a5, .int .u64 x.a6, .int .u64 x.a7] := fun w' hl => Blk.rangeAll (l := [.bool b1, .int .u64 x.a0, .int .u64 x.a1, .int .u64 x.a2, .int .u64 x.a3, .int .u64 x.a4, .int .u64 x.a5, .int .u64 x.a6, .int .u64 x.a7]) (k1.keepS hne1 hl)
  have R2 : ∀ w', LatS W [w.heap.size + 1 + 1] w' → w'.rangeAt (w.heap.size + 1) 0 [.bool b2, .int .u64 y.a0, .int .u64 y.a1, .int .u64 y.a2, .int .u64 y.a3, .int .u64 y.a4, .int .u64 y.a5, .int .u64 y.a6, .int .u64 y.a7] := fun w' hl => Blk.rangeAll (l := [.bool b2, .int .u64 y.a0, .int .u64 y.a1, .int .u64 y.a2, .int .u64 y.a3, .int .u64 y.a4, .int .u64 y.a5, .int .u64 y.a6, .int .u64 y.a7]) (k2.keepS hne2 hl)
  have L0 := Lat.drew W
  refine wp_region_held_drew (S := fun w' => LatS W [w.heap.size + 1 + 1] w') (by kernel_rfl) (L0.s _) (fun hHeld => ?_)
  generalize W.drew = V0 at L0 hHeld ⊢
  refine' wpAnyH_take (i := 0) rfl (by kernel_rfl) (by kernel_rfl) (by kernel_rfl) (fun _ _ _ h => h) (yieldsIf_load_mid (by rfl) 106 (.tmp 2) rfl w.heap.size 0 rfl _ _ R1 Tryz.underlying106 rfl numInfo9) hHeld ?_
  simp only [Act.put, List.getElem_toArray, List.getElem_cons_succ, List.getElem_cons_zero, List.setIfInBounds_toArray, List.set_cons_zero, List.set_cons_succ]
  refine' wpAnyH_take (i := 1) rfl (by kernel_rfl) (by kernel_rfl) (by kernel_rfl) (fun _ _ _ h => h) (yieldsIf_load_mid (by rfl) 106 (.tmp 3) rfl (w.heap.size + 1) 0 rfl _ _ R2 Tryz.underlying106 rfl numInfo9) hHeld ?_
  simp only [Act.put, List.getElem_toArray, List.getElem_cons_succ, List.getElem_cons_zero, List.setIfInBounds_toArray, List.set_cons_zero, List.set_cons_succ]
  refine wpAnyH_ready (rs := [2]) (by kernel_rfl) (by simp) (AllReadyH.cons rfl (fun K hK => ?_) AllReadyH.nil)
  go_simp
  refine (HT _).mono ?_
  rintro e V1 ⟨rfl, lg⟩
  have L1 := L0.trans lg
  clear lg
  refine hK.out _ _ (L1.s _) (fun hHeld1 => ?_)
  clear hK K
  try simp only [Act.put, List.getElem_toArray, List.getElem_cons_succ, List.getElem_cons_zero, List.setIfInBounds_toArray, List.set_cons_zero, List.set_cons_succ]
  refine wpAnyH_ready (rs := [3]) (by kernel_rfl) (by simp) (AllReadyH.cons rfl (fun K hK => ?_) AllReadyH.nil)
  go_simp
  refine (HS _).mono ?_
  rintro e V2 ⟨b, u, c, rfl, r1, r2, r3, lg⟩
  have L2 := L1.trans lg
  clear lg
  refine hK.out _ _ (L2.s _) (fun hHeld2 => ?_)
  clear hK K
  try simp only [Act.put, List.getElem_toArray, List.getElem_cons_succ, List.getElem_cons_zero, List.setIfInBounds_toArray, List.set_cons_zero, List.set_cons_succ]
  refine wpAnyH_take (i := 4) (v := .agg #[.bool b, .int .u64 u.a0, .int .u64 u.a1, .int .u64 u.a2, .int .u64 u.a3, .int .u64 u.a4, .int .u64 u.a5, .int .u64 u.a6, .int .u64 u.a7]) rfl (by kernel_rfl) (by kernel_rfl) (by kernel_rfl) (fun _ _ _ h => h) (Or.inl ⟨by rfl, by intro w' hS; go_simp⟩) hHeld2 ?_
  simp only [Act.put, List.getElem_toArray, List.getElem_cons_succ, List.getElem_cons_zero, List.setIfInBounds_toArray, List.set_cons_zero, List.set_cons_succ]
  refine wpAnyH_take (i := 5) (v := .bool c) rfl (by kernel_rfl) (by kernel_rfl) (by kernel_rfl) (fun _ _ _ h => h) (Or.inl ⟨by rfl, by intro w' hS; go_simp⟩) hHeld2 ?_
  simp only [Act.put, List.getElem_toArray, List.getElem_cons_succ, List.getElem_cons_zero, List.setIfInBounds_toArray, List.set_cons_zero, List.set_cons_succ]
  refine wpAnyH_ready (rs := [6]) (by kernel_rfl) (by simp) (AllReadyH.cons rfl (fun K hK => ?_) AllReadyH.nil)
  rw [if_pos (by rfl)]
  have K5 := (k4.later L2)
  refine wp_store_mid 106 (.tmp 4) (.tmp 10) rfl (w.heap.size + 1 + 1) 0 #[.bool b, .int .u64 u.a0, .int .u64 u.a1, .int .u64 u.a2, .int .u64 u.a3, .int .u64 u.a4, .int .u64 u.a5, .int .u64 u.a6, .int .u64 u.a7] rfl rfl (K5.thereAll _ rfl) (by kernel_rfl) (by simp [Value.oneCell']) ?_
  have KS := K5.setCells #[.bool b, .int .u64 u.a0, .int .u64 u.a1, .int .u64 u.a2, .int .u64 u.a3, .int .u64 u.a4, .int .u64 u.a5, .int .u64 u.a6, .int .u64 u.a7] rfl
  have M9 : LatS W [w.heap.size + 1 + 1] (V2.setCells (w.heap.size + 1 + 1) 0 (#[.bool b, .int .u64 u.a0, .int .u64 u.a1, .int .u64 u.a2, .int .u64 u.a3, .int .u64 u.a4, .int .u64 u.a5, .int .u64 u.a6, .int .u64 u.a7] : Array Value).toList) := LatS.setCells (by simp) _ _ _ (L2.s _)
  have L9 : Lat w (V2.setCells (w.heap.size + 1 + 1) 0 (#[.bool b, .int .u64 u.a0, .int .u64 u.a1, .int .u64 u.a2, .int .u64 u.a3, .int .u64 u.a4, .int .u64 u.a5, .int .u64 u.a6, .int .u64 u.a7] : Array Value).toList) := Lat.setCells (by omega) _ _ _ (hl.trans L2)
  obtain ⟨V9, hV9⟩ : ∃ V, V2.setCells (w.heap.size + 1 + 1) 0 (#[.bool b, .int .u64 u.a0, .int .u64 u.a1, .int .u64 u.a2, .int .u64 u.a3, .int .u64 u.a4, .int .u64 u.a5, .int .u64 u.a6, .int .u64 u.a7] : Array Value).toList = V := ⟨_, rfl⟩
  rw [hV9] at KS M9 L9 ⊢
  clear hV9 K5
  refine hK.out _ _ M9 (fun hHeld3 => ?_)
  clear hK K
  try simp only [Act.put, List.getElem_toArray, List.getElem_cons_succ, List.getElem_cons_zero, List.setIfInBounds_toArray, List.set_cons_zero, List.set_cons_succ]
  refine wpAnyH_ready (rs := [7]) (by kernel_rfl) (by simp) (AllReadyH.cons rfl (fun K hK => ?_) AllReadyH.nil)
  go_simp
  refine hK.out _ _ M9 (fun hHeld4 => ?_)
  clear hK K
  try simp only [Act.put, List.getElem_toArray, List.getElem_cons_succ, List.getElem_cons_zero, List.setIfInBounds_toArray, List.set_cons_zero, List.set_cons_succ]
  refine wpAnyH_done (by kernel_rfl) ?_ _
  go_wp2
  have e0 := KS.cell 0
  have e1 := KS.cell 1
  have e2 := KS.cell 2
  have e3 := KS.cell 3
  have e4 := KS.cell 4
  have e5 := KS.cell 5
  have e6 := KS.cell 6
  have e7 := KS.cell 7
  have e8 := KS.cell 8
  refine bodyPost_ret (v := .tuple #[.agg #[.bool b, .int .u64 u.a0, .int .u64 u.a1, .int .u64 u.a2, .int .u64 u.a3, .int .u64 u.a4, .int .u64 u.a5, .int .u64 u.a6, .int .u64 u.a7], .bool c]) (by simp [results, Tryz.results98, go_sem, e0, e1, e2, e3, e4, e5, e6, e7, e8]) rfl ?_
  exact ⟨b, u, c, rfl, r1, r2, r3, L9⟩
end Go.Proofs.YtogkkhaepfablaaGreat
