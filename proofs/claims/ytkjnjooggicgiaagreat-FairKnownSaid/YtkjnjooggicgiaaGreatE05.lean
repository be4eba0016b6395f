/- Several texts in one: FrH. -/
import Derived.Test.YtkjnjooggicgiaaGreatE04
import Derived.Test.YtkjnjooggicgiaaGreatJ26

/- Fair: Hill's inequality. -/
namespace Go.Proofs.YtkjnjooggicgiaaGreat
open Go.RowKit
set_option linter.unusedSimpArgs false

set_option maxRecDepth 100000 in
set_option maxHeartbeats 4000000 in
theorem fHill (p s q t : Int) (X : Array Value) (b : Bool) (hX : GoodX X) (hp0 : -9223372036854775808 ≤ s * q ∧ s * q ≤ 9223372036854775807 ∧ -9223372036854775808 ≤ s ∧ s ≤ 9223372036854775807) (hp1 : -9223372036854775808 ≤ t * p ∧ t * p ≤ 9223372036854775807 ∧ -9223372036854775808 ≤ t ∧ t ≤ 9223372036854775807)
    (HG : ∀ w, Calls Tryz.prog 22 #[.int .i64 (s * q), .int .i64 (t * p), .int .i64 1, .int .i64 1] w (ShB w X b)) (w : World) :
    Calls Tryz.prog 43 #[.agg (sideC p s q t)] w (ShB w X b) := by
  have i1 := Lib.hid hX.info
  have z1 := Lib.hid hX.1
  have c1 := Lib.hid hX.2.1
  have G1 := Lib.hid hX.cells
  have HP0 : ∀ (w : World) (g : Nat), Blk w g 3 #[.int .i64 s, .int .i64 q] → Calls Tryz.prog 23 #[.slice (some ⟨g, 0, none⟩) 2 2] w (fun e w' => e = .returned (.int .i64 (s * q)) ∧ w = w') := fun w g hk => fProduct_any s q g 2 _ w hk hp0.2.2.1 hp0.2.2.2 hp0.1 hp0.2.1
  have HP1 : ∀ (w : World) (g : Nat), Blk w g 3 #[.int .i64 t, .int .i64 p] → Calls Tryz.prog 23 #[.slice (some ⟨g, 0, none⟩) 2 2] w (fun e w' => e = .returned (.int .i64 (t * p)) ∧ w = w') := fun w g hk => fProduct_any t p g 2 _ w hk hp1.2.2.1 hp1.2.2.2 hp1.1 hp1.2.1
  clear hX hp0 hp1
  unfold sideC
  go_enter Tryz.func43, Tryz.ntmps43
  go_upto_region 1 with (fail)
  refine name2 (Q := fun W => Code.wp _ _ _ _ W) ?_
  intro W hl hs k1 k2
  have hne : w.heap.size ∉ [w.heap.size + 1] := by simp
  have a0 := k1.evS hne 0 rfl
  have a1 := k1.evS hne 1 rfl
  have a2 := k1.evS hne 2 rfl
  have a3 := k1.evS hne 3 rfl
  have L0 := Lat.drew W
  refine wp_region_held_drew (S := fun w' => LatS W [w.heap.size + 1] w') (by kernel_rfl) (L0.s _) (fun hHeld => ?_)
  generalize W.drew = V0 at L0 hHeld ⊢
  refine wpAnyH_take (i := 0) (v := .pointer (some ⟨w.heap.size, 0, none⟩)) rfl (by kernel_rfl) (by kernel_rfl) (by kernel_rfl) (fun _ _ _ h => h) (Or.inl ⟨by rfl, by intro w' hS; go_simp⟩) hHeld ?_
  simp only [Act.put, List.setIfInBounds_toArray, List.set_cons_zero, List.set_cons_succ]
  refine wpAnyH_take (i := 1) (v := .pointer (some ⟨w.heap.size, 1, none⟩)) rfl (by kernel_rfl) (by kernel_rfl) (by kernel_rfl) (fun _ _ _ h => h) (Or.inl ⟨by rfl, by intro w' hS; go_simp⟩) hHeld ?_
  simp only [Act.put, List.setIfInBounds_toArray, List.set_cons_zero, List.set_cons_succ]
  refine wpAnyH_take (i := 2) (v := .int .i64 (s)) rfl (by kernel_rfl) (by kernel_rfl) (by kernel_rfl) (fun _ _ _ h => h) (Or.inl ⟨by rfl, by intro w' hS; have hc := a1 w' hS; go_simp⟩) hHeld ?_
  simp only [Act.put, List.setIfInBounds_toArray, List.set_cons_zero, List.set_cons_succ]
  refine wpAnyH_take (i := 3) (v := .pointer (some ⟨w.heap.size, 2, none⟩)) rfl (by kernel_rfl) (by kernel_rfl) (by kernel_rfl) (fun _ _ _ h => h) (Or.inl ⟨by rfl, by intro w' hS; go_simp⟩) hHeld ?_
  simp only [Act.put, List.setIfInBounds_toArray, List.set_cons_zero, List.set_cons_succ]
  refine wpAnyH_take (i := 4) (v := .pointer (some ⟨w.heap.size, 2, none⟩)) rfl (by kernel_rfl) (by kernel_rfl) (by kernel_rfl) (fun _ _ _ h => h) (Or.inl ⟨by rfl, by intro w' hS; go_simp⟩) hHeld ?_
  simp only [Act.put, List.setIfInBounds_toArray, List.set_cons_zero, List.set_cons_succ]
  refine wpAnyH_take (i := 5) (v := .int .i64 (q)) rfl (by kernel_rfl) (by kernel_rfl) (by kernel_rfl) (fun _ _ _ h => h) (Or.inl ⟨by rfl, by intro w' hS; have hc := a2 w' hS; go_simp⟩) hHeld ?_
  simp only [Act.put, List.setIfInBounds_toArray, List.set_cons_zero, List.set_cons_succ]
  refine wpAnyH_take (i := 8) (v := .pointer (some ⟨w.heap.size, 2, none⟩)) rfl (by kernel_rfl) (by kernel_rfl) (by kernel_rfl) (fun _ _ _ h => h) (Or.inl ⟨by rfl, by intro w' hS; go_simp⟩) hHeld ?_
  simp only [Act.put, List.setIfInBounds_toArray, List.set_cons_zero, List.set_cons_succ]
  refine wpAnyH_take (i := 9) (v := .pointer (some ⟨w.heap.size, 3, none⟩)) rfl (by kernel_rfl) (by kernel_rfl) (by kernel_rfl) (fun _ _ _ h => h) (Or.inl ⟨by rfl, by intro w' hS; go_simp⟩) hHeld ?_
  simp only [Act.put, List.setIfInBounds_toArray, List.set_cons_zero, List.set_cons_succ]
  refine wpAnyH_take (i := 10) (v := .int .i64 (t)) rfl (by kernel_rfl) (by kernel_rfl) (by kernel_rfl) (fun _ _ _ h => h) (Or.inl ⟨by rfl, by intro w' hS; have hc := a3 w' hS; go_simp⟩) hHeld ?_
  simp only [Act.put, List.setIfInBounds_toArray, List.set_cons_zero, List.set_cons_succ]
  refine wpAnyH_take (i := 11) (v := .pointer (some ⟨w.heap.size, 0, none⟩)) rfl (by kernel_rfl) (by kernel_rfl) (by kernel_rfl) (fun _ _ _ h => h) (Or.inl ⟨by rfl, by intro w' hS; go_simp⟩) hHeld ?_
  simp only [Act.put, List.setIfInBounds_toArray, List.set_cons_zero, List.set_cons_succ]
  refine wpAnyH_take (i := 12) (v := .pointer (some ⟨w.heap.size, 0, none⟩)) rfl (by kernel_rfl) (by kernel_rfl) (by kernel_rfl) (fun _ _ _ h => h) (Or.inl ⟨by rfl, by intro w' hS; go_simp⟩) hHeld ?_
  simp only [Act.put, List.setIfInBounds_toArray, List.set_cons_zero, List.set_cons_succ]
  refine wpAnyH_take (i := 13) (v := .int .i64 (p)) rfl (by kernel_rfl) (by kernel_rfl) (by kernel_rfl) (fun _ _ _ h => h) (Or.inl ⟨by rfl, by intro w' hS; have hc := a0 w' hS; go_simp⟩) hHeld ?_
  simp only [Act.put, List.setIfInBounds_toArray, List.set_cons_zero, List.set_cons_succ]
  refine wpAnyH_ready (rs := [6, 14]) (by kernel_rfl) (by simp) (AllReadyH.cons rfl (fun K hK => ?_) (AllReadyH.cons rfl (fun K hK => ?_) AllReadyH.nil))
  · skip
    go_simp
    have b6 := Blk.new V0 3 #[.int .i64 s, .int .i64 q]
    have La := Lat.alloc V0 (.cells #[.int .i64 s, .int .i64 q] 3)
    obtain ⟨V1, hV⟩ : ∃ V, V0.alloc (.cells #[.int .i64 s, .int .i64 q] 3) = V := ⟨_, rfl⟩
    rw [hV] at b6 La ⊢
    clear hV
    have L1 := L0.trans La
    refine hK.out _ _ (L1.s _) (fun hHeld1 => ?_)
    clear hK K
    try simp only [Act.put, List.setIfInBounds_toArray, List.set_cons_zero, List.set_cons_succ]
    clear La
    refine wpAnyH_ready (rs := [7, 14]) (by kernel_rfl) (by simp) (AllReadyH.cons rfl (fun K hK => ?_) (AllReadyH.cons rfl (fun K hK => ?_) AllReadyH.nil))
    · skip
      go_simp
      refine (HP0 _ _ b6).mono ?_
      rintro e V' ⟨rfl, rfl⟩
      refine hK.out _ _ (L1.s _) (fun hHeld2 => ?_)
      clear hK K
      try simp only [Act.put, List.setIfInBounds_toArray, List.set_cons_zero, List.set_cons_succ]
      refine wpAnyH_ready (rs := [14]) (by kernel_rfl) (by simp) (AllReadyH.cons rfl (fun K hK => ?_) AllReadyH.nil)
      go_simp
      have b14 := Blk.new V1 3 #[.int .i64 t, .int .i64 p]
      have La := Lat.alloc V1 (.cells #[.int .i64 t, .int .i64 p] 3)
      obtain ⟨V2, hV⟩ : ∃ V, V1.alloc (.cells #[.int .i64 t, .int .i64 p] 3) = V := ⟨_, rfl⟩
      rw [hV] at b14 La ⊢
      clear hV
      have L2 := L1.trans La
      have b6 := b6.later La
      refine hK.out _ _ (L2.s _) (fun hHeld3 => ?_)
      clear hK K
      try simp only [Act.put, List.setIfInBounds_toArray, List.set_cons_zero, List.set_cons_succ]
      clear La
      refine wpAnyH_ready (rs := [15]) (by kernel_rfl) (by simp) (AllReadyH.cons rfl (fun K hK => ?_) AllReadyH.nil)
      go_simp
      refine (HP1 _ _ b14).mono ?_
      rintro e V' ⟨rfl, rfl⟩
      refine hK.out _ _ (L2.s _) (fun hHeld4 => ?_)
      clear hK K
      try simp only [Act.put, List.setIfInBounds_toArray, List.set_cons_zero, List.set_cons_succ]
      refine wpAnyH_ready (rs := [16]) (by kernel_rfl) (by simp) (AllReadyH.cons rfl (fun K hK => ?_) AllReadyH.nil)
      go_simp
      refine (HG _).mono ?_
      rintro e V3 ⟨rfl, lg⟩
      have L3 := L2.trans lg
      clear lg
      refine hK.out _ _ (L3.s _) (fun hHeld5 => ?_)
      clear hK K
      try simp only [Act.put, List.setIfInBounds_toArray, List.set_cons_zero, List.set_cons_succ]
      refine wpAnyH_take (i := 17) (v := .agg X) rfl (by kernel_rfl) (by kernel_rfl) (by kernel_rfl) (fun _ _ _ h => h) (Or.inl ⟨by rfl, by intro w' hS; go_simp⟩) hHeld5 ?_
      simp only [Act.put, List.setIfInBounds_toArray, List.set_cons_zero, List.set_cons_succ]
      refine wpAnyH_take (i := 18) (v := .bool b) rfl (by kernel_rfl) (by kernel_rfl) (by kernel_rfl) (fun _ _ _ h => h) (Or.inl ⟨by rfl, by intro w' hS; go_simp⟩) hHeld5 ?_
      simp only [Act.put, List.setIfInBounds_toArray, List.set_cons_zero, List.set_cons_succ]
      refine wpAnyH_ready (rs := [19]) (by kernel_rfl) (by simp) (AllReadyH.cons rfl (fun K hK => ?_) AllReadyH.nil)
      rw [if_pos (by rfl)]
      have K5 := k2.later L3
      refine wp_store_mid 35 (.tmp 2) (.tmp 21) rfl (w.heap.size + 1) 0 X rfl rfl (K5.thereAll _ (by rw [z1.out]; rfl)) i1.out c1.out ?_
      have KS := K5.setCells X (by rw [z1.out]; rfl)
      have M9 : LatS W [w.heap.size + 1] (V3.setCells (w.heap.size + 1) 0 X.toList) := LatS.setCells (by simp) _ _ _ (L3.s _)
      have L9 : Lat w (V3.setCells (w.heap.size + 1) 0 X.toList) := Lat.setCells (by omega) _ _ _ (hl.trans L3)
      obtain ⟨V9, hV9⟩ : ∃ V, V3.setCells (w.heap.size + 1) 0 X.toList = V := ⟨_, rfl⟩
      rw [hV9] at KS M9 L9 ⊢
      clear hV9 K5
      refine hK.out _ _ M9 (fun hHeld6 => ?_)
      clear hK K
      try simp only [Act.put, List.setIfInBounds_toArray, List.set_cons_zero, List.set_cons_succ]
      refine wpAnyH_ready (rs := [20]) (by kernel_rfl) (by simp) (AllReadyH.cons rfl (fun K hK => ?_) AllReadyH.nil)
      go_simp
      refine hK.out _ _ M9 (fun hHeld7 => ?_)
      clear hK K
      try simp only [Act.put, List.setIfInBounds_toArray, List.set_cons_zero, List.set_cons_succ]
      refine wpAnyH_done (by kernel_rfl) ?_ _
      go_wp2
      obtain ⟨u, v, rfl⟩ := G1.out
      have e0 := KS.cell 0
      have e1 := KS.cell 1
      have e2 := KS.cell 2
      have e3 := KS.cell 3
      have e4 := KS.cell 4
      have e5 := KS.cell 5
      have e6 := KS.cell 6
      have e7 := KS.cell 7
      have e8 := KS.cell 8
      have e9 := KS.cell 9
      have e10 := KS.cell 10
      have e11 := KS.cell 11
      have e12 := KS.cell 12
      have e13 := KS.cell 13
      have e14 := KS.cell 14
      have e15 := KS.cell 15
      refine bodyPost_ret (v := .tuple #[.agg #[.int .u64 u.a0, .int .u64 u.a1, .int .u64 u.a2, .int .u64 u.a3, .int .u64 u.a4, .int .u64 u.a5, .int .u64 u.a6, .int .u64 u.a7, .int .u64 v.a0, .int .u64 v.a1, .int .u64 v.a2, .int .u64 v.a3, .int .u64 v.a4, .int .u64 v.a5, .int .u64 v.a6, .int .u64 v.a7], .bool b]) (by simp [results, Tryz.results43, go_sem, e0, e1, e2, e3, e4, e5, e6, e7, e8, e9, e10, e11, e12, e13, e14, e15]) rfl ?_
      exact ⟨rfl, L9⟩
    · skip
      go_simp
      have b14 := Blk.new V1 3 #[.int .i64 t, .int .i64 p]
      have La := Lat.alloc V1 (.cells #[.int .i64 t, .int .i64 p] 3)
      obtain ⟨V2, hV⟩ : ∃ V, V1.alloc (.cells #[.int .i64 t, .int .i64 p] 3) = V := ⟨_, rfl⟩
      rw [hV] at b14 La ⊢
      clear hV
      have L2 := L1.trans La
      have b6 := b6.later La
      refine hK.out _ _ (L2.s _) (fun hHeld2 => ?_)
      clear hK K
      try simp only [Act.put, List.setIfInBounds_toArray, List.set_cons_zero, List.set_cons_succ]
      clear La
      refine wpAnyH_ready (rs := [7]) (by kernel_rfl) (by simp) (AllReadyH.cons rfl (fun K hK => ?_) AllReadyH.nil)
      go_simp
      refine (HP0 _ _ b6).mono ?_
      rintro e V' ⟨rfl, rfl⟩
      refine hK.out _ _ (L2.s _) (fun hHeld3 => ?_)
      clear hK K
      try simp only [Act.put, List.setIfInBounds_toArray, List.set_cons_zero, List.set_cons_succ]
      refine wpAnyH_ready (rs := [15]) (by kernel_rfl) (by simp) (AllReadyH.cons rfl (fun K hK => ?_) AllReadyH.nil)
      go_simp
      refine (HP1 _ _ b14).mono ?_
      rintro e V' ⟨rfl, rfl⟩
      refine hK.out _ _ (L2.s _) (fun hHeld4 => ?_)
      clear hK K
      try simp only [Act.put, List.setIfInBounds_toArray, List.set_cons_zero, List.set_cons_succ]
      refine wpAnyH_ready (rs := [16]) (by kernel_rfl) (by simp) (AllReadyH.cons rfl (fun K hK => ?_) AllReadyH.nil)
      go_simp
      refine (HG _).mono ?_
      rintro e V3 ⟨rfl, lg⟩
      have L3 := L2.trans lg
      clear lg
      refine hK.out _ _ (L3.s _) (fun hHeld5 => ?_)
      clear hK K
      try simp only [Act.put, List.setIfInBounds_toArray, List.set_cons_zero, List.set_cons_succ]
      refine wpAnyH_take (i := 17) (v := .agg X) rfl (by kernel_rfl) (by kernel_rfl) (by kernel_rfl) (fun _ _ _ h => h) (Or.inl ⟨by rfl, by intro w' hS; go_simp⟩) hHeld5 ?_
      simp only [Act.put, List.setIfInBounds_toArray, List.set_cons_zero, List.set_cons_succ]
      refine wpAnyH_take (i := 18) (v := .bool b) rfl (by kernel_rfl) (by kernel_rfl) (by kernel_rfl) (fun _ _ _ h => h) (Or.inl ⟨by rfl, by intro w' hS; go_simp⟩) hHeld5 ?_
      simp only [Act.put, List.setIfInBounds_toArray, List.set_cons_zero, List.set_cons_succ]
      refine wpAnyH_ready (rs := [19]) (by kernel_rfl) (by simp) (AllReadyH.cons rfl (fun K hK => ?_) AllReadyH.nil)
      rw [if_pos (by rfl)]
      have K5 := k2.later L3
      refine wp_store_mid 35 (.tmp 2) (.tmp 21) rfl (w.heap.size + 1) 0 X rfl rfl (K5.thereAll _ (by rw [z1.out]; rfl)) i1.out c1.out ?_
      have KS := K5.setCells X (by rw [z1.out]; rfl)
      have M9 : LatS W [w.heap.size + 1] (V3.setCells (w.heap.size + 1) 0 X.toList) := LatS.setCells (by simp) _ _ _ (L3.s _)
      have L9 : Lat w (V3.setCells (w.heap.size + 1) 0 X.toList) := Lat.setCells (by omega) _ _ _ (hl.trans L3)
      obtain ⟨V9, hV9⟩ : ∃ V, V3.setCells (w.heap.size + 1) 0 X.toList = V := ⟨_, rfl⟩
      rw [hV9] at KS M9 L9 ⊢
      clear hV9 K5
      refine hK.out _ _ M9 (fun hHeld6 => ?_)
      clear hK K
      try simp only [Act.put, List.setIfInBounds_toArray, List.set_cons_zero, List.set_cons_succ]
      refine wpAnyH_ready (rs := [20]) (by kernel_rfl) (by simp) (AllReadyH.cons rfl (fun K hK => ?_) AllReadyH.nil)
      go_simp
      refine hK.out _ _ M9 (fun hHeld7 => ?_)
      clear hK K
      try simp only [Act.put, List.setIfInBounds_toArray, List.set_cons_zero, List.set_cons_succ]
      refine wpAnyH_done (by kernel_rfl) ?_ _
      go_wp2
      obtain ⟨u, v, rfl⟩ := G1.out
      have e0 := KS.cell 0
      have e1 := KS.cell 1
      have e2 := KS.cell 2
      have e3 := KS.cell 3
      have e4 := KS.cell 4
      have e5 := KS.cell 5
      have e6 := KS.cell 6
      have e7 := KS.cell 7
      have e8 := KS.cell 8
      have e9 := KS.cell 9
      have e10 := KS.cell 10
      have e11 := KS.cell 11
      have e12 := KS.cell 12
      have e13 := KS.cell 13
      have e14 := KS.cell 14
      have e15 := KS.cell 15
      refine bodyPost_ret (v := .tuple #[.agg #[.int .u64 u.a0, .int .u64 u.a1, .int .u64 u.a2, .int .u64 u.a3, .int .u64 u.a4, .int .u64 u.a5, .int .u64 u.a6, .int .u64 u.a7, .int .u64 v.a0, .int .u64 v.a1, .int .u64 v.a2, .int .u64 v.a3, .int .u64 v.a4, .int .u64 v.a5, .int .u64 v.a6, .int .u64 v.a7], .bool b]) (by simp [results, Tryz.results43, go_sem, e0, e1, e2, e3, e4, e5, e6, e7, e8, e9, e10, e11, e12, e13, e14, e15]) rfl ?_
      exact ⟨rfl, L9⟩
  · skip
    go_simp
    have b14 := Blk.new V0 3 #[.int .i64 t, .int .i64 p]
    have La := Lat.alloc V0 (.cells #[.int .i64 t, .int .i64 p] 3)
    obtain ⟨V1, hV⟩ : ∃ V, V0.alloc (.cells #[.int .i64 t, .int .i64 p] 3) = V := ⟨_, rfl⟩
    rw [hV] at b14 La ⊢
    clear hV
    have L1 := L0.trans La
    refine hK.out _ _ (L1.s _) (fun hHeld1 => ?_)
    clear hK K
    try simp only [Act.put, List.setIfInBounds_toArray, List.set_cons_zero, List.set_cons_succ]
    clear La
    refine wpAnyH_ready (rs := [6]) (by kernel_rfl) (by simp) (AllReadyH.cons rfl (fun K hK => ?_) AllReadyH.nil)
    go_simp
    have b6 := Blk.new V1 3 #[.int .i64 s, .int .i64 q]
    have La := Lat.alloc V1 (.cells #[.int .i64 s, .int .i64 q] 3)
    obtain ⟨V2, hV⟩ : ∃ V, V1.alloc (.cells #[.int .i64 s, .int .i64 q] 3) = V := ⟨_, rfl⟩
    rw [hV] at b6 La ⊢
    clear hV
    have L2 := L1.trans La
    have b14 := b14.later La
    refine hK.out _ _ (L2.s _) (fun hHeld2 => ?_)
    clear hK K
    try simp only [Act.put, List.setIfInBounds_toArray, List.set_cons_zero, List.set_cons_succ]
    clear La
    refine wpAnyH_ready (rs := [7]) (by kernel_rfl) (by simp) (AllReadyH.cons rfl (fun K hK => ?_) AllReadyH.nil)
    go_simp
    refine (HP0 _ _ b6).mono ?_
    rintro e V' ⟨rfl, rfl⟩
    refine hK.out _ _ (L2.s _) (fun hHeld3 => ?_)
    clear hK K
    try simp only [Act.put, List.setIfInBounds_toArray, List.set_cons_zero, List.set_cons_succ]
    refine wpAnyH_ready (rs := [15]) (by kernel_rfl) (by simp) (AllReadyH.cons rfl (fun K hK => ?_) AllReadyH.nil)
    go_simp
    refine (HP1 _ _ b14).mono ?_
    rintro e V' ⟨rfl, rfl⟩
    refine hK.out _ _ (L2.s _) (fun hHeld4 => ?_)
    clear hK K
    try simp only [Act.put, List.setIfInBounds_toArray, List.set_cons_zero, List.set_cons_succ]
    refine wpAnyH_ready (rs := [16]) (by kernel_rfl) (by simp) (AllReadyH.cons rfl (fun K hK => ?_) AllReadyH.nil)
    go_simp
    refine (HG _).mono ?_
    rintro e V3 ⟨rfl, lg⟩
    have L3 := L2.trans lg
    clear lg
    refine hK.out _ _ (L3.s _) (fun hHeld5 => ?_)
    clear hK K
    try simp only [Act.put, List.setIfInBounds_toArray, List.set_cons_zero, List.set_cons_succ]
    refine wpAnyH_take (i := 17) (v := .agg X) rfl (by kernel_rfl) (by kernel_rfl) (by kernel_rfl) (fun _ _ _ h => h) (Or.inl ⟨by rfl, by intro w' hS; go_simp⟩) hHeld5 ?_
    simp only [Act.put, List.setIfInBounds_toArray, List.set_cons_zero, List.set_cons_succ]
    refine wpAnyH_take (i := 18) (v := .bool b) rfl (by kernel_rfl) (by kernel_rfl) (by kernel_rfl) (fun _ _ _ h => h) (Or.inl ⟨by rfl, by intro w' hS; go_simp⟩) hHeld5 ?_
    simp only [Act.put, List.setIfInBounds_toArray, List.set_cons_zero, List.set_cons_succ]
    refine wpAnyH_ready (rs := [19]) (by kernel_rfl) (by simp) (AllReadyH.cons rfl (fun K hK => ?_) AllReadyH.nil)
    rw [if_pos (by rfl)]
    have K5 := k2.later L3
    refine wp_store_mid 35 (.tmp 2) (.tmp 21) rfl (w.heap.size + 1) 0 X rfl rfl (K5.thereAll _ (by rw [z1.out]; rfl)) i1.out c1.out ?_
    have KS := K5.setCells X (by rw [z1.out]; rfl)
    have M9 : LatS W [w.heap.size + 1] (V3.setCells (w.heap.size + 1) 0 X.toList) := LatS.setCells (by simp) _ _ _ (L3.s _)
    have L9 : Lat w (V3.setCells (w.heap.size + 1) 0 X.toList) := Lat.setCells (by omega) _ _ _ (hl.trans L3)
    obtain ⟨V9, hV9⟩ : ∃ V, V3.setCells (w.heap.size + 1) 0 X.toList = V := ⟨_, rfl⟩
    rw [hV9] at KS M9 L9 ⊢
    clear hV9 K5
    refine hK.out _ _ M9 (fun hHeld6 => ?_)
    clear hK K
    try simp only [Act.put, List.setIfInBounds_toArray, List.set_cons_zero, List.set_cons_succ]
    refine wpAnyH_ready (rs := [20]) (by kernel_rfl) (by simp) (AllReadyH.cons rfl (fun K hK => ?_) AllReadyH.nil)
    go_simp
    refine hK.out _ _ M9 (fun hHeld7 => ?_)
    clear hK K
    try simp only [Act.put, List.setIfInBounds_toArray, List.set_cons_zero, List.set_cons_succ]
    refine wpAnyH_done (by kernel_rfl) ?_ _
    go_wp2
    obtain ⟨u, v, rfl⟩ := G1.out
    have e0 := KS.cell 0
    have e1 := KS.cell 1
    have e2 := KS.cell 2
    have e3 := KS.cell 3
    have e4 := KS.cell 4
    have e5 := KS.cell 5
    have e6 := KS.cell 6
    have e7 := KS.cell 7
    have e8 := KS.cell 8
    have e9 := KS.cell 9
    have e10 := KS.cell 10
    have e11 := KS.cell 11
    have e12 := KS.cell 12
    have e13 := KS.cell 13
    have e14 := KS.cell 14
    have e15 := KS.cell 15
    refine bodyPost_ret (v := .tuple #[.agg #[.int .u64 u.a0, .int .u64 u.a1, .int .u64 u.a2, .int .u64 u.a3, .int .u64 u.a4, .int .u64 u.a5, .int .u64 u.a6, .int .u64 u.a7, .int .u64 v.a0, .int .u64 v.a1, .int .u64 v.a2, .int .u64 v.a3, .int .u64 v.a4, .int .u64 v.a5, .int .u64 v.a6, .int .u64 v.a7], .bool b]) (by simp [results, Tryz.results43, go_sem, e0, e1, e2, e3, e4, e5, e6, e7, e8, e9, e10, e11, e12, e13, e14, e15]) rfl ?_
    exact ⟨rfl, L9⟩
end Go.Proofs.YtkjnjooggicgiaaGreat
