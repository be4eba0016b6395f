/- Several texts in one: KnB. -/
import Derived.Test.YtkjnjooggicgiaaE09

/- DivisorKnown answers true, whatever the world. -/
namespace Go.Proofs.Ytkjnjooggicgiaa
open Go.RowKit Go.Shelf
set_option linter.unusedSimpArgs false

set_option maxRecDepth 100000 in
set_option maxHeartbeats 8000000 in
theorem dKnown_law (w : World) : Calls Try.prog 3 #[] w (Yes w) := by
  go_enter Try.func3, Try.ntmps3
  go_wp2_with fail
  refine (wakes_any w).mono ?_
  rintro e w1 ⟨rfl, l1⟩
  go_wp2_with fail
  refine name1 (Q := fun W => Code.wp _ _ _ _ W) ?_
  intro W1 L1 hs1 k1
  go_loopw [57] (fun i wr => ∃ j : Nat, j ≤ 5 ∧ i = .int .i64 j ∧ Lat W1 wr) (fun i _ => 5 - (intOf i).toNat)
  case atStart => exact ⟨0, by omega, rfl, Lat.refl _⟩
  case round =>
    obtain ⟨j, hj, rfl, hl⟩ := hrel
    by_cases hlt : j < 5
    · obtain ⟨m, s, c0, c1, hbad⟩ := xs1_bad j hlt
      have hr : wr.rangeAt w1.heap.size (j * 2) [.int .i64 m, .int .i64 s] := by
        intro q v hq
        have kk := k1.later hl
        match q, hq with
        | 0, hq => cases hq; rw [kk.cell]; exact c0
        | 1, hq => cases hq; rw [kk.cell]; exact c1
      have hltI : (j : Int) < 5 := by omega
      have HP := fun w => dPostX m s w
      have HR := fun w => dRankX m (-1) s w
      have HA := fun w => dAboveX m 0 s 0 s w
      rw [post_bad hbad] at HP
      rw [rank_bad _ hbad] at HR
      rw [above_zero] at HA
      have G1 := postX_good m s
      have G2 := rankX_good m (-1) s
      obtain ⟨X1, hX1⟩ : ∃ X, postX m s = X := ⟨_, rfl⟩
      obtain ⟨X2, hX2⟩ : ∃ X, rankX m (-1) s = X := ⟨_, rfl⟩
      rw [hX1] at HP G1
      rw [hX2] at HR G2
      have i1 := Lib.hid G1.info
      have i2 := Lib.hid G2.info
      have z1 := Lib.hid G1.1
      have z2 := Lib.hid G2.1
      have e1 := Lib.hid G1.2.1
      have e2 := Lib.hid G2.2.1
      clear G1 G2 hX1 hX2 c0 c1 hbad
      go_wp2_with (refine wpList_load_mid (by rfl) 23 (.tmp 59) (by rfl) w1.heap.size (j * 2) (by rfl) [.int .i64 m, .int .i64 s] _ hr Try.underlying23 rfl arr2 ?_)
      refine name1 (Q := fun W => Calls _ _ _ W _) ?_
      intro W2 L2 hs2 k2
      refine (HP W2).mono ?_
      rintro e V1 ⟨rfl, lv⟩
      have K0 := Blk.new V1 29 #[.int .u64 W8.zero.a0, .int .u64 W8.zero.a1, .int .u64 W8.zero.a2, .int .u64 W8.zero.a3, .int .u64 W8.zero.a4, .int .u64 W8.zero.a5, .int .u64 W8.zero.a6, .int .u64 W8.zero.a7, .int .u64 W8.zero.a0, .int .u64 W8.zero.a1, .int .u64 W8.zero.a2, .int .u64 W8.zero.a3, .int .u64 W8.zero.a4, .int .u64 W8.zero.a5, .int .u64 W8.zero.a6, .int .u64 W8.zero.a7]
      go_wp2_with (refine wpList_put rfl 29 (.tmp 3) (.tmp 67) (by rfl) (by rfl) V1.heap.size (by rfl) X1 (by rfl) K0 (by rw [z1.out]; rfl) i1.out e1.out ?_; intro W3 hput; have m1 := hput.lat _ (lv.trans (Lat.alloc _ _)) (by have := lv.size; omega); have k3 := k2.later m1; have q0 := k3.cell 0; have q1 := k3.cell 1)
      have L3 := L2.trans m1
      clear K0 hput lv m1 k2 L2 HP
      refine (HR W3).mono ?_
      rintro e V2 ⟨rfl, lv⟩
      have K0 := Blk.new V2 29 #[.int .u64 W8.zero.a0, .int .u64 W8.zero.a1, .int .u64 W8.zero.a2, .int .u64 W8.zero.a3, .int .u64 W8.zero.a4, .int .u64 W8.zero.a5, .int .u64 W8.zero.a6, .int .u64 W8.zero.a7, .int .u64 W8.zero.a0, .int .u64 W8.zero.a1, .int .u64 W8.zero.a2, .int .u64 W8.zero.a3, .int .u64 W8.zero.a4, .int .u64 W8.zero.a5, .int .u64 W8.zero.a6, .int .u64 W8.zero.a7]
      clear q0 q1
      go_wp2_with (refine wpList_put rfl 29 (.tmp 5) (.tmp 75) (by rfl) (by rfl) V2.heap.size (by rfl) X2 (by rfl) K0 (by rw [z2.out]; rfl) i2.out e2.out ?_; intro W4 hput; have m1 := hput.lat _ (lv.trans (Lat.alloc _ _)) (by have := lv.size; omega); have k4 := k3.later m1; have q0 := k4.cell 0; have q1 := k4.cell 1)
      have L4 := L3.trans m1
      clear K0 hput lv m1 k3 L3 HR
      refine (HA W4).mono ?_
      rintro e W5 ⟨rfl, lv⟩
      have LE := L4.trans lv
      clear q0 q1 k4 HA L4 lv
      go_wp2
      go_roundw
      case rel => exact ⟨j + 1, by omega, by go_num, hl.trans LE⟩
      case measure => simp [intOf]; omega
    · obtain rfl : j = 5 := by omega
      have HR1 := fun w => dRankX 11 (-1) 0 w
      rw [lk_r1] at HR1
      have HR2 := fun w => dRankX 14 1000000001 0 w
      rw [lk_r2] at HR2
      have HR3 := fun w => dRankX 14 0 0 w
      rw [lk_r3.1, lk_r3.2] at HR3
      have HR4 := fun w => dRankX 12 0 0 w
      rw [lk_r4] at HR4
      have HR5 := fun w => dRankX 13 0 0 w
      rw [lk_r5] at HR5
      have HR6 := fun w => dRankX 13 1000000000 1000 w
      rw [lk_r6.1, lk_r6.2] at HR6
      have GR1 := rankX_good 11 (-1) 0
      obtain ⟨XR1, hXR1⟩ : ∃ X, rankX 11 (-1) 0 = X := ⟨_, rfl⟩
      rw [hXR1] at HR1 GR1
      have iR1 := Lib.hid GR1.info
      have zR1 := Lib.hid GR1.1
      have cR1 := Lib.hid GR1.2.1
      clear hXR1 GR1
      have GR2 := rankX_good 14 1000000001 0
      obtain ⟨XR2, hXR2⟩ : ∃ X, rankX 14 1000000001 0 = X := ⟨_, rfl⟩
      rw [hXR2] at HR2 GR2
      have iR2 := Lib.hid GR2.info
      have zR2 := Lib.hid GR2.1
      have cR2 := Lib.hid GR2.2.1
      clear hXR2 GR2
      have GR3 := shA_good 0 1
      obtain ⟨XR3, hXR3⟩ : ∃ X, shA 0 1 = X := ⟨_, rfl⟩
      rw [hXR3] at HR3 GR3
      have iR3 := Lib.hid GR3.info
      have zR3 := Lib.hid GR3.1
      have cR3 := Lib.hid GR3.2.1
      have GR4 := rankX_good 12 0 0
      obtain ⟨XR4, hXR4⟩ : ∃ X, rankX 12 0 0 = X := ⟨_, rfl⟩
      rw [hXR4] at HR4 GR4
      have iR4 := Lib.hid GR4.info
      have zR4 := Lib.hid GR4.1
      have cR4 := Lib.hid GR4.2.1
      clear hXR4 GR4
      have GR5 := rankX_good 13 0 0
      obtain ⟨XR5, hXR5⟩ : ∃ X, rankX 13 0 0 = X := ⟨_, rfl⟩
      rw [hXR5] at HR5 GR5
      have iR5 := Lib.hid GR5.info
      have zR5 := Lib.hid GR5.1
      have cR5 := Lib.hid GR5.2.1
      clear hXR5 GR5
      have GR6 := shA_good 1000000000000000000 1001000
      obtain ⟨XR6, hXR6⟩ : ∃ X, shA 1000000000000000000 1001000 = X := ⟨_, rfl⟩
      rw [hXR6] at HR6 GR6
      have iR6 := Lib.hid GR6.info
      have zR6 := Lib.hid GR6.1
      have cR6 := Lib.hid GR6.2.1
      have HA1 := fun w => dAboveX 13 1000000000 1000 999999999 999 w
      rw [lk_a1.1, lk_a1.2] at HA1
      have HA2 := fun w => dAboveX 13 0 5 1 5 w
      rw [lk_a2.1, lk_a2.2] at HA2
      have HA3 := fun w => dAboveX 13 1 5 1000000001 5 w
      rw [lk_a3.1, lk_a3.2] at HA3
      have HA4 := fun w => dAboveX 11 1 0 1000000000 1 w
      rw [lk_a4.1, lk_a4.2] at HA4
      have HA5 := fun w => dAboveX 12 7 0 7 0 w
      rw [lk_a5.1, lk_a5.2] at HA5
      clear hj hlt
      go_wp2_with fail
      have LL := hl
      refine (HR1 wr).mono ?_
      rintro e V0 ⟨rfl, lv⟩
      have K0 := Blk.new V0 29 #[.int .u64 W8.zero.a0, .int .u64 W8.zero.a1, .int .u64 W8.zero.a2, .int .u64 W8.zero.a3, .int .u64 W8.zero.a4, .int .u64 W8.zero.a5, .int .u64 W8.zero.a6, .int .u64 W8.zero.a7, .int .u64 W8.zero.a0, .int .u64 W8.zero.a1, .int .u64 W8.zero.a2, .int .u64 W8.zero.a3, .int .u64 W8.zero.a4, .int .u64 W8.zero.a5, .int .u64 W8.zero.a6, .int .u64 W8.zero.a7]
      go_wp2_with (refine wpList_put rfl 29 (.tmp 9) (.tmp 100) (by rfl) (by rfl) V0.heap.size (by rfl) XR1 (by rfl) K0 (by rw [zR1.out]; rfl) iR1.out cR1.out ?_; intro U0 hput; have m1 := hput.lat wr (lv.trans (Lat.alloc _ _)) (by have := lv.size; omega))
      have LL := LL.trans m1
      clear K0 hput lv m1 HR1
      refine (HR2 U0).mono ?_
      rintro e V1 ⟨rfl, lv⟩
      have K0 := Blk.new V1 29 #[.int .u64 W8.zero.a0, .int .u64 W8.zero.a1, .int .u64 W8.zero.a2, .int .u64 W8.zero.a3, .int .u64 W8.zero.a4, .int .u64 W8.zero.a5, .int .u64 W8.zero.a6, .int .u64 W8.zero.a7, .int .u64 W8.zero.a0, .int .u64 W8.zero.a1, .int .u64 W8.zero.a2, .int .u64 W8.zero.a3, .int .u64 W8.zero.a4, .int .u64 W8.zero.a5, .int .u64 W8.zero.a6, .int .u64 W8.zero.a7]
      go_wp2_with (refine wpList_put rfl 29 (.tmp 11) (.tmp 104) (by rfl) (by rfl) V1.heap.size (by rfl) XR2 (by rfl) K0 (by rw [zR2.out]; rfl) iR2.out cR2.out ?_; intro U1 hput; have m1 := hput.lat U0 (lv.trans (Lat.alloc _ _)) (by have := lv.size; omega))
      have LL := LL.trans m1
      clear K0 hput lv m1 HR2
      refine (HR3 U1).mono ?_
      rintro e V2 ⟨rfl, lv⟩
      have K0 := Blk.new V2 29 #[.int .u64 W8.zero.a0, .int .u64 W8.zero.a1, .int .u64 W8.zero.a2, .int .u64 W8.zero.a3, .int .u64 W8.zero.a4, .int .u64 W8.zero.a5, .int .u64 W8.zero.a6, .int .u64 W8.zero.a7, .int .u64 W8.zero.a0, .int .u64 W8.zero.a1, .int .u64 W8.zero.a2, .int .u64 W8.zero.a3, .int .u64 W8.zero.a4, .int .u64 W8.zero.a5, .int .u64 W8.zero.a6, .int .u64 W8.zero.a7]
      go_wp2_with (refine wpList_put rfl 29 (.tmp 13) (.tmp 108) (by rfl) (by rfl) V2.heap.size (by rfl) XR3 (by rfl) K0 (by rw [zR3.out]; rfl) iR3.out cR3.out ?_; intro U2 hput; have B13 := hput.blk; have m1 := hput.lat U1 (lv.trans (Lat.alloc _ _)) (by have := lv.size; omega))
      have LL := LL.trans m1
      clear K0 hput lv m1 HR3
      refine (HR4 U2).mono ?_
      rintro e V3 ⟨rfl, lv⟩
      have K0 := Blk.new V3 29 #[.int .u64 W8.zero.a0, .int .u64 W8.zero.a1, .int .u64 W8.zero.a2, .int .u64 W8.zero.a3, .int .u64 W8.zero.a4, .int .u64 W8.zero.a5, .int .u64 W8.zero.a6, .int .u64 W8.zero.a7, .int .u64 W8.zero.a0, .int .u64 W8.zero.a1, .int .u64 W8.zero.a2, .int .u64 W8.zero.a3, .int .u64 W8.zero.a4, .int .u64 W8.zero.a5, .int .u64 W8.zero.a6, .int .u64 W8.zero.a7]
      go_wp2_with (refine wpList_put rfl 29 (.tmp 15) (.tmp 112) (by rfl) (by rfl) V3.heap.size (by rfl) XR4 (by rfl) K0 (by rw [zR4.out]; rfl) iR4.out cR4.out ?_; intro U3 hput; have m1 := hput.lat U2 (lv.trans (Lat.alloc _ _)) (by have := lv.size; omega))
      have B13 := B13.later m1
      have LL := LL.trans m1
      clear K0 hput lv m1 HR4
      refine (HR5 U3).mono ?_
      rintro e V4 ⟨rfl, lv⟩
      have K0 := Blk.new V4 29 #[.int .u64 W8.zero.a0, .int .u64 W8.zero.a1, .int .u64 W8.zero.a2, .int .u64 W8.zero.a3, .int .u64 W8.zero.a4, .int .u64 W8.zero.a5, .int .u64 W8.zero.a6, .int .u64 W8.zero.a7, .int .u64 W8.zero.a0, .int .u64 W8.zero.a1, .int .u64 W8.zero.a2, .int .u64 W8.zero.a3, .int .u64 W8.zero.a4, .int .u64 W8.zero.a5, .int .u64 W8.zero.a6, .int .u64 W8.zero.a7]
      go_wp2_with (refine wpList_put rfl 29 (.tmp 17) (.tmp 116) (by rfl) (by rfl) V4.heap.size (by rfl) XR5 (by rfl) K0 (by rw [zR5.out]; rfl) iR5.out cR5.out ?_; intro U4 hput; have m1 := hput.lat U3 (lv.trans (Lat.alloc _ _)) (by have := lv.size; omega))
      have B13 := B13.later m1
      have LL := LL.trans m1
      clear K0 hput lv m1 HR5
      refine (HR6 U4).mono ?_
      rintro e V5 ⟨rfl, lv⟩
      have K0 := Blk.new V5 29 #[.int .u64 W8.zero.a0, .int .u64 W8.zero.a1, .int .u64 W8.zero.a2, .int .u64 W8.zero.a3, .int .u64 W8.zero.a4, .int .u64 W8.zero.a5, .int .u64 W8.zero.a6, .int .u64 W8.zero.a7, .int .u64 W8.zero.a0, .int .u64 W8.zero.a1, .int .u64 W8.zero.a2, .int .u64 W8.zero.a3, .int .u64 W8.zero.a4, .int .u64 W8.zero.a5, .int .u64 W8.zero.a6, .int .u64 W8.zero.a7]
      go_wp2_with (refine wpList_put rfl 29 (.tmp 19) (.tmp 120) (by rfl) (by rfl) V5.heap.size (by rfl) XR6 (by rfl) K0 (by rw [zR6.out]; rfl) iR6.out cR6.out ?_; intro U5 hput; have B19 := hput.blk; have m1 := hput.lat U4 (lv.trans (Lat.alloc _ _)) (by have := lv.size; omega))
      have B13 := B13.later m1
      have LL := LL.trans m1
      clear K0 hput lv m1 HR6
      refine (HA1 U5).mono ?_
      rintro e Y0 ⟨rfl, lv⟩
      have B13 := B13.later lv
      have B19 := B19.later lv
      have LL := LL.trans lv
      clear lv HA1
      go_wp2_with fail
      refine (HA2 Y0).mono ?_
      rintro e Y1 ⟨rfl, lv⟩
      have B13 := B13.later lv
      have B19 := B19.later lv
      have LL := LL.trans lv
      clear lv HA2
      go_wp2_with fail
      refine (HA3 Y1).mono ?_
      rintro e Y2 ⟨rfl, lv⟩
      have B13 := B13.later lv
      have B19 := B19.later lv
      have LL := LL.trans lv
      clear lv HA3
      go_wp2_with fail
      refine (HA4 Y2).mono ?_
      rintro e Y3 ⟨rfl, lv⟩
      have B13 := B13.later lv
      have B19 := B19.later lv
      have LL := LL.trans lv
      clear lv HA4
      go_wp2_with fail
      refine (HA5 Y3).mono ?_
      rintro e Y4 ⟨rfl, lv⟩
      have B13 := B13.later lv
      have B19 := B19.later lv
      have LL := LL.trans lv
      clear lv HA5
      go_wp2_with fail
      rename_i KN hKN
      obtain ⟨Y3, rfl⟩ : ∃ Y : List Value, XR3 = Y.toArray := ⟨XR3.toList, by simp⟩
      obtain ⟨Y6, rfl⟩ : ∃ Y : List Value, XR6 = Y.toArray := ⟨XR6.toList, by simp⟩
      have R3 : ∀ w', Lat Y4 w' → w'.rangeAt V2.heap.size 0 Y3 := fun w' hl => (B13.later hl).rangeAll
      have R6 : ∀ w', Lat Y4 w' → w'.rangeAt V5.heap.size 0 Y6 := fun w' hl => (B19.later hl).rangeAll
      have J3 : (Try.prog.info? 29).map (·.size) = some Y3.length := by have := iR3.out; simpa using this
      have J6 : (Try.prog.info? 29).map (·.size) = some Y6.length := by have := iR6.out; simpa using this
      have HF1 := fun w => law_of 0 1 w (by decide) (by decide) (by decide) (by decide)
      have HF2 := fun w => law_of 1000000000000000000 1001000 w (by decide) (by decide) (by decide) (by decide)
      rw [hXR3] at HF1
      rw [hXR6] at HF2
      have E3 := fun w => GR3.neq w
      have E6 := fun w => GR6.neq w
      have hgd := Lib.hid shGuard
      clear iR1 iR2 iR3 iR4 iR5 iR6 zR1 zR2 zR3 zR4 zR5 zR6 cR1 cR2 cR3 cR4 cR5 cR6 GR3 GR6 B13 B19
      refine wp_region_slots (kn23_rows Y3 Y6) (kn23_base V2.heap.size V5.heap.size) 306 64 [[], [0], [1], [2], [3, 2], [2, 4], [5, 2], [6], [7, 6], [6, 8], [9, 6], [10], [10, 10], [11, 12, 10], [10, 13], [14, 12], [15], [16, 15], [15, 17], [18, 15], [19], [20, 19], [19, 21], [22, 19], [23], [24, 23], [23, 25], [26, 23], [27], [27, 27], [28, 29, 27], [27, 30], [31, 29], [32], [33, 32], [32, 34], [35, 32], [36], [37, 36], [36, 38], [39, 36], [40], [41, 40], [40, 42], [43, 40], [44], [45, 44], [44, 46], [47, 44], [48], [49, 48], [48, 50], [51, 48], [52], [53, 52], [52, 54], [55, 52], [56], [57, 56], [56, 58], [59, 56], [60], [61, 60], [60, 62]] (by kernel_rfl) (by kernel_rfl) (by kernel_rfl) (by kernel_rfl) (by kernel_rfl) (by kernel_rfl) (by rfl) rfl ?_ ?_ ?_
      · exact base_of (base_cons (by rfl) (base_cons (by rfl) (base_cons (by rfl) (base_cons (by rfl) (base_cons (by rfl) (base_cons (by rfl) (base_cons (by rfl) (base_cons (by rfl) (base_cons (by rfl) (base_cons (by rfl) (base_cons (by rfl) (base_cons (by rfl) (base_cons (by rfl) (base_cons (by rfl) (base_cons (by rfl) (base_cons (by rfl) (base_nil _)))))))))))))))))
      · have W0 := Y4
        clear W0
        refine AllSteps.next (fun _ _ _ h _ => h) (fun j b h => by cases h) (fun a w hl hb hd o ho => by have e1 := hb 10 _ rfl; exact Runs.val (yv_move (S := fun _ => True) e1 o w ho trivial) ⟨Lat.refl _, fun _ => rfl⟩) ?_
        refine AllSteps.next (fun _ _ _ h _ => h) (fun j b h => by cases h) (fun a w hl hb hd o ho => by obtain ⟨v1, e1, q1⟩ := hd 0 _ _ (by simp) rfl rfl; subst q1; exact Runs.val (S_neq30 e1 o w ho (by decide)) ⟨Lat.refl _, fun _ => rfl⟩) ?_
        refine AllSteps.next (fun _ _ _ h _ => h) (fun j b h => by cases h) (fun a w hl hb hd o ho => by obtain ⟨v1, e1, q1⟩ := hd 1 _ _ (by simp) rfl rfl; subst q1; exact Runs.val (yv_move (S := fun _ => True) e1 o w ho trivial) ⟨Lat.refl _, fun _ => rfl⟩) ?_
        refine AllSteps.next (fun _ _ _ h _ => h) (fun j b h => by cases h; exact ⟨_, rfl, ⟨_, rfl⟩, by simp, fun _ _ h => h⟩) (fun a w hl hb hd o ho => by have e1 := hb 12 _ rfl; exact Runs.val (yv_move (S := fun _ => True) e1 o w ho trivial) ⟨Lat.refl _, fun _ => rfl⟩) ?_
        refine AllSteps.next (fun _ _ _ h _ => h) (fun j b h => by cases h; exact ⟨_, rfl, ⟨_, rfl⟩, by simp, fun _ _ h => h⟩) (fun a w hl hb hd o ho => by obtain ⟨v1, e1, q1⟩ := hd 3 _ _ (by simp) rfl rfl; subst q1; exact Runs.val (S_neq30 e1 o w ho (by decide)) ⟨Lat.refl _, fun _ => rfl⟩) ?_
        refine AllSteps.next (fun _ _ _ h _ => h) (fun j b h => by cases h) (fun a w hl hb hd o ho => by obtain ⟨v1, e1, q1⟩ := hd 2 _ _ (by simp) rfl rfl; obtain ⟨v2, e2, q2⟩ := hd 4 _ _ (by simp) rfl rfl; subst q1; subst q2; exact Runs.val (yv_pickN (S := fun _ => True) e1 e2 o w ho trivial) ⟨Lat.refl _, fun _ => rfl⟩) ?_
        refine AllSteps.next (fun _ _ _ h _ => h) (fun j b h => by cases h) (fun a w hl hb hd o ho => by obtain ⟨v1, e1, q1⟩ := hd 5 _ _ (by simp) rfl rfl; subst q1; exact Runs.val (yv_move (S := fun _ => True) e1 o w ho trivial) ⟨Lat.refl _, fun _ => rfl⟩) ?_
        refine AllSteps.next (fun _ _ _ h _ => h) (fun j b h => by cases h; exact ⟨_, rfl, ⟨_, rfl⟩, by simp, fun _ _ h => h⟩) (fun a w hl hb hd o ho => by have e1 := hb 14 _ rfl; exact Runs.val (yv_move (S := fun _ => True) e1 o w ho trivial) ⟨Lat.refl _, fun _ => rfl⟩) ?_
        refine AllSteps.next (fun _ _ _ h _ => h) (fun j b h => by cases h; exact ⟨_, rfl, ⟨_, rfl⟩, by simp, fun _ _ h => h⟩) (fun a w hl hb hd o ho => by obtain ⟨v1, e1, q1⟩ := hd 7 _ _ (by simp) rfl rfl; subst q1; exact Runs.val (S_neq30 e1 o w ho (by decide)) ⟨Lat.refl _, fun _ => rfl⟩) ?_
        refine AllSteps.next (fun _ _ _ h _ => h) (fun j b h => by cases h) (fun a w hl hb hd o ho => by obtain ⟨v1, e1, q1⟩ := hd 6 _ _ (by simp) rfl rfl; obtain ⟨v2, e2, q2⟩ := hd 8 _ _ (by simp) rfl rfl; subst q1; subst q2; exact Runs.val (yv_pickN (S := fun _ => True) e1 e2 o w ho trivial) ⟨Lat.refl _, fun _ => rfl⟩) ?_
        refine AllSteps.next (fun _ _ _ h _ => h) (fun j b h => by cases h) (fun a w hl hb hd o ho => by obtain ⟨v1, e1, q1⟩ := hd 9 _ _ (by simp) rfl rfl; subst q1; exact Runs.val (yv_move (S := fun _ => True) e1 o w ho trivial) ⟨Lat.refl _, fun _ => rfl⟩) ?_
        refine AllSteps.next (fun _ _ _ h _ => h) (fun j b h => by cases h; exact ⟨_, rfl, ⟨_, rfl⟩, by simp, fun _ _ h => h⟩) (fun a w hl hb hd o ho => by have e1 := hb 13 _ rfl; exact Runs.val (yv_load (S := Lat Y4) e1 R3 Try.underlying29 rfl J3 o w ho hl) ⟨Lat.refl _, fun _ => rfl⟩) ?_
        refine AllSteps.next (fun _ _ _ h _ => h) (fun j b h => by cases h; exact ⟨_, rfl, ⟨_, rfl⟩, by simp, fun _ _ h => h⟩) (fun a w hl hb hd o ho => by exact Runs.call (yv_call (f := 8) (fun _ => by go_simp) o ho (by simp only [List.map_toArray, List.map_cons, List.map_nil, eval_const])) ((HF1 w).mono fun e w' h => ⟨_, h.1, h.2, fun _ => rfl⟩)) ?_
        refine AllSteps.next (fun _ _ _ h _ => h) (fun j b h => by cases h; exact ⟨_, rfl, ⟨_, rfl⟩, by simp, fun _ _ h => h⟩) (fun a w hl hb hd o ho => by obtain ⟨v1, e1, q1⟩ := hd 11 _ _ (by simp) rfl rfl; obtain ⟨v2, e2, q2⟩ := hd 12 _ _ (by simp) rfl rfl; subst q1; subst q2; exact Runs.val (yv_bin (S := fun _ => True) e1 e2 hgd.out E3 o w ho trivial) ⟨Lat.refl _, fun _ => rfl⟩) ?_
        refine AllSteps.next (fun _ _ _ h _ => h) (fun j b h => by cases h) (fun a w hl hb hd o ho => by obtain ⟨v1, e1, q1⟩ := hd 10 _ _ (by simp) rfl rfl; obtain ⟨v2, e2, q2⟩ := hd 13 _ _ (by simp) rfl rfl; subst q1; subst q2; exact Runs.val (yv_pickN (S := fun _ => True) e1 e2 o w ho trivial) ⟨Lat.refl _, fun _ => rfl⟩) ?_
        refine AllSteps.next (fun _ _ _ h _ => h) (fun j b h => by cases h) (fun a w hl hb hd o ho => by obtain ⟨v1, e1, q1⟩ := hd 14 _ _ (by simp) rfl rfl; subst q1; exact Runs.val (yv_move (S := fun _ => True) e1 o w ho trivial) ⟨Lat.refl _, fun _ => rfl⟩) ?_
        refine AllSteps.next (fun _ _ _ h _ => h) (fun j b h => by cases h; exact ⟨_, rfl, ⟨_, rfl⟩, by simp, fun _ _ h => h⟩) (fun a w hl hb hd o ho => by have e1 := hb 16 _ rfl; exact Runs.val (yv_move (S := fun _ => True) e1 o w ho trivial) ⟨Lat.refl _, fun _ => rfl⟩) ?_
        refine AllSteps.next (fun _ _ _ h _ => h) (fun j b h => by cases h; exact ⟨_, rfl, ⟨_, rfl⟩, by simp, fun _ _ h => h⟩) (fun a w hl hb hd o ho => by obtain ⟨v1, e1, q1⟩ := hd 16 _ _ (by simp) rfl rfl; subst q1; exact Runs.val (S_neq30 e1 o w ho (by decide)) ⟨Lat.refl _, fun _ => rfl⟩) ?_
        refine AllSteps.next (fun _ _ _ h _ => h) (fun j b h => by cases h) (fun a w hl hb hd o ho => by obtain ⟨v1, e1, q1⟩ := hd 15 _ _ (by simp) rfl rfl; obtain ⟨v2, e2, q2⟩ := hd 17 _ _ (by simp) rfl rfl; subst q1; subst q2; exact Runs.val (yv_pickN (S := fun _ => True) e1 e2 o w ho trivial) ⟨Lat.refl _, fun _ => rfl⟩) ?_
        refine AllSteps.next (fun _ _ _ h _ => h) (fun j b h => by cases h) (fun a w hl hb hd o ho => by obtain ⟨v1, e1, q1⟩ := hd 18 _ _ (by simp) rfl rfl; subst q1; exact Runs.val (yv_move (S := fun _ => True) e1 o w ho trivial) ⟨Lat.refl _, fun _ => rfl⟩) ?_
        refine AllSteps.next (fun _ _ _ h _ => h) (fun j b h => by cases h; exact ⟨_, rfl, ⟨_, rfl⟩, by simp, fun _ _ h => h⟩) (fun a w hl hb hd o ho => by have e1 := hb 18 _ rfl; exact Runs.val (yv_move (S := fun _ => True) e1 o w ho trivial) ⟨Lat.refl _, fun _ => rfl⟩) ?_
        refine AllSteps.next (fun _ _ _ h _ => h) (fun j b h => by cases h; exact ⟨_, rfl, ⟨_, rfl⟩, by simp, fun _ _ h => h⟩) (fun a w hl hb hd o ho => by obtain ⟨v1, e1, q1⟩ := hd 20 _ _ (by simp) rfl rfl; subst q1; exact Runs.val (S_neq30 e1 o w ho (by decide)) ⟨Lat.refl _, fun _ => rfl⟩) ?_
        refine AllSteps.next (fun _ _ _ h _ => h) (fun j b h => by cases h) (fun a w hl hb hd o ho => by obtain ⟨v1, e1, q1⟩ := hd 19 _ _ (by simp) rfl rfl; obtain ⟨v2, e2, q2⟩ := hd 21 _ _ (by simp) rfl rfl; subst q1; subst q2; exact Runs.val (yv_pickN (S := fun _ => True) e1 e2 o w ho trivial) ⟨Lat.refl _, fun _ => rfl⟩) ?_
        refine AllSteps.next (fun _ _ _ h _ => h) (fun j b h => by cases h) (fun a w hl hb hd o ho => by obtain ⟨v1, e1, q1⟩ := hd 22 _ _ (by simp) rfl rfl; subst q1; exact Runs.val (yv_move (S := fun _ => True) e1 o w ho trivial) ⟨Lat.refl _, fun _ => rfl⟩) ?_
        refine AllSteps.next (fun _ _ _ h _ => h) (fun j b h => by cases h; exact ⟨_, rfl, ⟨_, rfl⟩, by simp, fun _ _ h => h⟩) (fun a w hl hb hd o ho => by have e1 := hb 20 _ rfl; exact Runs.val (yv_move (S := fun _ => True) e1 o w ho trivial) ⟨Lat.refl _, fun _ => rfl⟩) ?_
        refine AllSteps.next (fun _ _ _ h _ => h) (fun j b h => by cases h; exact ⟨_, rfl, ⟨_, rfl⟩, by simp, fun _ _ h => h⟩) (fun a w hl hb hd o ho => by obtain ⟨v1, e1, q1⟩ := hd 24 _ _ (by simp) rfl rfl; subst q1; exact Runs.val (S_neq30 e1 o w ho (by decide)) ⟨Lat.refl _, fun _ => rfl⟩) ?_
        refine AllSteps.next (fun _ _ _ h _ => h) (fun j b h => by cases h) (fun a w hl hb hd o ho => by obtain ⟨v1, e1, q1⟩ := hd 23 _ _ (by simp) rfl rfl; obtain ⟨v2, e2, q2⟩ := hd 25 _ _ (by simp) rfl rfl; subst q1; subst q2; exact Runs.val (yv_pickN (S := fun _ => True) e1 e2 o w ho trivial) ⟨Lat.refl _, fun _ => rfl⟩) ?_
        refine AllSteps.next (fun _ _ _ h _ => h) (fun j b h => by cases h) (fun a w hl hb hd o ho => by obtain ⟨v1, e1, q1⟩ := hd 26 _ _ (by simp) rfl rfl; subst q1; exact Runs.val (yv_move (S := fun _ => True) e1 o w ho trivial) ⟨Lat.refl _, fun _ => rfl⟩) ?_
        refine AllSteps.next (fun _ _ _ h _ => h) (fun j b h => by cases h; exact ⟨_, rfl, ⟨_, rfl⟩, by simp, fun _ _ h => h⟩) (fun a w hl hb hd o ho => by have e1 := hb 19 _ rfl; exact Runs.val (yv_load (S := Lat Y4) e1 R6 Try.underlying29 rfl J6 o w ho hl) ⟨Lat.refl _, fun _ => rfl⟩) ?_
        refine AllSteps.next (fun _ _ _ h _ => h) (fun j b h => by cases h; exact ⟨_, rfl, ⟨_, rfl⟩, by simp, fun _ _ h => h⟩) (fun a w hl hb hd o ho => by exact Runs.call (yv_call (f := 8) (fun _ => by go_simp) o ho (by simp only [List.map_toArray, List.map_cons, List.map_nil, eval_const])) ((HF2 w).mono fun e w' h => ⟨_, h.1, h.2, fun _ => rfl⟩)) ?_
        refine AllSteps.next (fun _ _ _ h _ => h) (fun j b h => by cases h; exact ⟨_, rfl, ⟨_, rfl⟩, by simp, fun _ _ h => h⟩) (fun a w hl hb hd o ho => by obtain ⟨v1, e1, q1⟩ := hd 28 _ _ (by simp) rfl rfl; obtain ⟨v2, e2, q2⟩ := hd 29 _ _ (by simp) rfl rfl; subst q1; subst q2; exact Runs.val (yv_bin (S := fun _ => True) e1 e2 hgd.out E6 o w ho trivial) ⟨Lat.refl _, fun _ => rfl⟩) ?_
        refine AllSteps.next (fun _ _ _ h _ => h) (fun j b h => by cases h) (fun a w hl hb hd o ho => by obtain ⟨v1, e1, q1⟩ := hd 27 _ _ (by simp) rfl rfl; obtain ⟨v2, e2, q2⟩ := hd 30 _ _ (by simp) rfl rfl; subst q1; subst q2; exact Runs.val (yv_pickN (S := fun _ => True) e1 e2 o w ho trivial) ⟨Lat.refl _, fun _ => rfl⟩) ?_
        refine AllSteps.next (fun _ _ _ h _ => h) (fun j b h => by cases h) (fun a w hl hb hd o ho => by obtain ⟨v1, e1, q1⟩ := hd 31 _ _ (by simp) rfl rfl; subst q1; exact Runs.val (yv_move (S := fun _ => True) e1 o w ho trivial) ⟨Lat.refl _, fun _ => rfl⟩) ?_
        refine AllSteps.next (fun _ _ _ h _ => h) (fun j b h => by cases h; exact ⟨_, rfl, ⟨_, rfl⟩, by simp, fun _ _ h => h⟩) (fun a w hl hb hd o ho => by have e1 := hb 22 _ rfl; exact Runs.val (yv_move (S := fun _ => True) e1 o w ho trivial) ⟨Lat.refl _, fun _ => rfl⟩) ?_
        refine AllSteps.next (fun _ _ _ h _ => h) (fun j b h => by cases h; exact ⟨_, rfl, ⟨_, rfl⟩, by simp, fun _ _ h => h⟩) (fun a w hl hb hd o ho => by obtain ⟨v1, e1, q1⟩ := hd 33 _ _ (by simp) rfl rfl; subst q1; exact Runs.val (S_neq30 e1 o w ho (by decide)) ⟨Lat.refl _, fun _ => rfl⟩) ?_
        refine AllSteps.next (fun _ _ _ h _ => h) (fun j b h => by cases h) (fun a w hl hb hd o ho => by obtain ⟨v1, e1, q1⟩ := hd 32 _ _ (by simp) rfl rfl; obtain ⟨v2, e2, q2⟩ := hd 34 _ _ (by simp) rfl rfl; subst q1; subst q2; exact Runs.val (yv_pickN (S := fun _ => True) e1 e2 o w ho trivial) ⟨Lat.refl _, fun _ => rfl⟩) ?_
        refine AllSteps.next (fun _ _ _ h _ => h) (fun j b h => by cases h) (fun a w hl hb hd o ho => by obtain ⟨v1, e1, q1⟩ := hd 35 _ _ (by simp) rfl rfl; subst q1; exact Runs.val (yv_move (S := fun _ => True) e1 o w ho trivial) ⟨Lat.refl _, fun _ => rfl⟩) ?_
        refine AllSteps.next (fun _ _ _ h _ => h) (fun j b h => by cases h; exact ⟨_, rfl, ⟨_, rfl⟩, by simp, fun _ _ h => h⟩) (fun a w hl hb hd o ho => by have e1 := hb 21 _ rfl; exact Runs.val (yv_move (S := fun _ => True) e1 o w ho trivial) ⟨Lat.refl _, fun _ => rfl⟩) ?_
        refine AllSteps.next (fun _ _ _ h _ => h) (fun j b h => by cases h; exact ⟨_, rfl, ⟨_, rfl⟩, by simp, fun _ _ h => h⟩) (fun a w hl hb hd o ho => by obtain ⟨v1, e1, q1⟩ := hd 37 _ _ (by simp) rfl rfl; subst q1; exact Runs.val (S_neq3 e1 o w ho (by decide)) ⟨Lat.refl _, fun _ => rfl⟩) ?_
        refine AllSteps.next (fun _ _ _ h _ => h) (fun j b h => by cases h) (fun a w hl hb hd o ho => by obtain ⟨v1, e1, q1⟩ := hd 36 _ _ (by simp) rfl rfl; obtain ⟨v2, e2, q2⟩ := hd 38 _ _ (by simp) rfl rfl; subst q1; subst q2; exact Runs.val (yv_pickN (S := fun _ => True) e1 e2 o w ho trivial) ⟨Lat.refl _, fun _ => rfl⟩) ?_
        refine AllSteps.next (fun _ _ _ h _ => h) (fun j b h => by cases h) (fun a w hl hb hd o ho => by obtain ⟨v1, e1, q1⟩ := hd 39 _ _ (by simp) rfl rfl; subst q1; exact Runs.val (yv_move (S := fun _ => True) e1 o w ho trivial) ⟨Lat.refl _, fun _ => rfl⟩) ?_
        refine AllSteps.next (fun _ _ _ h _ => h) (fun j b h => by cases h; exact ⟨_, rfl, ⟨_, rfl⟩, by simp, fun _ _ h => h⟩) (fun a w hl hb hd o ho => by have e1 := hb 24 _ rfl; exact Runs.val (yv_move (S := fun _ => True) e1 o w ho trivial) ⟨Lat.refl _, fun _ => rfl⟩) ?_
        refine AllSteps.next (fun _ _ _ h _ => h) (fun j b h => by cases h; exact ⟨_, rfl, ⟨_, rfl⟩, by simp, fun _ _ h => h⟩) (fun a w hl hb hd o ho => by obtain ⟨v1, e1, q1⟩ := hd 41 _ _ (by simp) rfl rfl; subst q1; exact Runs.val (S_neq30 e1 o w ho (by decide)) ⟨Lat.refl _, fun _ => rfl⟩) ?_
        refine AllSteps.next (fun _ _ _ h _ => h) (fun j b h => by cases h) (fun a w hl hb hd o ho => by obtain ⟨v1, e1, q1⟩ := hd 40 _ _ (by simp) rfl rfl; obtain ⟨v2, e2, q2⟩ := hd 42 _ _ (by simp) rfl rfl; subst q1; subst q2; exact Runs.val (yv_pickN (S := fun _ => True) e1 e2 o w ho trivial) ⟨Lat.refl _, fun _ => rfl⟩) ?_
        refine AllSteps.next (fun _ _ _ h _ => h) (fun j b h => by cases h) (fun a w hl hb hd o ho => by obtain ⟨v1, e1, q1⟩ := hd 43 _ _ (by simp) rfl rfl; subst q1; exact Runs.val (yv_move (S := fun _ => True) e1 o w ho trivial) ⟨Lat.refl _, fun _ => rfl⟩) ?_
        refine AllSteps.next (fun _ _ _ h _ => h) (fun j b h => by cases h; exact ⟨_, rfl, ⟨_, rfl⟩, by simp, fun _ _ h => h⟩) (fun a w hl hb hd o ho => by have e1 := hb 26 _ rfl; exact Runs.val (yv_move (S := fun _ => True) e1 o w ho trivial) ⟨Lat.refl _, fun _ => rfl⟩) ?_
        refine AllSteps.next (fun _ _ _ h _ => h) (fun j b h => by cases h; exact ⟨_, rfl, ⟨_, rfl⟩, by simp, fun _ _ h => h⟩) (fun a w hl hb hd o ho => by obtain ⟨v1, e1, q1⟩ := hd 45 _ _ (by simp) rfl rfl; subst q1; exact Runs.val (S_neq30 e1 o w ho (by decide)) ⟨Lat.refl _, fun _ => rfl⟩) ?_
        refine AllSteps.next (fun _ _ _ h _ => h) (fun j b h => by cases h) (fun a w hl hb hd o ho => by obtain ⟨v1, e1, q1⟩ := hd 44 _ _ (by simp) rfl rfl; obtain ⟨v2, e2, q2⟩ := hd 46 _ _ (by simp) rfl rfl; subst q1; subst q2; exact Runs.val (yv_pickN (S := fun _ => True) e1 e2 o w ho trivial) ⟨Lat.refl _, fun _ => rfl⟩) ?_
        refine AllSteps.next (fun _ _ _ h _ => h) (fun j b h => by cases h) (fun a w hl hb hd o ho => by obtain ⟨v1, e1, q1⟩ := hd 47 _ _ (by simp) rfl rfl; subst q1; exact Runs.val (yv_move (S := fun _ => True) e1 o w ho trivial) ⟨Lat.refl _, fun _ => rfl⟩) ?_
        refine AllSteps.next (fun _ _ _ h _ => h) (fun j b h => by cases h; exact ⟨_, rfl, ⟨_, rfl⟩, by simp, fun _ _ h => h⟩) (fun a w hl hb hd o ho => by have e1 := hb 28 _ rfl; exact Runs.val (yv_move (S := fun _ => True) e1 o w ho trivial) ⟨Lat.refl _, fun _ => rfl⟩) ?_
        refine AllSteps.next (fun _ _ _ h _ => h) (fun j b h => by cases h; exact ⟨_, rfl, ⟨_, rfl⟩, by simp, fun _ _ h => h⟩) (fun a w hl hb hd o ho => by obtain ⟨v1, e1, q1⟩ := hd 49 _ _ (by simp) rfl rfl; subst q1; exact Runs.val (S_neq30 e1 o w ho (by decide)) ⟨Lat.refl _, fun _ => rfl⟩) ?_
        refine AllSteps.next (fun _ _ _ h _ => h) (fun j b h => by cases h) (fun a w hl hb hd o ho => by obtain ⟨v1, e1, q1⟩ := hd 48 _ _ (by simp) rfl rfl; obtain ⟨v2, e2, q2⟩ := hd 50 _ _ (by simp) rfl rfl; subst q1; subst q2; exact Runs.val (yv_pickN (S := fun _ => True) e1 e2 o w ho trivial) ⟨Lat.refl _, fun _ => rfl⟩) ?_
        refine AllSteps.next (fun _ _ _ h _ => h) (fun j b h => by cases h) (fun a w hl hb hd o ho => by obtain ⟨v1, e1, q1⟩ := hd 51 _ _ (by simp) rfl rfl; subst q1; exact Runs.val (yv_move (S := fun _ => True) e1 o w ho trivial) ⟨Lat.refl _, fun _ => rfl⟩) ?_
        refine AllSteps.next (fun _ _ _ h _ => h) (fun j b h => by cases h; exact ⟨_, rfl, ⟨_, rfl⟩, by simp, fun _ _ h => h⟩) (fun a w hl hb hd o ho => by have e1 := hb 27 _ rfl; exact Runs.val (yv_move (S := fun _ => True) e1 o w ho trivial) ⟨Lat.refl _, fun _ => rfl⟩) ?_
        refine AllSteps.next (fun _ _ _ h _ => h) (fun j b h => by cases h; exact ⟨_, rfl, ⟨_, rfl⟩, by simp, fun _ _ h => h⟩) (fun a w hl hb hd o ho => by obtain ⟨v1, e1, q1⟩ := hd 53 _ _ (by simp) rfl rfl; subst q1; exact Runs.val (S_neq3 e1 o w ho (by decide)) ⟨Lat.refl _, fun _ => rfl⟩) ?_
        refine AllSteps.next (fun _ _ _ h _ => h) (fun j b h => by cases h) (fun a w hl hb hd o ho => by obtain ⟨v1, e1, q1⟩ := hd 52 _ _ (by simp) rfl rfl; obtain ⟨v2, e2, q2⟩ := hd 54 _ _ (by simp) rfl rfl; subst q1; subst q2; exact Runs.val (yv_pickN (S := fun _ => True) e1 e2 o w ho trivial) ⟨Lat.refl _, fun _ => rfl⟩) ?_
        refine AllSteps.next (fun _ _ _ h _ => h) (fun j b h => by cases h) (fun a w hl hb hd o ho => by obtain ⟨v1, e1, q1⟩ := hd 55 _ _ (by simp) rfl rfl; subst q1; exact Runs.val (yv_move (S := fun _ => True) e1 o w ho trivial) ⟨Lat.refl _, fun _ => rfl⟩) ?_
        refine AllSteps.next (fun _ _ _ h _ => h) (fun j b h => by cases h; exact ⟨_, rfl, ⟨_, rfl⟩, by simp, fun _ _ h => h⟩) (fun a w hl hb hd o ho => by have e1 := hb 30 _ rfl; exact Runs.val (yv_move (S := fun _ => True) e1 o w ho trivial) ⟨Lat.refl _, fun _ => rfl⟩) ?_
        refine AllSteps.next (fun _ _ _ h _ => h) (fun j b h => by cases h; exact ⟨_, rfl, ⟨_, rfl⟩, by simp, fun _ _ h => h⟩) (fun a w hl hb hd o ho => by obtain ⟨v1, e1, q1⟩ := hd 57 _ _ (by simp) rfl rfl; subst q1; exact Runs.val (S_neq30 e1 o w ho (by decide)) ⟨Lat.refl _, fun _ => rfl⟩) ?_
        refine AllSteps.next (fun _ _ _ h _ => h) (fun j b h => by cases h) (fun a w hl hb hd o ho => by obtain ⟨v1, e1, q1⟩ := hd 56 _ _ (by simp) rfl rfl; obtain ⟨v2, e2, q2⟩ := hd 58 _ _ (by simp) rfl rfl; subst q1; subst q2; exact Runs.val (yv_pickN (S := fun _ => True) e1 e2 o w ho trivial) ⟨Lat.refl _, fun _ => rfl⟩) ?_
        refine AllSteps.next (fun _ _ _ h _ => h) (fun j b h => by cases h) (fun a w hl hb hd o ho => by obtain ⟨v1, e1, q1⟩ := hd 59 _ _ (by simp) rfl rfl; subst q1; exact Runs.val (yv_move (S := fun _ => True) e1 o w ho trivial) ⟨Lat.refl _, fun _ => rfl⟩) ?_
        refine AllSteps.next (fun _ _ _ h _ => h) (fun j b h => by cases h; exact ⟨_, rfl, ⟨_, rfl⟩, by simp, fun _ _ h => h⟩) (fun a w hl hb hd o ho => by have e1 := hb 29 _ rfl; exact Runs.val (yv_move (S := fun _ => True) e1 o w ho trivial) ⟨Lat.refl _, fun _ => rfl⟩) ?_
        refine AllSteps.next (fun _ _ _ h _ => h) (fun j b h => by cases h; exact ⟨_, rfl, ⟨_, rfl⟩, by simp, fun _ _ h => h⟩) (fun a w hl hb hd o ho => by obtain ⟨v1, e1, q1⟩ := hd 61 _ _ (by simp) rfl rfl; subst q1; exact Runs.val (S_neq3 e1 o w ho (by decide)) ⟨Lat.refl _, fun _ => rfl⟩) ?_
        refine AllSteps.next (fun _ _ _ h _ => h) (fun j b h => by cases h) (fun a w hl hb hd o ho => by obtain ⟨v1, e1, q1⟩ := hd 60 _ _ (by simp) rfl rfl; obtain ⟨v2, e2, q2⟩ := hd 62 _ _ (by simp) rfl rfl; subst q1; subst q2; exact Runs.val (yv_pickN (S := fun _ => True) e1 e2 o w ho trivial) ⟨Lat.refl _, fun _ => rfl⟩) ?_
        exact AllSteps.none
      · intro a W hsz hdf hL _ hsl
        obtain ⟨v, h205, hv⟩ := hsl 63 _ _ rfl rfl
        have hv' : v = .bool false := hv
        subst hv'
        have h205 := slot_getD h205
        clear hsl hv
        refine hKN _ _ ?_
        obtain ⟨T, df⟩ := a
        obtain rfl : df = [] := hdf
        obtain ⟨f, hf, rfl⟩ := spell306 T hsz
        have f205 : f 205 = .bool false := (hf 205).trans h205
        clear hf h205 hsz
        rw [f205]
        clear f205
        generalize hg : W = W9 at hL
        go_wp2_with fail
        refine name2 (Q := fun W => Code.wp _ _ _ _ W) ?_
        intro Z1 M1 hz1 b1 b2
        go_loopw [214] (fun i wr => ∃ j : Nat, j ≤ 5 ∧ i = .int .i64 j ∧ Lat Z1 wr) (fun i _ => 5 - (intOf i).toNat)
        case atStart => exact ⟨0, by omega, rfl, Lat.refl _⟩
        case round =>
          rename_i wq
          obtain ⟨j, hj, rfl, hl2⟩ := hrel
          by_cases hlt : j < 5
          · obtain ⟨s, m, c0, c1, hbad⟩ := xs2_bad j hlt
            have hr := row2 (b2.later hl2) c0 c1
            have hltI : (j : Int) < 5 := by omega
            have HG := fun A c Al cl w (h : Sl w .i64 A 2 [0, 1]) (h2 : Sl w .i64 Al 1 [-1]) => dGive_any A 2 c [0, 1] Al 1 cl [-1] s m w h h2 (by decide) (by decide)
            have HO := fun A c Al cl w (h : Sl w .i64 A 2 [0, 1]) (h2 : Sl w .i64 Al 1 [-1]) => dOrder_any A 2 c [0, 1] Al 1 cl [-1] s m w h h2 (by decide) (by decide)
            rw [hbad] at HG HO
            clear c0 c1 hbad
            go_wp2_with (refine wpList_load_mid (by rfl) 23 (.tmp 216) (by rfl) (W9.heap.size + 1) (j * 2) (by rfl) [.int .i64 s, .int .i64 m] _ hr Try.underlying23 rfl arr2 ?_)
            refine name2 (Q := fun W => Calls _ _ _ W _) ?_
            intro Z2 M2 hz2 d1 d2
            refine (HG _ _ _ _ Z2 (Sl.of_blk' (t := 3) (b1.later (hl2.trans M2)) rfl) (Sl.of_blk' (t := 3) d2 rfl)).mono ?_
            rintro e V1 ⟨A1, n1, c1, A2, n2, c2, rfl, _, _, lv⟩
            have d1 := d1.later lv
            have q0 := d1.cell 0
            have q1 := d1.cell 1
            have hdl := d1.lt
            have LV := (hl2.trans M2).trans lv
            clear HG lv M2 hz2 d2
            go_wp2_with fail
            refine name2 (Q := fun W => Calls _ _ _ W _) ?_
            intro Z3 M3 hz3 d3 d4
            refine (HO _ _ _ _ Z3 (Sl.of_blk' (t := 3) (b1.later (LV.trans M3)) rfl) (Sl.of_blk' (t := 3) d4 rfl)).mono ?_
            rintro e V2 ⟨A3, n3, c3, rfl, _, lv⟩
            have LV := (LV.trans M3).trans lv
            clear HO lv M3 hz3 d3 d4 d1 q0 q1 hdl
            go_wp2
            go_roundw
            case rel => exact ⟨j + 1, by omega, by go_num, LV⟩
            case measure => simp [intOf]; omega
          · obtain rfl : j = 5 := by omega
            clear hj hlt
            go_wp2_with fail
            refine name5 (Q := fun W => Code.wp _ _ _ _ W) ?_
            intro Z5 M5 hz5 s1 s2 s3 s4 s5
            have LZ := hl2.trans M5
            have p1 : ∀ w', Lat Z5 w' → Sl w' .i64 (some ⟨W9.heap.size, 0, none⟩) 2 [0, 1] := fun w' h => Sl.of_blk' (t := 3) (b1.later (LZ.trans h)) rfl
            have hcase : ∀ j, j < 4 → ∃ A n c L, (#[(.slice (some ⟨wr.heap.size, 0, none⟩) 1 1 : Value), .slice (some ⟨wr.heap.size + 1, 0, none⟩) 2 2, .slice (some ⟨wr.heap.size + 1 + 1, 0, none⟩) 2 2, .slice (some ⟨wr.heap.size + 1 + 1 + 1, 0, none⟩) 2 2] : Array Value)[j]? = some (.slice A n c) ∧ Sl Z5 .i64 A n L ∧ giveE [0, 1] 2 11 L = 2 ∧ n ≤ 100 := by
              intro j hj
              match j, hj with
              | 0, _ => exact ⟨_, _, _, [0], rfl, Sl.of_blk' (t := 3) s1 rfl, by decide +kernel, by decide⟩
              | 1, _ => exact ⟨_, _, _, [-1, 0], rfl, Sl.of_blk' (t := 3) s2 rfl, by decide +kernel, by decide⟩
              | 2, _ => exact ⟨_, _, _, [2, 1], rfl, Sl.of_blk' (t := 3) s3 rfl, by decide +kernel, by decide⟩
              | 3, _ => exact ⟨_, _, _, [3, 0], rfl, Sl.of_blk' (t := 3) s4 rfl, by decide +kernel, by decide⟩
            have HC := Lib.hid hcase
            clear hcase s1 s2 s3 s4 hz5 hz1
            go_loopw [251] (fun i wr => ∃ j : Nat, j ≤ 4 ∧ i = .int .i64 j ∧ Lat Z5 wr) (fun i _ => 4 - (intOf i).toNat)
            case atStart => exact ⟨0, by omega, rfl, Lat.refl _⟩
            case round =>
              rename_i wr3
              obtain ⟨j, hj, rfl, hl3⟩ := hrel
              by_cases hlt : j < 4
              · obtain ⟨A, n, c, L, hc, hsl, hbad, hn⟩ := HC.out j hlt
                have hcell := ((s5.later hl3).cell j).trans hc
                have hltI : (j : Int) < 4 := by omega
                have HG := fun c' w (h : Sl w .i64 (some ⟨W9.heap.size, 0, none⟩) 2 [0, 1]) (h2 : Sl w .i64 A n L) => dGive_any (some ⟨W9.heap.size, 0, none⟩) 2 c' [0, 1] A n c L 2 11 w h h2 (by decide) (by omega)
                rw [hbad] at HG
                have hsl3 := hsl.later hl3
                have p3 := p1 _ hl3
                clear hc hbad hsl
                go_wp2_with fail
                refine (HG _ _ p3 hsl3).mono ?_
                rintro e V1 ⟨A1, n1, c1, A2, n2, c2, rfl, _, _, lv⟩
                have LV := hl3.trans lv
                clear HG lv hcell hsl3 p3
                go_wp2
                generalize hV9 : V1.alloc _ = V9
                have L9 : Lat Z5 V9 := by rw [← hV9]; exact LV.trans (Lat.alloc _ _)
                clear hV9
                go_roundw
                case rel => exact ⟨_, _, _, _, _, _, _, _, _, _, _, _, _, _, _, _, _, ⟨j + 1, by omega, by go_num, L9⟩, rfl⟩
                case measure => simp [intOf]; omega
              · obtain rfl : j = 4 := by omega
                clear hj hlt HC s5
                have HE1 := fun A c w (h : Sl w .i64 A 1 [0]) => dGive_any A 1 c [0] none 0 0 [] 0 0 w h (Sl.nil _ _ _) (by decide) (by decide)
                have HE2 := fun w => dOrder_any none 0 0 [] none 0 0 [] 0 0 w (Sl.nil _ _ _) (Sl.nil _ _ _) (by decide) (by decide)
                rw [lk_e1] at HE1
                rw [lk_e2] at HE2
                go_wp2_with fail
                refine name1 (Q := fun W => Calls _ _ _ W _) ?_
                intro Q1 N1 hq1 d1
                refine (HE1 _ _ Q1 (Sl.of_blk' (t := 3) d1 rfl)).mono ?_
                rintro e V1 ⟨A1, n1, c1, A2, n2, c2, rfl, _, _, lv⟩
                have LV := (hl3.trans N1).trans lv
                clear HE1 lv N1 hq1 d1
                go_wp2_with fail
                refine name1 (Q := fun W => Calls _ _ _ W _) ?_
                intro Q2 N2 hq2 d2
                refine (HE2 Q2).mono ?_
                rintro e V2 ⟨A3, n3, c3, rfl, _, lv⟩
                have LV := (LV.trans N2).trans lv
                clear HE2 lv N2 hq2 d2
                go_wp2_with fail
                refine name2 (Q := fun W => Calls _ _ _ W _) ?_
                intro Q3 N3 hq3 d1 d2
                have LV := LV.trans N3
                refine (gives_yes _ 2 2 [0, 1] _ 2 2 [1, 0] 2 11 _ 2 2 [1, 1] none 0 0 [] 0 lk_g1 Q3 (p1 _ LV) (Sl.of_blk' (t := 3) d1 rfl) (Sl.of_blk' (t := 3) d2 rfl) (Sl.nil _ _ _)).mono ?_
                rintro e V3 ⟨rfl, lv⟩
                have LV := LV.trans lv
                clear lv N3 hq3 d1 d2
                go_wp2_with fail
                refine name1 (Q := fun W => Calls _ _ _ W _) ?_
                intro Q4 N4 hq4 d1
                have LV := LV.trans N4
                refine (gives_yes _ 2 2 [0, 1] none 0 0 [] 1000 12 _ 2 2 [0, 1000] none 0 0 [] 0 lk_g2 Q4 (p1 _ LV) (Sl.nil _ _ _) (Sl.of_blk' (t := 3) d1 rfl) (Sl.nil _ _ _)).mono ?_
                rintro e V4 ⟨rfl, lv⟩
                have LV := LV.trans lv
                clear lv N4 hq4 d1
                go_wp2_with fail
                refine name3 (Q := fun W => Calls _ _ _ W _) ?_
                intro Q5 N5 hq5 d1 d2 d3
                have LV := LV.trans N5
                refine (gives_yes _ 3 3 [5, 5, 1] none 0 0 [] 1 13 _ 3 3 [0, 0, 0] _ 2 2 [0, 1] 1 lk_g3 Q5 (Sl.of_blk' (t := 3) d1 rfl) (Sl.nil _ _ _) (Sl.of_blk' (t := 3) d2 rfl) (Sl.of_blk' (t := 3) d3 rfl)).mono ?_
                rintro e V5 ⟨rfl, lv⟩
                have LV := LV.trans lv
                clear lv N5 hq5 d1 d2 d3
                go_wp2_with fail
                refine name3 (Q := fun W => Calls _ _ _ W _) ?_
                intro Q6 N6 hq6 d1 d2 d3
                have LV := LV.trans N6
                refine (gives_yes _ 4 4 [1, 1, 1, 1] none 0 0 [] 6 15 _ 4 4 [1, 1, 1, 1] _ 4 4 [0, 1, 2, 3] 2 lk_g4 Q6 (Sl.of_blk' (t := 3) d1 rfl) (Sl.nil _ _ _) (Sl.of_blk' (t := 3) d2 rfl) (Sl.of_blk' (t := 3) d3 rfl)).mono ?_
                rintro e V6 ⟨rfl, lv⟩
                have LV := LV.trans lv
                clear lv N6 hq6 d1 d2 d3
                go_wp2
                go_ret
                exact ⟨rfl, l1.trans (L1.trans (LL.trans (hL.trans (M1.trans (LZ.trans LV)))))⟩
end Go.Proofs.Ytkjnjooggicgiaa
