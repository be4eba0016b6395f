
/- Chance: works answers true, in every world. -/
import Derived.Test.YtogkkhaepfablaaGreatCwC
namespace Go.Proofs.YtogkkhaepfablaaGreat
open Go.RowKit Go.Shelf
set_option linter.unusedSimpArgs false


set_option maxRecDepth 100000 in
set_option maxHeartbeats 8000000 in
theorem works_any (w : World) : Calls Tryz.prog 7 #[] w (fun e w' => e = .returned (.bool true) ∧ Lat w w') := by
  obtain ⟨s1, hs1⟩ : ∃ s, chStep 0 = s := ⟨_, rfl⟩
  obtain ⟨s2, hs2⟩ : ∃ s, chStep s1 = s := ⟨_, rfl⟩
  obtain ⟨s3, hs3⟩ : ∃ s, chStep s2 = s := ⟨_, rfl⟩
  have n1 : NxC 0 16294208416658607535 s1 := by have := nxC 0 (by decide); rw [ln3.1, hs1] at this; exact this
  have n2 : NxC s1 7960286522194355700 s2 := by
    have := nxC s1 (by rw [← hs1]; exact chStep_lt _)
    have h := ln3.2.1
    rw [hs1] at h
    rw [h, hs2] at this
    exact this
  have n3 : NxC s2 487617019471545679 s3 := by
    have := nxC s2 (by rw [← hs2]; exact chStep_lt _)
    have h := ln3.2.2
    rw [hs1, hs2] at h
    rw [h, hs3] at this
    exact this
  have N1 := Lib.hid n1
  have N2 := Lib.hid n2
  have N3 := Lib.hid n3
  clear hs1 hs2 hs3 n1 n2 n3
  go_enter Tryz.func7, Tryz.ntmps7
  go_upto_region 3 with (fail)
  refine name1 (Q := fun W => Code.wp _ _ _ _ W) ?_
  intro W hl hs k1
  go_loopw [23] (fun i wr => Lat w wr ∧ ((i = .int .i64 0 ∧ Blk wr w.heap.size 24 #[.int .u64 (0 : Nat)]) ∨ (i = .int .i64 1 ∧ Blk wr w.heap.size 24 #[.int .u64 (s1 : Nat)]) ∨ (i = .int .i64 2 ∧ Blk wr w.heap.size 24 #[.int .u64 (s2 : Nat)]) ∨ i = .int .i64 3)) (fun i _ => 3 - (intOf i).toNat)
  case atStart => exact ⟨hl, .inl ⟨rfl, k1⟩⟩
  case round =>
    obtain ⟨hlr, hrel⟩ := hrel
    clear k1 hl hs
    rcases hrel with ⟨rfl, k1⟩ | ⟨rfl, k1⟩ | ⟨rfl, k1⟩ | rfl
    · have c0 : wr.cell? ⟨w.heap.size, 0, none⟩ = some (.int .u64 (0 : Nat)) := k1.cell 0
      have hix := cw_ix0
      go_wp2_with fail
      refine (N1.out wr).mono ?_
      rintro e w1 ⟨rfl, l1⟩
      have k1 := k1.later l1
      have L1 := hlr.trans l1
      clear c0 l1 hlr
      go_upto_region 8 with (fail)
      refine name1 (Q := fun W => Code.wp _ _ _ _ W) ?_
      intro w2 l2 hs2 k5
      have k1 := k1.later l2
      have L2 := L1.trans l2
      clear l2 L1
      have c5 : w2.cell? ⟨w1.heap.size, 0, none⟩ = some (.int .u64 (s1 : Nat)) := k5.cell 0
      have c1 : w2.cell? ⟨w.heap.size, 0, none⟩ = some (.int .u64 (0 : Nat)) := k1.cell 0
      have f1 := k1.frozen 0
      have h1 := k1.lt
      go_wp2
      have j1 : Blk (w2.setCell ⟨w.heap.size, 0, none⟩ (.int .u64 (s1 : Nat))) w.heap.size 24 #[.int .u64 (s1 : Nat)] := by have := k1.set 0 (.int .u64 (s1 : Nat)); simpa using this
      exact ⟨⟨L2.setCell (p := ⟨w.heap.size, 0, none⟩) (Nat.le_refl _) _, .inr (.inl ⟨rfl, j1⟩)⟩, by simp [intOf]⟩
    · have c0 : wr.cell? ⟨w.heap.size, 0, none⟩ = some (.int .u64 (s1 : Nat)) := k1.cell 0
      have hix := cw_ix1
      go_wp2_with fail
      refine (N2.out wr).mono ?_
      rintro e w1 ⟨rfl, l1⟩
      have k1 := k1.later l1
      have L1 := hlr.trans l1
      clear c0 l1 hlr
      go_upto_region 8 with (fail)
      refine name1 (Q := fun W => Code.wp _ _ _ _ W) ?_
      intro w2 l2 hs2 k5
      have k1 := k1.later l2
      have L2 := L1.trans l2
      clear l2 L1
      have c5 : w2.cell? ⟨w1.heap.size, 0, none⟩ = some (.int .u64 (s2 : Nat)) := k5.cell 0
      have c1 : w2.cell? ⟨w.heap.size, 0, none⟩ = some (.int .u64 (s1 : Nat)) := k1.cell 0
      have f1 := k1.frozen 0
      have h1 := k1.lt
      go_wp2
      have j1 : Blk (w2.setCell ⟨w.heap.size, 0, none⟩ (.int .u64 (s2 : Nat))) w.heap.size 24 #[.int .u64 (s2 : Nat)] := by have := k1.set 0 (.int .u64 (s2 : Nat)); simpa using this
      exact ⟨⟨L2.setCell (p := ⟨w.heap.size, 0, none⟩) (Nat.le_refl _) _, .inr (.inr (.inl ⟨rfl, j1⟩))⟩, by simp [intOf]⟩
    · have c0 : wr.cell? ⟨w.heap.size, 0, none⟩ = some (.int .u64 (s2 : Nat)) := k1.cell 0
      have hix := cw_ix2
      go_wp2_with fail
      refine (N3.out wr).mono ?_
      rintro e w1 ⟨rfl, l1⟩
      have k1 := k1.later l1
      have L1 := hlr.trans l1
      clear c0 l1 hlr
      go_upto_region 8 with (fail)
      refine name1 (Q := fun W => Code.wp _ _ _ _ W) ?_
      intro w2 l2 hs2 k5
      have k1 := k1.later l2
      have L2 := L1.trans l2
      clear l2 L1
      have c5 : w2.cell? ⟨w1.heap.size, 0, none⟩ = some (.int .u64 (s3 : Nat)) := k5.cell 0
      have c1 : w2.cell? ⟨w.heap.size, 0, none⟩ = some (.int .u64 (s2 : Nat)) := k1.cell 0
      have f1 := k1.frozen 0
      have h1 := k1.lt
      go_wp2
      have j1 : Blk (w2.setCell ⟨w.heap.size, 0, none⟩ (.int .u64 (s3 : Nat))) w.heap.size 24 #[.int .u64 (s3 : Nat)] := by have := k1.set 0 (.int .u64 (s3 : Nat)); simpa using this
      exact ⟨⟨L2.setCell (p := ⟨w.heap.size, 0, none⟩) (Nat.le_refl _) _, .inr (.inr (.inr rfl))⟩, by simp [intOf]⟩
    · obtain ⟨o0, ho0⟩ : ∃ o, W8.of 0 = o := ⟨_, rfl⟩
      obtain ⟨o1, ho1⟩ : ∃ o, W8.of 1 = o := ⟨_, rfl⟩
      obtain ⟨o5, ho5⟩ : ∃ o, W8.of 5 = o := ⟨_, rfl⟩
      obtain ⟨o15, ho15⟩ : ∃ o, W8.of 15 = o := ⟨_, rfl⟩
      obtain ⟨o16, ho16⟩ : ∃ o, W8.of 16 = o := ⟨_, rfl⟩
      obtain ⟨om, hom⟩ : ∃ o, W8.of (-1) = o := ⟨_, rfl⟩
      obtain ⟨t16, ht16⟩ : ∃ t, widS 0 16 = t := ⟨_, rfl⟩
      obtain ⟨t2, ht2⟩ : ∃ t, widS 0 2 = t := ⟨_, rfl⟩
      have z0 : ((0 : Nat) : Int) = 0 := rfl
      have HO1 : ∀ w, Calls Tryz.prog 15 #[.int .i64 1] w (fun e w' => e = .returned (.agg #[.int .u64 o1.a0, .int .u64 o1.a1, .int .u64 o1.a2, .int .u64 o1.a3, .int .u64 o1.a4, .int .u64 o1.a5, .int .u64 o1.a6, .int .u64 o1.a7]) ∧ Lat w w') := fun w => by rw [← ho1]; exact of_any 1 (by decide) (by decide) w
      have HO16 : ∀ w, Calls Tryz.prog 15 #[.int .i64 16] w (fun e w' => e = .returned (.agg #[.int .u64 o16.a0, .int .u64 o16.a1, .int .u64 o16.a2, .int .u64 o16.a3, .int .u64 o16.a4, .int .u64 o16.a5, .int .u64 o16.a6, .int .u64 o16.a7]) ∧ Lat w w') := fun w => by rw [← ho16]; exact of_any 16 (by decide) (by decide) w
      have HO15 : ∀ w, Calls Tryz.prog 15 #[.int .i64 15] w (fun e w' => e = .returned (.agg #[.int .u64 o15.a0, .int .u64 o15.a1, .int .u64 o15.a2, .int .u64 o15.a3, .int .u64 o15.a4, .int .u64 o15.a5, .int .u64 o15.a6, .int .u64 o15.a7]) ∧ Lat w w') := fun w => by rw [← ho15]; exact of_any 15 (by decide) (by decide) w
      have HO5 : ∀ w, Calls Tryz.prog 15 #[.int .i64 5] w (fun e w' => e = .returned (.agg #[.int .u64 o5.a0, .int .u64 o5.a1, .int .u64 o5.a2, .int .u64 o5.a3, .int .u64 o5.a4, .int .u64 o5.a5, .int .u64 o5.a6, .int .u64 o5.a7]) ∧ Lat w w') := fun w => by rw [← ho5]; exact of_any 5 (by decide) (by decide) w
      have HOm : ∀ w, Calls Tryz.prog 15 #[.int .i64 (-1)] w (fun e w' => e = .returned (.agg #[.int .u64 om.a0, .int .u64 om.a1, .int .u64 om.a2, .int .u64 om.a3, .int .u64 om.a4, .int .u64 om.a5, .int .u64 om.a6, .int .u64 om.a7]) ∧ Lat w w') := fun w => by rw [← hom]; exact of_any (-1) (by decide) (by decide) w
      have HW1 : ∀ w, Calls Tryz.prog 13 #[.agg #[.int .u64 0], .agg #[.int .u64 o1.a0, .int .u64 o1.a1, .int .u64 o1.a2, .int .u64 o1.a3, .int .u64 o1.a4, .int .u64 o1.a5, .int .u64 o1.a6, .int .u64 o1.a7]] w (fun e w' => e = .returned (.tuple #[.agg #[.int .u64 o0.a0, .int .u64 o0.a1, .int .u64 o0.a2, .int .u64 o0.a3, .int .u64 o0.a4, .int .u64 o0.a5, .int .u64 o0.a6, .int .u64 o0.a7], .agg #[.int .u64 0], .int .i64 0]) ∧ Lat w w') := fun w => by
        have := wide_w 1 (by decide) (by decide) w
        rw [lk1.1, lk1.2.1, lk1.2.2, ho0, ho1] at this
        exact this
      have HW16 : ∀ w, Calls Tryz.prog 13 #[.agg #[.int .u64 0], .agg #[.int .u64 o16.a0, .int .u64 o16.a1, .int .u64 o16.a2, .int .u64 o16.a3, .int .u64 o16.a4, .int .u64 o16.a5, .int .u64 o16.a6, .int .u64 o16.a7]] w (fun e w' => e = .returned (.tuple #[.agg #[.int .u64 o15.a0, .int .u64 o15.a1, .int .u64 o15.a2, .int .u64 o15.a3, .int .u64 o15.a4, .int .u64 o15.a5, .int .u64 o15.a6, .int .u64 o15.a7], .agg #[.int .u64 (t16 : Nat)], .int .i64 0]) ∧ Lat w w') := fun w => by
        have := wide_w 16 (by decide) (by decide) w
        rw [lk16.1, lk16.2, ho15, ho16, ht16] at this
        exact this
      have HCN : ∀ (u v : W8), u.ok → v.ok → u.toInt = 1 → v.toInt = 2 → ∀ w, Calls Tryz.prog 21 #[.agg #[.int .u64 0], .agg #[.int .u64 u.a0, .int .u64 u.a1, .int .u64 u.a2, .int .u64 u.a3, .int .u64 u.a4, .int .u64 u.a5, .int .u64 u.a6, .int .u64 u.a7, .int .u64 v.a0, .int .u64 v.a1, .int .u64 v.a2, .int .u64 v.a3, .int .u64 v.a4, .int .u64 v.a5, .int .u64 v.a6, .int .u64 v.a7]] w (fun e w' => e = .returned (.tuple #[.bool false, .agg #[.int .u64 (t2 : Nat)], .int .i64 0]) ∧ Lat w w') := fun u v h1 h2 h3 h4 w => by
        have := coinHalf u v h1 h2 h3 h4 w
        rw [ht2] at this
        exact this
      have HS1 : ∀ w, Calls Tryz.prog 31 #[.agg #[.int .u64 0], .int .i64 1] w (ShufEnd w [0] 0 0) := fun w => shuffle_one 0 w
      have HS4 : ∀ w, Calls Tryz.prog 31 #[.agg #[.int .u64 0], .int .i64 401] w (fun e w' => e = .returned (.tuple #[.slice none 0 0, .agg #[.int .u64 0], .int .i64 2]) ∧ Lat w w') := fun w => shuffle_far 0 401 (by decide) w
      have HE7 : Hid (∀ w, (binOp .eql 26 (.agg #[.int .u64 o0.a0, .int .u64 o0.a1, .int .u64 o0.a2, .int .u64 o0.a3, .int .u64 o0.a4, .int .u64 o0.a5, .int .u64 o0.a6, .int .u64 o0.a7]) (.agg #[.int .u64 W8.zero.a0, .int .u64 W8.zero.a1, .int .u64 W8.zero.a2, .int .u64 W8.zero.a3, .int .u64 W8.zero.a4, .int .u64 W8.zero.a5, .int .u64 W8.zero.a6, .int .u64 W8.zero.a7])).run Tryz.prog w = .ok (.bool true) w) := fun w => by
        rw [← ho0, ← W8.zero_eq, wide_eq W8.zero_ok W8.zero_ok]
        simp
      have HE10 : Hid (∀ w, (binOp .eql 26 (.agg #[.int .u64 o15.a0, .int .u64 o15.a1, .int .u64 o15.a2, .int .u64 o15.a3, .int .u64 o15.a4, .int .u64 o15.a5, .int .u64 o15.a6, .int .u64 o15.a7]) (.agg #[.int .u64 o15.a0, .int .u64 o15.a1, .int .u64 o15.a2, .int .u64 o15.a3, .int .u64 o15.a4, .int .u64 o15.a5, .int .u64 o15.a6, .int .u64 o15.a7])).run Tryz.prog w = .ok (.bool true) w) := fun w => by
        rw [← ho15, wide_eq (W8.of_ok 15) (W8.of_ok 15)]
        simp
      have H0 := Lib.hid (show W8.of 5 = o5 ∧ W8.of (-1) = om from ⟨ho5, hom⟩)
      clear ho0 ho1 ho5 ho15 ho16 hom ht16 ht2 z0 N1 N2 N3
      go_upto_region 11 with (fail)
      refine name1 (Q := fun W => Code.wp _ _ _ _ W) ?_
      intro Va la0 hsa k6
      have LA := hlr.trans la0
      obtain ⟨g6, hg6⟩ : ∃ z, wr.heap.size = z := ⟨_, rfl⟩
      rw [hg6] at k6 ⊢
      clear la0 hsa hg6 hlr
      obtain ⟨T10, hT10⟩ : ∃ t, belS 0 10 = t := ⟨_, rfl⟩
      obtain ⟨T1, hT1⟩ : ∃ t, belS 0 1 = t := ⟨_, rfl⟩
      obtain ⟨T5, hT5⟩ : ∃ t, widS 0 5 = t := ⟨_, rfl⟩
      have HB10 : ∀ w, Calls Tryz.prog 8 #[.agg #[.int .u64 0], .int .i64 10] w (fun e w' => e = .returned (.tuple #[.int .i64 5, .agg #[.int .u64 (T10 : Nat)], .int .i64 0]) ∧ Lat w w') := fun w => by
        have := cBelow_any 0 (by decide) 10 (by decide) w
        rw [lb10.1, lb10.2.1, hT10] at this
        exact this
      have HB1 : ∀ w, Calls Tryz.prog 8 #[.agg #[.int .u64 0], .int .i64 1] w (fun e w' => e = .returned (.tuple #[.int .i64 0, .agg #[.int .u64 (T1 : Nat)], .int .i64 0]) ∧ Lat w w') := fun w => by
        have := cBelow_any 0 (by decide) 1 (by decide) w
        rw [lb1.1, lb1.2.1, hT1] at this
        exact this
      have HB0 : ∀ w, Calls Tryz.prog 8 #[.agg #[.int .u64 0], .int .i64 0] w (fun e w' => e = .returned (.tuple #[.int .i64 0, .agg #[.int .u64 0], .int .i64 2]) ∧ Lat w w') := fun w => by
        have := cBelow_any 0 (by decide) 0 (by decide) w
        rw [lb0.1, lb0.2.1, lb0.2.2] at this
        exact this
      have HPN : ∀ w, Calls Tryz.prog 16 #[.agg #[.int .u64 0], .slice none 0 0] w (fun e w' => e = .returned (.tuple #[.int .i64 0, .agg #[.int .u64 0], .int .i64 7]) ∧ Lat w w') := fun w => pickNil w
      have HPM : ∀ (g : Nat) (w : World), Blk w g 26 #[.int .u64 om.a0, .int .u64 om.a1, .int .u64 om.a2, .int .u64 om.a3, .int .u64 om.a4, .int .u64 om.a5, .int .u64 om.a6, .int .u64 om.a7] → Calls Tryz.prog 16 #[.agg #[.int .u64 0], .slice (some ⟨g, 0, none⟩) 1 1] w (fun e w' => e = .returned (.tuple #[.int .i64 0, .agg #[.int .u64 0], .int .i64 2]) ∧ Lat w w') := fun g w h => pickNeg g w (by rw [H0.out.2]; exact h)
      have HPD : ∀ (g : Nat) (w : World), Blk w g 26 #[.int .u64 W8.zero.a0, .int .u64 W8.zero.a1, .int .u64 W8.zero.a2, .int .u64 W8.zero.a3, .int .u64 W8.zero.a4, .int .u64 W8.zero.a5, .int .u64 W8.zero.a6, .int .u64 W8.zero.a7, .int .u64 o5.a0, .int .u64 o5.a1, .int .u64 o5.a2, .int .u64 o5.a3, .int .u64 o5.a4, .int .u64 o5.a5, .int .u64 o5.a6, .int .u64 o5.a7, .int .u64 W8.zero.a0, .int .u64 W8.zero.a1, .int .u64 W8.zero.a2, .int .u64 W8.zero.a3, .int .u64 W8.zero.a4, .int .u64 W8.zero.a5, .int .u64 W8.zero.a6, .int .u64 W8.zero.a7] → Calls Tryz.prog 16 #[.agg #[.int .u64 0], .slice (some ⟨g, 0, none⟩) 3 3] w (fun e w' => e = .returned (.tuple #[.int .i64 1, .agg #[.int .u64 (T5 : Nat)], .int .i64 0]) ∧ Lat w w') := fun g w h => by
        have := pickMid g w (by rw [H0.out.1]; exact h)
        rw [hT5] at this
        exact this
      have HT10 : (0 ≤ (T10 : Int) ∧ (T10 : Int) < W64) ∧ decide ((T10 : Int) = 0) = false := by
        have h1 := lb10.2.2.1
        have h2 := lb10.2.2.2
        rw [hT10] at h1 h2
        exact ⟨by unfold W64; omega, decide_eq_false (by omega)⟩
      have HT1 : (0 ≤ (T1 : Int) ∧ (T1 : Int) < W64) ∧ decide ((T1 : Int) = 0) = false := by
        have h1 := lb1.2.2.1
        have h2 := lb1.2.2.2
        rw [hT1] at h1 h2
        exact ⟨by unfold W64; omega, decide_eq_false (by omega)⟩
      have HT5 : (0 ≤ (T5 : Int) ∧ (T5 : Int) < W64) ∧ decide ((T5 : Int) = 0) = false := by
        have h1 := lk5.2.2.1
        have h2 := lk5.2.2.2
        rw [hT5] at h1 h2
        exact ⟨by unfold W64; omega, decide_eq_false (by omega)⟩
      have HE24 : Hid (∀ w, (binOp .eql 24 (.agg #[.int .u64 0]) (.agg #[.int .u64 0])).run Tryz.prog w = .ok (.bool true) w) := fun w => chance_eql (s := 0) (t := 0) (by decide) (by decide) w
      have hgd44 : Hid (Tryz.prog.eqGuardType Tryz.prog.depth 26 = false) := by show _ = _; kernel_rfl
      have hgd24 : Hid (Tryz.prog.eqGuardType Tryz.prog.depth 24 = false) := by show _ = _; kernel_rfl
      have J24 : (Tryz.prog.info? 24).map (·.size) = some 1 := by kernel_rfl
      have J44 : (Tryz.prog.info? 26).map (·.size) = some 8 := by kernel_rfl
      clear hT10 hT1 hT5 H0
      rename_i K11 hK11
      have TAIL11 : ∀ (a0 a1 a2 a3 a4 a5 a10 a11 a12 a13 a14 a15 a16 a17 a18 a19 a20 a21 a22 a23 a24 a25 a26 a27 a28 a29 a30 a31 a32 a33 a34 a35 a36 a37 a38 a39 a40 a41 a42 a43 a44 a45 a46 a47 a48 a49 a50 a51 a52 a53 a54 a55 a56 a57 a58 a59 a60 a61 a62 a63 a64 a65 a66 a67 a68 a69 a70 a71 a72 a73 a74 a75 a76 a77 a78 a79 a80 a81 a82 a83 a84 a85 a86 a87 a88 a89 a90 a91 a92 a93 a94 a95 a96 a97 a98 a99 a100 a101 a102 a103 a104 a105 a106 a107 a108 a109 a110 a111 a112 a113 a114 a115 a116 a117 a118 a119 a120 a121 a122 a123 a124 a125 a126 a127 a128 a129 a130 a131 a132 a133 a134 a135 a136 a137 a138 a139 a140 a141 a142 a143 a144 a145 a146 a147 a148 a149 a150 a151 a152 a153 a154 a155 a156 a157 a158 a159 a160 a161 a162 a163 a164 a165 a166 a167 a168 a169 a170 : Value) (g7 g8 : Nat) (V : World), Lat w V → Blk V g6 24 #[.int .u64 0] → Blk V g7 26 #[.int .u64 o0.a0, .int .u64 o0.a1, .int .u64 o0.a2, .int .u64 o0.a3, .int .u64 o0.a4, .int .u64 o0.a5, .int .u64 o0.a6, .int .u64 o0.a7] → Blk V g8 24 #[.int .u64 0] → K11 { tmps := #[a0, a1, a2, a3, a4, a5, .pointer (some ⟨g6, 0, none⟩), .pointer (some ⟨g7, 0, none⟩), .pointer (some ⟨g8, 0, none⟩), .int .i64 0, a10, a11, a12, a13, a14, a15, a16, a17, a18, a19, a20, a21, a22, a23, a24, a25, a26, a27, a28, a29, a30, a31, a32, a33, a34, a35, a36, a37, a38, a39, a40, a41, a42, a43, a44, a45, a46, a47, a48, a49, a50, a51, a52, a53, a54, a55, a56, a57, a58, a59, a60, a61, a62, a63, a64, a65, a66, a67, a68, a69, a70, a71, a72, a73, a74, a75, a76, a77, a78, a79, a80, a81, a82, a83, a84, a85, a86, a87, a88, a89, a90, a91, a92, a93, a94, a95, a96, a97, a98, a99, a100, a101, a102, a103, a104, a105, a106, a107, a108, a109, a110, a111, a112, a113, a114, a115, a116, a117, a118, a119, a120, a121, a122, a123, a124, a125, a126, a127, a128, a129, a130, a131, a132, a133, a134, a135, a136, a137, a138, a139, a140, a141, a142, a143, a144, a145, a146, a147, a148, a149, a150, a151, a152, a153, a154, a155, a156, a157, a158, a159, a160, a161, a162, a163, a164, a165, a166, a167, a168, a169, a170], defers := [] } V := by
        as_aux_lemma =>
        intro a0 a1 a2 a3 a4 a5 a10 a11 a12 a13 a14 a15 a16 a17 a18 a19 a20 a21 a22 a23 a24 a25 a26 a27 a28 a29 a30 a31 a32 a33 a34 a35 a36 a37 a38 a39 a40 a41 a42 a43 a44 a45 a46 a47 a48 a49 a50 a51 a52 a53 a54 a55 a56 a57 a58 a59 a60 a61 a62 a63 a64 a65 a66 a67 a68 a69 a70 a71 a72 a73 a74 a75 a76 a77 a78 a79 a80 a81 a82 a83 a84 a85 a86 a87 a88 a89 a90 a91 a92 a93 a94 a95 a96 a97 a98 a99 a100 a101 a102 a103 a104 a105 a106 a107 a108 a109 a110 a111 a112 a113 a114 a115 a116 a117 a118 a119 a120 a121 a122 a123 a124 a125 a126 a127 a128 a129 a130 a131 a132 a133 a134 a135 a136 a137 a138 a139 a140 a141 a142 a143 a144 a145 a146 a147 a148 a149 a150 a151 a152 a153 a154 a155 a156 a157 a158 a159 a160 a161 a162 a163 a164 a165 a166 a167 a168 a169 a170 g7 g8 V LV k6 k7 k8
        refine hK11 _ _ ?_
        clear hK11
        go_upto_region 12 with (fail)
        rename_i K12 hK12
        have TAIL12 : ∀ (a0 a1 a2 a3 a4 a5 a11 a13 a14 a15 a16 a17 a18 a19 a20 a21 a22 a23 a24 a25 a26 a27 a28 a29 a30 a31 a32 a33 a34 a35 a36 a37 a38 a39 a40 a41 a42 a43 a44 a45 a46 a47 a48 a49 a50 a51 a52 a53 a54 a55 a56 a57 a58 a59 a60 a61 a62 a63 a64 a65 a66 a67 a68 a69 a70 a71 a72 a73 a74 a75 a76 a77 a78 a79 a80 a81 a82 a83 a84 a85 a86 a87 a88 a89 a90 a91 a92 a93 a94 a95 a96 a97 a98 a99 a100 a101 a102 a103 a104 a105 a106 a107 a108 a109 a110 a111 a112 a113 a114 a115 a116 a117 a118 a119 a120 a121 a122 a123 a124 a125 a126 a127 a128 a129 a130 a131 a132 a133 a134 a135 a136 a137 a138 a139 a140 a141 a142 a143 a144 a145 a146 a147 a148 a149 a150 a151 a152 a153 a154 a155 a156 a157 a158 a159 a160 a161 a162 a163 a164 a165 a166 a167 a168 a169 a170 : Value) (g10 g11 : Nat) (V : World), Lat w V → Blk V g6 24 #[.int .u64 0] → Blk V g7 26 #[.int .u64 o0.a0, .int .u64 o0.a1, .int .u64 o0.a2, .int .u64 o0.a3, .int .u64 o0.a4, .int .u64 o0.a5, .int .u64 o0.a6, .int .u64 o0.a7] → Blk V g8 24 #[.int .u64 0] → Blk V g10 26 #[.int .u64 o15.a0, .int .u64 o15.a1, .int .u64 o15.a2, .int .u64 o15.a3, .int .u64 o15.a4, .int .u64 o15.a5, .int .u64 o15.a6, .int .u64 o15.a7] → K12 { tmps := #[a0, a1, a2, a3, a4, a5, .pointer (some ⟨g6, 0, none⟩), .pointer (some ⟨g7, 0, none⟩), .pointer (some ⟨g8, 0, none⟩), .int .i64 0, .pointer (some ⟨g10, 0, none⟩), a11, .int .i64 0, a13, a14, a15, a16, a17, a18, a19, a20, a21, a22, a23, a24, a25, a26, a27, a28, a29, a30, a31, a32, a33, a34, a35, a36, a37, a38, a39, a40, a41, a42, a43, a44, a45, a46, a47, a48, a49, a50, a51, a52, a53, a54, a55, a56, a57, a58, a59, a60, a61, a62, a63, a64, a65, a66, a67, a68, a69, a70, a71, a72, a73, a74, a75, a76, a77, a78, a79, a80, a81, a82, a83, a84, a85, a86, a87, a88, a89, a90, a91, a92, a93, a94, a95, a96, a97, a98, a99, a100, a101, a102, a103, a104, a105, a106, a107, a108, a109, a110, a111, a112, a113, a114, a115, a116, a117, a118, a119, a120, a121, a122, a123, a124, a125, a126, a127, a128, a129, a130, a131, a132, a133, a134, a135, a136, a137, a138, a139, a140, a141, a142, a143, a144, a145, a146, a147, a148, a149, a150, a151, a152, a153, a154, a155, a156, a157, a158, a159, a160, a161, a162, a163, a164, a165, a166, a167, a168, a169, a170], defers := [] } V := by
          as_aux_lemma =>
          intro a0 a1 a2 a3 a4 a5 a11 a13 a14 a15 a16 a17 a18 a19 a20 a21 a22 a23 a24 a25 a26 a27 a28 a29 a30 a31 a32 a33 a34 a35 a36 a37 a38 a39 a40 a41 a42 a43 a44 a45 a46 a47 a48 a49 a50 a51 a52 a53 a54 a55 a56 a57 a58 a59 a60 a61 a62 a63 a64 a65 a66 a67 a68 a69 a70 a71 a72 a73 a74 a75 a76 a77 a78 a79 a80 a81 a82 a83 a84 a85 a86 a87 a88 a89 a90 a91 a92 a93 a94 a95 a96 a97 a98 a99 a100 a101 a102 a103 a104 a105 a106 a107 a108 a109 a110 a111 a112 a113 a114 a115 a116 a117 a118 a119 a120 a121 a122 a123 a124 a125 a126 a127 a128 a129 a130 a131 a132 a133 a134 a135 a136 a137 a138 a139 a140 a141 a142 a143 a144 a145 a146 a147 a148 a149 a150 a151 a152 a153 a154 a155 a156 a157 a158 a159 a160 a161 a162 a163 a164 a165 a166 a167 a168 a169 a170 g10 g11 V LV k6 k7 k8 k10
          refine hK12 _ _ ?_
          clear hK12
          go_upto_region 13 with (fail)
          rename_i K13 hK13
          have TAIL13 : ∀ (a0 a1 a2 a3 a4 a5 a11 a14 a16 a17 a18 a19 a20 a21 a22 a23 a24 a25 a26 a27 a28 a29 a30 a31 a32 a33 a34 a35 a36 a37 a38 a39 a40 a41 a42 a43 a44 a45 a46 a47 a48 a49 a50 a51 a52 a53 a54 a55 a56 a57 a58 a59 a60 a61 a62 a63 a64 a65 a66 a67 a68 a69 a70 a71 a72 a73 a74 a75 a76 a77 a78 a79 a80 a81 a82 a83 a84 a85 a86 a87 a88 a89 a90 a91 a92 a93 a94 a95 a96 a97 a98 a99 a100 a101 a102 a103 a104 a105 a106 a107 a108 a109 a110 a111 a112 a113 a114 a115 a116 a117 a118 a119 a120 a121 a122 a123 a124 a125 a126 a127 a128 a129 a130 a131 a132 a133 a134 a135 a136 a137 a138 a139 a140 a141 a142 a143 a144 a145 a146 a147 a148 a149 a150 a151 a152 a153 a154 a155 a156 a157 a158 a159 a160 a161 a162 a163 a164 a165 a166 a167 a168 a169 a170 : Value) (V : World), Lat w V → Blk V g6 24 #[.int .u64 0] → Blk V g7 26 #[.int .u64 o0.a0, .int .u64 o0.a1, .int .u64 o0.a2, .int .u64 o0.a3, .int .u64 o0.a4, .int .u64 o0.a5, .int .u64 o0.a6, .int .u64 o0.a7] → Blk V g8 24 #[.int .u64 0] → Blk V g10 26 #[.int .u64 o15.a0, .int .u64 o15.a1, .int .u64 o15.a2, .int .u64 o15.a3, .int .u64 o15.a4, .int .u64 o15.a5, .int .u64 o15.a6, .int .u64 o15.a7] → K13 { tmps := #[a0, a1, a2, a3, a4, a5, .pointer (some ⟨g6, 0, none⟩), .pointer (some ⟨g7, 0, none⟩), .pointer (some ⟨g8, 0, none⟩), .int .i64 0, .pointer (some ⟨g10, 0, none⟩), a11, .int .i64 0, .bool false, a14, .int .i64 0, a16, a17, a18, a19, a20, a21, a22, a23, a24, a25, a26, a27, a28, a29, a30, a31, a32, a33, a34, a35, a36, a37, a38, a39, a40, a41, a42, a43, a44, a45, a46, a47, a48, a49, a50, a51, a52, a53, a54, a55, a56, a57, a58, a59, a60, a61, a62, a63, a64, a65, a66, a67, a68, a69, a70, a71, a72, a73, a74, a75, a76, a77, a78, a79, a80, a81, a82, a83, a84, a85, a86, a87, a88, a89, a90, a91, a92, a93, a94, a95, a96, a97, a98, a99, a100, a101, a102, a103, a104, a105, a106, a107, a108, a109, a110, a111, a112, a113, a114, a115, a116, a117, a118, a119, a120, a121, a122, a123, a124, a125, a126, a127, a128, a129, a130, a131, a132, a133, a134, a135, a136, a137, a138, a139, a140, a141, a142, a143, a144, a145, a146, a147, a148, a149, a150, a151, a152, a153, a154, a155, a156, a157, a158, a159, a160, a161, a162, a163, a164, a165, a166, a167, a168, a169, a170], defers := [] } V := by
            as_aux_lemma =>
            intro a0 a1 a2 a3 a4 a5 a11 a14 a16 a17 a18 a19 a20 a21 a22 a23 a24 a25 a26 a27 a28 a29 a30 a31 a32 a33 a34 a35 a36 a37 a38 a39 a40 a41 a42 a43 a44 a45 a46 a47 a48 a49 a50 a51 a52 a53 a54 a55 a56 a57 a58 a59 a60 a61 a62 a63 a64 a65 a66 a67 a68 a69 a70 a71 a72 a73 a74 a75 a76 a77 a78 a79 a80 a81 a82 a83 a84 a85 a86 a87 a88 a89 a90 a91 a92 a93 a94 a95 a96 a97 a98 a99 a100 a101 a102 a103 a104 a105 a106 a107 a108 a109 a110 a111 a112 a113 a114 a115 a116 a117 a118 a119 a120 a121 a122 a123 a124 a125 a126 a127 a128 a129 a130 a131 a132 a133 a134 a135 a136 a137 a138 a139 a140 a141 a142 a143 a144 a145 a146 a147 a148 a149 a150 a151 a152 a153 a154 a155 a156 a157 a158 a159 a160 a161 a162 a163 a164 a165 a166 a167 a168 a169 a170 V LV k6 k7 k8 k10
            refine hK13 _ _ ?_
            clear hK13 HW1 HW16 HCN HO1 HO16
            have c6 : V.cell? ⟨g6, 0, none⟩ = some (.int .u64 0) := k6.cell 0
            go_wp2_with fail
            refine (HS1 V).mono ?_
            rintro e V1 ⟨A, nn, cc, rfl, sl, l1⟩
            obtain rfl : nn = 1 := sl.1.symm
            replace k6 := k6.later l1
            replace k7 := k7.later l1
            replace k8 := k8.later l1
            replace k10 := k10.later l1
            replace LV := LV.trans l1
            clear l1 HS1 c6
            have c6 : V1.cell? ⟨g6, 0, none⟩ = some (.int .u64 0) := k6.cell 0
            have hl6 := k6.lt
            go_wp2_with fail
            refine name1 (Q := fun W => Calls _ _ _ W _) ?_
            intro V2 l2 hs2 k17
            refine (HS4 V2).mono ?_
            rintro e V3 ⟨rfl, l3⟩
            have l23 := l2.trans l3
            replace k6 := k6.later l23
            replace k7 := k7.later l23
            replace k8 := k8.later l23
            replace k10 := k10.later l23
            replace sl := sl.later l23
            replace LV := LV.trans l23
            clear l2 l3 l23 HS4 c6 hs2 k17 hl6
            go_upto_region 16 with (fail)
            refine name1 (Q := fun W => Code.wp _ _ _ _ W) ?_
            intro V16 l4 hs4 k20
            replace k6 := k6.later l4
            replace k7 := k7.later l4
            replace k8 := k8.later l4
            replace k10 := k10.later l4
            replace sl := sl.later l4
            replace LV := LV.trans l4
            clear l4 hs4 k20
            rename_i K16 hK16
            have R6 : ∀ w', Lat V16 w' → w'.rangeAt g6 0 [.int .u64 0] := fun w' h => Blk.rangeAll (l := [.int .u64 0]) (k6.later h)
            have R7 : ∀ w', Lat V16 w' → w'.rangeAt g7 0 [.int .u64 o0.a0, .int .u64 o0.a1, .int .u64 o0.a2, .int .u64 o0.a3, .int .u64 o0.a4, .int .u64 o0.a5, .int .u64 o0.a6, .int .u64 o0.a7] := fun w' h => Blk.rangeAll (l := [.int .u64 o0.a0, .int .u64 o0.a1, .int .u64 o0.a2, .int .u64 o0.a3, .int .u64 o0.a4, .int .u64 o0.a5, .int .u64 o0.a6, .int .u64 o0.a7]) (k7.later h)
            have R8 : ∀ w', Lat V16 w' → w'.rangeAt g8 0 [.int .u64 0] := fun w' h => Blk.rangeAll (l := [.int .u64 0]) (k8.later h)
            have R10 : ∀ w', Lat V16 w' → w'.rangeAt g10 0 [.int .u64 o15.a0, .int .u64 o15.a1, .int .u64 o15.a2, .int .u64 o15.a3, .int .u64 o15.a4, .int .u64 o15.a5, .int .u64 o15.a6, .int .u64 o15.a7] := fun w' h => Blk.rangeAll (l := [.int .u64 o15.a0, .int .u64 o15.a1, .int .u64 o15.a2, .int .u64 o15.a3, .int .u64 o15.a4, .int .u64 o15.a5, .int .u64 o15.a6, .int .u64 o15.a7]) (k10.later h)
            have HEQ : ∀ (g : Nat) (w : World), Lat V16 w → Blk w g 3 #[.int .i64 0] → Calls Tryz.prog 33 #[.slice A 1 cc, .slice (some ⟨g, 0, none⟩) 1 1] w (fun e w' => e = .returned (.bool true) ∧ Lat w w') := fun g w h b => equal_any A 1 cc [0] (some ⟨g, 0, none⟩) 1 1 [0] w (sl.later h) (Sl.of_blk' (t := 3) (xs := [0]) b rfl) (by decide) (by decide)
            refine wp_region_slots (cw16_rows A cc T10 T1 T5 o0 o5 o15 om) (cw16_base g6 g7 g8 g10 A cc) 171 103 [[], [], [1, 0], [2], [2], [2], [0, 3, 4, 5, 2], [6, 6], [7, 7], [7], [9, 8, 7], [10, 7], [10, 7], [10, 7], [8, 11, 12, 13, 10, 7], [7, 14], [15, 14], [16, 16], [16], [18, 17, 16], [19, 16], [19, 16], [19, 16], [17, 20, 21, 22, 19, 16], [16, 23], [24, 23], [25], [25], [26, 27, 25], [25, 28], [29, 25], [30], [30], [31, 32, 30], [30, 33], [34, 30], [35], [36, 35], [35, 37], [38, 35], [39], [39, 39], [40, 41, 39], [39, 42], [43, 41], [44], [45, 44], [44, 46], [47, 44], [48, 48], [48], [50, 49, 48], [51, 48], [51, 48], [51, 48], [49, 52, 53, 54, 51, 48], [48, 55], [56, 55], [57, 57], [57], [58, 57], [60, 57], [59, 61, 60, 57], [62, 57], [62, 57], [62, 57], [58, 63, 64, 65, 62, 57], [57, 66], [67, 66], [68, 68], [68], [68], [69, 68], [68], [71, 72, 73, 68], [70, 74, 72, 68], [75, 68], [75, 68], [75, 68], [69, 76, 77, 78, 75, 68], [68, 79], [80, 79], [81], [82, 81], [81, 83], [84, 81], [85], [86, 85], [85, 87], [88, 85], [89], [89], [90, 91, 89, 89], [89, 92], [93, 92], [94], [95, 94], [94, 96], [97, 94], [98], [99, 98], [98, 100], [101, 98, 0, 1, 2, 3, 4, 5, 6, 7, 8, 9, 10, 11, 12, 13, 14, 15, 16, 17, 18, 19, 20, 21, 22, 23, 24, 25, 26, 27, 28, 29, 30, 31, 32, 33, 34, 35, 36, 37, 38, 39, 40, 41, 42, 43, 44, 45, 46, 47, 48, 49, 50, 51, 52, 53, 54, 55, 56, 57, 58, 59, 60, 61, 62, 63, 64, 65, 66, 67, 68, 69, 70, 71, 72, 73, 74, 75, 76, 77, 78, 79, 80, 81, 82, 83, 84, 85, 86, 87, 88, 89, 90, 91, 92, 93, 94, 95, 96, 97, 98, 99, 100, 101]] (by kernel_rfl) (by kernel_rfl) (by kernel_rfl) (by kernel_rfl) (by kernel_rfl) (by kernel_rfl) (by rfl) rfl ?_ ?_ ?_
            ·
              exact base_of (base_cons (by rfl) (base_cons (by rfl) (base_cons (by rfl) (base_cons (by rfl) (base_cons (by rfl) (base_cons (by rfl) (base_cons (by rfl) (base_cons (by rfl) (base_cons (by rfl) (base_cons (by rfl) (base_cons (by rfl) (base_nil _))))))))))))
            · exact cw16_steps V16 g6 g7 g8 g10 A cc T10 T1 T5 o0 o5 o15 om HO15 HO5 HOm HE7 HE10 HB10 HB1 HB0 HPN HPM HPD HT10 HT1 HT5 HE24 hgd44 hgd24 J24 J44 R6 R7 R8 R10 HEQ
            · intro a W hsz hdf hL _ hsl
              obtain ⟨v, h0, hv⟩ := hsl 102 _ _ rfl rfl
              have hv' : v = .bool true := hv
              subst hv'
              refine hK16 _ _ ?_
              obtain ⟨T, df⟩ := a
              obtain rfl : df = [] := hdf
              have h0' : T[0]? = some (.bool true) := h0
              clear hsl hv h0 hsz
              go_wp2
              refine bodyPost_ret (v := .bool true) (by simp [results, Tryz.results7, go_sem, h0']) rfl ?_
              exact ⟨rfl, LV.trans hL⟩
          clear hK13 HS1 HS4
          as_aux_lemma =>
          have L0 := Lat.drew V
          have R6 : ∀ w', Lat V w' → w'.cell? ⟨g6, 0, none⟩ = some (.int .u64 0) := fun w' h => (k6.later h).cell 0
          refine wp_region_held_drew (S := fun w' => Lat V w') (by kernel_rfl) L0 (fun hHeld => ?_)
          generalize V.drew = U0 at L0 hHeld ⊢
          refine wpAnyH_take (i := 0) (v := .agg #[.int .u64 0]) rfl (by kernel_rfl) (by kernel_rfl) (by kernel_rfl) (fun _ _ _ h => h) (Or.inl ⟨by rfl, by intro w' hS; have hc := R6 w' hS; go_simp⟩) hHeld ?_
          simp only [Act.put, List.getElem_toArray, List.getElem_cons_succ, List.getElem_cons_zero, List.setIfInBounds_toArray, List.set_cons_zero, List.set_cons_succ]
          refine wpAnyH_ready (rs := [1, 7]) (by kernel_rfl) (by simp) (AllReadyH.cons rfl (fun K hK => ?_) (AllReadyH.cons rfl (fun K hK => ?_) AllReadyH.nil))
          · skip
            go_simp
            refine (qPost_any _).mono ?_
            rintro e U1 ⟨uq, vq, rfl, hq1, hq2, hq3, hq4, la⟩
            have L1 := L0.trans la
            refine hK.out _ _ L1 (fun hHeld1 => ?_)
            clear hK K
            try simp only [Act.put, List.getElem_toArray, List.getElem_cons_succ, List.getElem_cons_zero, List.setIfInBounds_toArray, List.set_cons_zero, List.set_cons_succ]
            clear la
            refine wpAnyH_ready (rs := [2, 7]) (by kernel_rfl) (by simp) (AllReadyH.cons rfl (fun K hK => ?_) (AllReadyH.cons rfl (fun K hK => ?_) AllReadyH.nil))
            · skip
              go_simp
              refine (HCN uq vq hq1 hq2 hq3 hq4 _).mono ?_
              rintro e U2 ⟨rfl, la⟩
              have L2 := L1.trans la
              refine hK.out _ _ L2 (fun hHeld2 => ?_)
              clear hK K
              try simp only [Act.put, List.getElem_toArray, List.getElem_cons_succ, List.getElem_cons_zero, List.setIfInBounds_toArray, List.set_cons_zero, List.set_cons_succ]
              clear la
              refine wpAnyH_take (i := 3) (v := .tuple #[.bool false, .agg #[.int .u64 (t2 : Int)], .int .i64 0]) rfl (by kernel_rfl) (by kernel_rfl) (by kernel_rfl) (fun _ _ _ h => h) (Or.inl ⟨by rfl, by intro w' hS; go_simp⟩) hHeld2 ?_
              simp only [Act.put, List.getElem_toArray, List.getElem_cons_succ, List.getElem_cons_zero, List.setIfInBounds_toArray, List.set_cons_zero, List.set_cons_succ]
              refine wpAnyH_take (i := 4) (v := .bool false) rfl (by kernel_rfl) (by kernel_rfl) (by kernel_rfl) (fun _ _ _ h => h) (Or.inl ⟨by rfl, by intro w' hS; go_simp⟩) hHeld2 ?_
              simp only [Act.put, List.getElem_toArray, List.getElem_cons_succ, List.getElem_cons_zero, List.setIfInBounds_toArray, List.set_cons_zero, List.set_cons_succ]
              refine wpAnyH_take (i := 5) (v := .agg #[.int .u64 (t2 : Int)]) rfl (by kernel_rfl) (by kernel_rfl) (by kernel_rfl) (fun _ _ _ h => h) (Or.inl ⟨by rfl, by intro w' hS; go_simp⟩) hHeld2 ?_
              simp only [Act.put, List.getElem_toArray, List.getElem_cons_succ, List.getElem_cons_zero, List.setIfInBounds_toArray, List.set_cons_zero, List.set_cons_succ]
              refine wpAnyH_take (i := 6) (v := .int .i64 0) rfl (by kernel_rfl) (by kernel_rfl) (by kernel_rfl) (fun _ _ _ h => h) (Or.inl ⟨by rfl, by intro w' hS; go_simp⟩) hHeld2 ?_
              simp only [Act.put, List.getElem_toArray, List.getElem_cons_succ, List.getElem_cons_zero, List.setIfInBounds_toArray, List.set_cons_zero, List.set_cons_succ]
              refine wpAnyH_ready (rs := [7]) (by kernel_rfl) (by simp) (AllReadyH.cons rfl (fun K hK => ?_) AllReadyH.nil)
              go_simp
              have b_g14 := Blk.new U2 24 #[.int .u64 0]
              have h_g14 : V.heap.size ≤ U2.heap.size := L2.size
              have la := Lat.alloc U2 (.cells #[.int .u64 0] 24)
              obtain ⟨U3, hV⟩ : ∃ V, U2.alloc (.cells #[.int .u64 0] 24) = V := ⟨_, rfl⟩
              rw [hV] at b_g14 la ⊢
              clear hV
              generalize U2.heap.size = g14 at *
              have L3 := L2.trans la
              refine hK.out _ _ L3 (fun hHeld3 => ?_)
              clear hK K
              try simp only [Act.put, List.getElem_toArray, List.getElem_cons_succ, List.getElem_cons_zero, List.setIfInBounds_toArray, List.set_cons_zero, List.set_cons_succ]
              clear la
              refine wpAnyH_take (i := 8) (v := .bool false) rfl (by kernel_rfl) (by kernel_rfl) (by kernel_rfl) (fun _ _ _ h => h) (Or.inl ⟨by rfl, by intro w' hS; go_simp⟩) hHeld3 ?_
              simp only [Act.put, List.getElem_toArray, List.getElem_cons_succ, List.getElem_cons_zero, List.setIfInBounds_toArray, List.set_cons_zero, List.set_cons_succ]
              refine wpAnyH_ready (rs := [9]) (by kernel_rfl) (by simp) (AllReadyH.cons rfl (fun K hK => ?_) AllReadyH.nil)
              rw [if_pos (by rfl)]
              refine wp_store_mid 24 (.tmp 14) (.tmp 55) rfl g14 0 #[.int .u64 (t2 : Int)] rfl rfl (b_g14.thereAll _ rfl) (by kernel_rfl) (by simp [Value.oneCell']) ?_
              have ks_g14 := b_g14.setCells #[.int .u64 (t2 : Int)] rfl
              have lpS : LatP (· = g14) U3 (U3.setCells g14 0 (#[.int .u64 (t2 : Int)] : Array Value).toList) := LatP.setCells _ _ _
              have U20L : Lat V (U3.setCells g14 0 (#[.int .u64 (t2 : Int)] : Array Value).toList) := Lat.setCells h_g14 _ _ _ L3
              
              obtain ⟨U20, hV9⟩ : ∃ V, U3.setCells g14 0 (#[.int .u64 (t2 : Int)] : Array Value).toList = V := ⟨_, rfl⟩
              rw [hV9] at ks_g14 U20L ⊢
              clear hV9 lpS
              refine hK.out _ _ U20L (fun hHeld4 => ?_)
              clear hK K
              try simp only [Act.put, List.getElem_toArray, List.getElem_cons_succ, List.getElem_cons_zero, List.setIfInBounds_toArray, List.set_cons_zero, List.set_cons_succ]
              refine wpAnyH_take (i := 10) (v := .int .i64 0) rfl (by kernel_rfl) (by kernel_rfl) (by kernel_rfl) (fun _ _ _ h => h) (Or.inl ⟨by rfl, by intro w' hS; go_simp⟩) hHeld4 ?_
              simp only [Act.put, List.getElem_toArray, List.getElem_cons_succ, List.getElem_cons_zero, List.setIfInBounds_toArray, List.set_cons_zero, List.set_cons_succ]
              refine wpAnyH_done (by kernel_rfl) ?_ _
              exact TAIL13 _ _ _ _ _ _ _ _ _ _ _ _ _ _ _ _ _ _ _ _ _ _ _ _ _ _ _ _ _ _ _ _ _ _ _ _ _ _ _ _ _ _ _ _ _ _ _ _ _ _ _ _ _ _ _ _ _ _ _ _ _ _ _ _ _ _ _ _ _ _ _ _ _ _ _ _ _ _ _ _ _ _ _ _ _ _ _ _ _ _ _ _ _ _ _ _ _ _ _ _ _ _ _ _ _ _ _ _ _ _ _ _ _ _ _ _ _ _ _ _ _ _ _ _ _ _ _ _ _ _ _ _ _ _ _ _ _ _ _ _ _ _ _ _ _ _ _ _ _ _ _ _ _ _ _ _ _ _ _ _ _ _ _ U20 (LV.trans U20L) (k6.later U20L) (k7.later U20L) (k8.later U20L) (k10.later U20L)
            · skip
              go_simp
              have b_g14 := Blk.new U1 24 #[.int .u64 0]
              have h_g14 : V.heap.size ≤ U1.heap.size := L1.size
              have la := Lat.alloc U1 (.cells #[.int .u64 0] 24)
              obtain ⟨U2, hV⟩ : ∃ V, U1.alloc (.cells #[.int .u64 0] 24) = V := ⟨_, rfl⟩
              rw [hV] at b_g14 la ⊢
              clear hV
              generalize U1.heap.size = g14 at *
              have L2 := L1.trans la
              refine hK.out _ _ L2 (fun hHeld2 => ?_)
              clear hK K
              try simp only [Act.put, List.getElem_toArray, List.getElem_cons_succ, List.getElem_cons_zero, List.setIfInBounds_toArray, List.set_cons_zero, List.set_cons_succ]
              clear la
              refine wpAnyH_ready (rs := [2]) (by kernel_rfl) (by simp) (AllReadyH.cons rfl (fun K hK => ?_) AllReadyH.nil)
              go_simp
              refine (HCN uq vq hq1 hq2 hq3 hq4 _).mono ?_
              rintro e U3 ⟨rfl, la⟩
              have b_g14 := b_g14.later la
              have L3 := L2.trans la
              refine hK.out _ _ L3 (fun hHeld3 => ?_)
              clear hK K
              try simp only [Act.put, List.getElem_toArray, List.getElem_cons_succ, List.getElem_cons_zero, List.setIfInBounds_toArray, List.set_cons_zero, List.set_cons_succ]
              clear la
              refine wpAnyH_take (i := 3) (v := .tuple #[.bool false, .agg #[.int .u64 (t2 : Int)], .int .i64 0]) rfl (by kernel_rfl) (by kernel_rfl) (by kernel_rfl) (fun _ _ _ h => h) (Or.inl ⟨by rfl, by intro w' hS; go_simp⟩) hHeld3 ?_
              simp only [Act.put, List.getElem_toArray, List.getElem_cons_succ, List.getElem_cons_zero, List.setIfInBounds_toArray, List.set_cons_zero, List.set_cons_succ]
              refine wpAnyH_take (i := 4) (v := .bool false) rfl (by kernel_rfl) (by kernel_rfl) (by kernel_rfl) (fun _ _ _ h => h) (Or.inl ⟨by rfl, by intro w' hS; go_simp⟩) hHeld3 ?_
              simp only [Act.put, List.getElem_toArray, List.getElem_cons_succ, List.getElem_cons_zero, List.setIfInBounds_toArray, List.set_cons_zero, List.set_cons_succ]
              refine wpAnyH_take (i := 5) (v := .agg #[.int .u64 (t2 : Int)]) rfl (by kernel_rfl) (by kernel_rfl) (by kernel_rfl) (fun _ _ _ h => h) (Or.inl ⟨by rfl, by intro w' hS; go_simp⟩) hHeld3 ?_
              simp only [Act.put, List.getElem_toArray, List.getElem_cons_succ, List.getElem_cons_zero, List.setIfInBounds_toArray, List.set_cons_zero, List.set_cons_succ]
              refine wpAnyH_take (i := 6) (v := .int .i64 0) rfl (by kernel_rfl) (by kernel_rfl) (by kernel_rfl) (fun _ _ _ h => h) (Or.inl ⟨by rfl, by intro w' hS; go_simp⟩) hHeld3 ?_
              simp only [Act.put, List.getElem_toArray, List.getElem_cons_succ, List.getElem_cons_zero, List.setIfInBounds_toArray, List.set_cons_zero, List.set_cons_succ]
              refine wpAnyH_take (i := 8) (v := .bool false) rfl (by kernel_rfl) (by kernel_rfl) (by kernel_rfl) (fun _ _ _ h => h) (Or.inl ⟨by rfl, by intro w' hS; go_simp⟩) hHeld3 ?_
              simp only [Act.put, List.getElem_toArray, List.getElem_cons_succ, List.getElem_cons_zero, List.setIfInBounds_toArray, List.set_cons_zero, List.set_cons_succ]
              refine wpAnyH_ready (rs := [9]) (by kernel_rfl) (by simp) (AllReadyH.cons rfl (fun K hK => ?_) AllReadyH.nil)
              rw [if_pos (by rfl)]
              refine wp_store_mid 24 (.tmp 14) (.tmp 55) rfl g14 0 #[.int .u64 (t2 : Int)] rfl rfl (b_g14.thereAll _ rfl) (by kernel_rfl) (by simp [Value.oneCell']) ?_
              have ks_g14 := b_g14.setCells #[.int .u64 (t2 : Int)] rfl
              have lpS : LatP (· = g14) U3 (U3.setCells g14 0 (#[.int .u64 (t2 : Int)] : Array Value).toList) := LatP.setCells _ _ _
              have U20L : Lat V (U3.setCells g14 0 (#[.int .u64 (t2 : Int)] : Array Value).toList) := Lat.setCells h_g14 _ _ _ L3
              
              obtain ⟨U20, hV9⟩ : ∃ V, U3.setCells g14 0 (#[.int .u64 (t2 : Int)] : Array Value).toList = V := ⟨_, rfl⟩
              rw [hV9] at ks_g14 U20L ⊢
              clear hV9 lpS
              refine hK.out _ _ U20L (fun hHeld4 => ?_)
              clear hK K
              try simp only [Act.put, List.getElem_toArray, List.getElem_cons_succ, List.getElem_cons_zero, List.setIfInBounds_toArray, List.set_cons_zero, List.set_cons_succ]
              refine wpAnyH_take (i := 10) (v := .int .i64 0) rfl (by kernel_rfl) (by kernel_rfl) (by kernel_rfl) (fun _ _ _ h => h) (Or.inl ⟨by rfl, by intro w' hS; go_simp⟩) hHeld4 ?_
              simp only [Act.put, List.getElem_toArray, List.getElem_cons_succ, List.getElem_cons_zero, List.setIfInBounds_toArray, List.set_cons_zero, List.set_cons_succ]
              refine wpAnyH_done (by kernel_rfl) ?_ _
              exact TAIL13 _ _ _ _ _ _ _ _ _ _ _ _ _ _ _ _ _ _ _ _ _ _ _ _ _ _ _ _ _ _ _ _ _ _ _ _ _ _ _ _ _ _ _ _ _ _ _ _ _ _ _ _ _ _ _ _ _ _ _ _ _ _ _ _ _ _ _ _ _ _ _ _ _ _ _ _ _ _ _ _ _ _ _ _ _ _ _ _ _ _ _ _ _ _ _ _ _ _ _ _ _ _ _ _ _ _ _ _ _ _ _ _ _ _ _ _ _ _ _ _ _ _ _ _ _ _ _ _ _ _ _ _ _ _ _ _ _ _ _ _ _ _ _ _ _ _ _ _ _ _ _ _ _ _ _ _ _ _ _ _ _ _ _ U20 (LV.trans U20L) (k6.later U20L) (k7.later U20L) (k8.later U20L) (k10.later U20L)
          · skip
            go_simp
            have b_g14 := Blk.new U0 24 #[.int .u64 0]
            have h_g14 : V.heap.size ≤ U0.heap.size := L0.size
            have la := Lat.alloc U0 (.cells #[.int .u64 0] 24)
            obtain ⟨U1, hV⟩ : ∃ V, U0.alloc (.cells #[.int .u64 0] 24) = V := ⟨_, rfl⟩
            rw [hV] at b_g14 la ⊢
            clear hV
            generalize U0.heap.size = g14 at *
            have L1 := L0.trans la
            refine hK.out _ _ L1 (fun hHeld1 => ?_)
            clear hK K
            try simp only [Act.put, List.getElem_toArray, List.getElem_cons_succ, List.getElem_cons_zero, List.setIfInBounds_toArray, List.set_cons_zero, List.set_cons_succ]
            clear la
            refine wpAnyH_ready (rs := [1]) (by kernel_rfl) (by simp) (AllReadyH.cons rfl (fun K hK => ?_) AllReadyH.nil)
            go_simp
            refine (qPost_any _).mono ?_
            rintro e U2 ⟨uq, vq, rfl, hq1, hq2, hq3, hq4, la⟩
            have b_g14 := b_g14.later la
            have L2 := L1.trans la
            refine hK.out _ _ L2 (fun hHeld2 => ?_)
            clear hK K
            try simp only [Act.put, List.getElem_toArray, List.getElem_cons_succ, List.getElem_cons_zero, List.setIfInBounds_toArray, List.set_cons_zero, List.set_cons_succ]
            clear la
            refine wpAnyH_ready (rs := [2]) (by kernel_rfl) (by simp) (AllReadyH.cons rfl (fun K hK => ?_) AllReadyH.nil)
            go_simp
            refine (HCN uq vq hq1 hq2 hq3 hq4 _).mono ?_
            rintro e U3 ⟨rfl, la⟩
            have b_g14 := b_g14.later la
            have L3 := L2.trans la
            refine hK.out _ _ L3 (fun hHeld3 => ?_)
            clear hK K
            try simp only [Act.put, List.getElem_toArray, List.getElem_cons_succ, List.getElem_cons_zero, List.setIfInBounds_toArray, List.set_cons_zero, List.set_cons_succ]
            clear la
            refine wpAnyH_take (i := 3) (v := .tuple #[.bool false, .agg #[.int .u64 (t2 : Int)], .int .i64 0]) rfl (by kernel_rfl) (by kernel_rfl) (by kernel_rfl) (fun _ _ _ h => h) (Or.inl ⟨by rfl, by intro w' hS; go_simp⟩) hHeld3 ?_
            simp only [Act.put, List.getElem_toArray, List.getElem_cons_succ, List.getElem_cons_zero, List.setIfInBounds_toArray, List.set_cons_zero, List.set_cons_succ]
            refine wpAnyH_take (i := 4) (v := .bool false) rfl (by kernel_rfl) (by kernel_rfl) (by kernel_rfl) (fun _ _ _ h => h) (Or.inl ⟨by rfl, by intro w' hS; go_simp⟩) hHeld3 ?_
            simp only [Act.put, List.getElem_toArray, List.getElem_cons_succ, List.getElem_cons_zero, List.setIfInBounds_toArray, List.set_cons_zero, List.set_cons_succ]
            refine wpAnyH_take (i := 5) (v := .agg #[.int .u64 (t2 : Int)]) rfl (by kernel_rfl) (by kernel_rfl) (by kernel_rfl) (fun _ _ _ h => h) (Or.inl ⟨by rfl, by intro w' hS; go_simp⟩) hHeld3 ?_
            simp only [Act.put, List.getElem_toArray, List.getElem_cons_succ, List.getElem_cons_zero, List.setIfInBounds_toArray, List.set_cons_zero, List.set_cons_succ]
            refine wpAnyH_take (i := 6) (v := .int .i64 0) rfl (by kernel_rfl) (by kernel_rfl) (by kernel_rfl) (fun _ _ _ h => h) (Or.inl ⟨by rfl, by intro w' hS; go_simp⟩) hHeld3 ?_
            simp only [Act.put, List.getElem_toArray, List.getElem_cons_succ, List.getElem_cons_zero, List.setIfInBounds_toArray, List.set_cons_zero, List.set_cons_succ]
            refine wpAnyH_take (i := 8) (v := .bool false) rfl (by kernel_rfl) (by kernel_rfl) (by kernel_rfl) (fun _ _ _ h => h) (Or.inl ⟨by rfl, by intro w' hS; go_simp⟩) hHeld3 ?_
            simp only [Act.put, List.getElem_toArray, List.getElem_cons_succ, List.getElem_cons_zero, List.setIfInBounds_toArray, List.set_cons_zero, List.set_cons_succ]
            refine wpAnyH_ready (rs := [9]) (by kernel_rfl) (by simp) (AllReadyH.cons rfl (fun K hK => ?_) AllReadyH.nil)
            rw [if_pos (by rfl)]
            refine wp_store_mid 24 (.tmp 14) (.tmp 55) rfl g14 0 #[.int .u64 (t2 : Int)] rfl rfl (b_g14.thereAll _ rfl) (by kernel_rfl) (by simp [Value.oneCell']) ?_
            have ks_g14 := b_g14.setCells #[.int .u64 (t2 : Int)] rfl
            have lpS : LatP (· = g14) U3 (U3.setCells g14 0 (#[.int .u64 (t2 : Int)] : Array Value).toList) := LatP.setCells _ _ _
            have U20L : Lat V (U3.setCells g14 0 (#[.int .u64 (t2 : Int)] : Array Value).toList) := Lat.setCells h_g14 _ _ _ L3
            
            obtain ⟨U20, hV9⟩ : ∃ V, U3.setCells g14 0 (#[.int .u64 (t2 : Int)] : Array Value).toList = V := ⟨_, rfl⟩
            rw [hV9] at ks_g14 U20L ⊢
            clear hV9 lpS
            refine hK.out _ _ U20L (fun hHeld4 => ?_)
            clear hK K
            try simp only [Act.put, List.getElem_toArray, List.getElem_cons_succ, List.getElem_cons_zero, List.setIfInBounds_toArray, List.set_cons_zero, List.set_cons_succ]
            refine wpAnyH_take (i := 10) (v := .int .i64 0) rfl (by kernel_rfl) (by kernel_rfl) (by kernel_rfl) (fun _ _ _ h => h) (Or.inl ⟨by rfl, by intro w' hS; go_simp⟩) hHeld4 ?_
            simp only [Act.put, List.getElem_toArray, List.getElem_cons_succ, List.getElem_cons_zero, List.setIfInBounds_toArray, List.set_cons_zero, List.set_cons_succ]
            refine wpAnyH_done (by kernel_rfl) ?_ _
            exact TAIL13 _ _ _ _ _ _ _ _ _ _ _ _ _ _ _ _ _ _ _ _ _ _ _ _ _ _ _ _ _ _ _ _ _ _ _ _ _ _ _ _ _ _ _ _ _ _ _ _ _ _ _ _ _ _ _ _ _ _ _ _ _ _ _ _ _ _ _ _ _ _ _ _ _ _ _ _ _ _ _ _ _ _ _ _ _ _ _ _ _ _ _ _ _ _ _ _ _ _ _ _ _ _ _ _ _ _ _ _ _ _ _ _ _ _ _ _ _ _ _ _ _ _ _ _ _ _ _ _ _ _ _ _ _ _ _ _ _ _ _ _ _ _ _ _ _ _ _ _ _ _ _ _ _ _ _ _ _ _ _ _ _ _ _ U20 (LV.trans U20L) (k6.later U20L) (k7.later U20L) (k8.later U20L) (k10.later U20L)
        clear hK12 HS1 HS4
        as_aux_lemma =>
        have L0 := Lat.drew V
        have R6 : ∀ w', Lat V w' → w'.cell? ⟨g6, 0, none⟩ = some (.int .u64 0) := fun w' h => (k6.later h).cell 0
        refine wp_region_held_drew (S := fun w' => Lat V w') (by kernel_rfl) L0 (fun hHeld => ?_)
        generalize V.drew = U0 at L0 hHeld ⊢
        refine wpAnyH_take (i := 0) (v := .agg #[.int .u64 0]) rfl (by kernel_rfl) (by kernel_rfl) (by kernel_rfl) (fun _ _ _ h => h) (Or.inl ⟨by rfl, by intro w' hS; have hc := R6 w' hS; go_simp⟩) hHeld ?_
        simp only [Act.put, List.getElem_toArray, List.getElem_cons_succ, List.getElem_cons_zero, List.setIfInBounds_toArray, List.set_cons_zero, List.set_cons_succ]
        refine wpAnyH_ready (rs := [1, 7, 8]) (by kernel_rfl) (by simp) (AllReadyH.cons rfl (fun K hK => ?_) (AllReadyH.cons rfl (fun K hK => ?_) (AllReadyH.cons rfl (fun K hK => ?_) AllReadyH.nil)))
        · skip
          go_simp
          refine (HO16 _).mono ?_
          rintro e U1 ⟨rfl, la⟩
          have L1 := L0.trans la
          refine hK.out _ _ L1 (fun hHeld1 => ?_)
          clear hK K
          try simp only [Act.put, List.getElem_toArray, List.getElem_cons_succ, List.getElem_cons_zero, List.setIfInBounds_toArray, List.set_cons_zero, List.set_cons_succ]
          clear la
          refine wpAnyH_ready (rs := [2, 7, 8]) (by kernel_rfl) (by simp) (AllReadyH.cons rfl (fun K hK => ?_) (AllReadyH.cons rfl (fun K hK => ?_) (AllReadyH.cons rfl (fun K hK => ?_) AllReadyH.nil)))
          · skip
            go_simp
            refine (HW16 _).mono ?_
            rintro e U2 ⟨rfl, la⟩
            have L2 := L1.trans la
            refine hK.out _ _ L2 (fun hHeld2 => ?_)
            clear hK K
            try simp only [Act.put, List.getElem_toArray, List.getElem_cons_succ, List.getElem_cons_zero, List.setIfInBounds_toArray, List.set_cons_zero, List.set_cons_succ]
            clear la
            refine wpAnyH_take (i := 3) (v := .tuple #[.agg #[.int .u64 o15.a0, .int .u64 o15.a1, .int .u64 o15.a2, .int .u64 o15.a3, .int .u64 o15.a4, .int .u64 o15.a5, .int .u64 o15.a6, .int .u64 o15.a7], .agg #[.int .u64 (t16 : Int)], .int .i64 0]) rfl (by kernel_rfl) (by kernel_rfl) (by kernel_rfl) (fun _ _ _ h => h) (Or.inl ⟨by rfl, by intro w' hS; go_simp⟩) hHeld2 ?_
            simp only [Act.put, List.getElem_toArray, List.getElem_cons_succ, List.getElem_cons_zero, List.setIfInBounds_toArray, List.set_cons_zero, List.set_cons_succ]
            refine wpAnyH_take (i := 4) (v := .agg #[.int .u64 o15.a0, .int .u64 o15.a1, .int .u64 o15.a2, .int .u64 o15.a3, .int .u64 o15.a4, .int .u64 o15.a5, .int .u64 o15.a6, .int .u64 o15.a7]) rfl (by kernel_rfl) (by kernel_rfl) (by kernel_rfl) (fun _ _ _ h => h) (Or.inl ⟨by rfl, by intro w' hS; go_simp⟩) hHeld2 ?_
            simp only [Act.put, List.getElem_toArray, List.getElem_cons_succ, List.getElem_cons_zero, List.setIfInBounds_toArray, List.set_cons_zero, List.set_cons_succ]
            refine wpAnyH_take (i := 5) (v := .agg #[.int .u64 (t16 : Int)]) rfl (by kernel_rfl) (by kernel_rfl) (by kernel_rfl) (fun _ _ _ h => h) (Or.inl ⟨by rfl, by intro w' hS; go_simp⟩) hHeld2 ?_
            simp only [Act.put, List.getElem_toArray, List.getElem_cons_succ, List.getElem_cons_zero, List.setIfInBounds_toArray, List.set_cons_zero, List.set_cons_succ]
            refine wpAnyH_take (i := 6) (v := .int .i64 0) rfl (by kernel_rfl) (by kernel_rfl) (by kernel_rfl) (fun _ _ _ h => h) (Or.inl ⟨by rfl, by intro w' hS; go_simp⟩) hHeld2 ?_
            simp only [Act.put, List.getElem_toArray, List.getElem_cons_succ, List.getElem_cons_zero, List.setIfInBounds_toArray, List.set_cons_zero, List.set_cons_succ]
            refine wpAnyH_ready (rs := [7, 8]) (by kernel_rfl) (by simp) (AllReadyH.cons rfl (fun K hK => ?_) (AllReadyH.cons rfl (fun K hK => ?_) AllReadyH.nil))
            · skip
              go_simp
              have b_g10 := Blk.new U2 26 #[.int .u64 0, .int .u64 0, .int .u64 0, .int .u64 0, .int .u64 0, .int .u64 0, .int .u64 0, .int .u64 0]
              have h_g10 : V.heap.size ≤ U2.heap.size := L2.size
              have la := Lat.alloc U2 (.cells #[.int .u64 0, .int .u64 0, .int .u64 0, .int .u64 0, .int .u64 0, .int .u64 0, .int .u64 0, .int .u64 0] 26)
              obtain ⟨U3, hV⟩ : ∃ V, U2.alloc (.cells #[.int .u64 0, .int .u64 0, .int .u64 0, .int .u64 0, .int .u64 0, .int .u64 0, .int .u64 0, .int .u64 0] 26) = V := ⟨_, rfl⟩
              rw [hV] at b_g10 la ⊢
              clear hV
              generalize U2.heap.size = g10 at *
              have L3 := L2.trans la
              refine hK.out _ _ L3 (fun hHeld3 => ?_)
              clear hK K
              try simp only [Act.put, List.getElem_toArray, List.getElem_cons_succ, List.getElem_cons_zero, List.setIfInBounds_toArray, List.set_cons_zero, List.set_cons_succ]
              clear la
              refine wpAnyH_ready (rs := [8]) (by kernel_rfl) (by simp) (AllReadyH.cons rfl (fun K hK => ?_) AllReadyH.nil)
              go_simp
              have b_g11 := Blk.new U3 24 #[.int .u64 0]
              have h_g11 : V.heap.size ≤ U3.heap.size := L3.size
              have la := Lat.alloc U3 (.cells #[.int .u64 0] 24)
              obtain ⟨U4, hV⟩ : ∃ V, U3.alloc (.cells #[.int .u64 0] 24) = V := ⟨_, rfl⟩
              rw [hV] at b_g11 la ⊢
              clear hV
              have hne : g10 ≠ U3.heap.size := by have := b_g10.lt; omega
              generalize U3.heap.size = g11 at *
              have b_g10 := b_g10.later la
              have L4 := L3.trans la
              refine hK.out _ _ L4 (fun hHeld4 => ?_)
              clear hK K
              try simp only [Act.put, List.getElem_toArray, List.getElem_cons_succ, List.getElem_cons_zero, List.setIfInBounds_toArray, List.set_cons_zero, List.set_cons_succ]
              clear la
              refine wpAnyH_ready (rs := [9]) (by kernel_rfl) (by simp) (AllReadyH.cons rfl (fun K hK => ?_) AllReadyH.nil)
              rw [if_pos (by rfl)]
              refine wp_store_mid 26 (.tmp 10) (.tmp 47) rfl g10 0 #[.int .u64 o15.a0, .int .u64 o15.a1, .int .u64 o15.a2, .int .u64 o15.a3, .int .u64 o15.a4, .int .u64 o15.a5, .int .u64 o15.a6, .int .u64 o15.a7] rfl rfl (b_g10.thereAll _ rfl) (by kernel_rfl) (by simp [Value.oneCell']) ?_
              have ks_g10 := b_g10.setCells #[.int .u64 o15.a0, .int .u64 o15.a1, .int .u64 o15.a2, .int .u64 o15.a3, .int .u64 o15.a4, .int .u64 o15.a5, .int .u64 o15.a6, .int .u64 o15.a7] rfl
              have lpS : LatP (· = g10) U4 (U4.setCells g10 0 (#[.int .u64 o15.a0, .int .u64 o15.a1, .int .u64 o15.a2, .int .u64 o15.a3, .int .u64 o15.a4, .int .u64 o15.a5, .int .u64 o15.a6, .int .u64 o15.a7] : Array Value).toList) := LatP.setCells _ _ _
              have U20L : Lat V (U4.setCells g10 0 (#[.int .u64 o15.a0, .int .u64 o15.a1, .int .u64 o15.a2, .int .u64 o15.a3, .int .u64 o15.a4, .int .u64 o15.a5, .int .u64 o15.a6, .int .u64 o15.a7] : Array Value).toList) := Lat.setCells h_g10 _ _ _ L4
              have ks_g11 := b_g11.keepP lpS (by omega)
              obtain ⟨U20, hV9⟩ : ∃ V, U4.setCells g10 0 (#[.int .u64 o15.a0, .int .u64 o15.a1, .int .u64 o15.a2, .int .u64 o15.a3, .int .u64 o15.a4, .int .u64 o15.a5, .int .u64 o15.a6, .int .u64 o15.a7] : Array Value).toList = V := ⟨_, rfl⟩
              rw [hV9] at ks_g10 ks_g11 U20L ⊢
              clear hV9 lpS
              refine hK.out _ _ U20L (fun hHeld5 => ?_)
              clear hK K
              try simp only [Act.put, List.getElem_toArray, List.getElem_cons_succ, List.getElem_cons_zero, List.setIfInBounds_toArray, List.set_cons_zero, List.set_cons_succ]
              refine wpAnyH_ready (rs := [10]) (by kernel_rfl) (by simp) (AllReadyH.cons rfl (fun K hK => ?_) AllReadyH.nil)
              rw [if_pos (by rfl)]
              refine wp_store_mid 24 (.tmp 11) (.tmp 48) rfl g11 0 #[.int .u64 (t16 : Int)] rfl rfl (ks_g11.thereAll _ rfl) (by kernel_rfl) (by simp [Value.oneCell']) ?_
              have ks_g11 := ks_g11.setCells #[.int .u64 (t16 : Int)] rfl
              have lpS : LatP (· = g11) U20 (U20.setCells g11 0 (#[.int .u64 (t16 : Int)] : Array Value).toList) := LatP.setCells _ _ _
              have U21L : Lat V (U20.setCells g11 0 (#[.int .u64 (t16 : Int)] : Array Value).toList) := Lat.setCells h_g11 _ _ _ U20L
              have ks_g10 := ks_g10.keepP lpS (by omega)
              obtain ⟨U21, hV9⟩ : ∃ V, U20.setCells g11 0 (#[.int .u64 (t16 : Int)] : Array Value).toList = V := ⟨_, rfl⟩
              rw [hV9] at ks_g10 ks_g11 U21L ⊢
              clear hV9 lpS
              refine hK.out _ _ U21L (fun hHeld6 => ?_)
              clear hK K
              try simp only [Act.put, List.getElem_toArray, List.getElem_cons_succ, List.getElem_cons_zero, List.setIfInBounds_toArray, List.set_cons_zero, List.set_cons_succ]
              refine wpAnyH_take (i := 11) (v := .int .i64 0) rfl (by kernel_rfl) (by kernel_rfl) (by kernel_rfl) (fun _ _ _ h => h) (Or.inl ⟨by rfl, by intro w' hS; go_simp⟩) hHeld6 ?_
              simp only [Act.put, List.getElem_toArray, List.getElem_cons_succ, List.getElem_cons_zero, List.setIfInBounds_toArray, List.set_cons_zero, List.set_cons_succ]
              refine wpAnyH_done (by kernel_rfl) ?_ _
              exact TAIL12 _ _ _ _ _ _ _ _ _ _ _ _ _ _ _ _ _ _ _ _ _ _ _ _ _ _ _ _ _ _ _ _ _ _ _ _ _ _ _ _ _ _ _ _ _ _ _ _ _ _ _ _ _ _ _ _ _ _ _ _ _ _ _ _ _ _ _ _ _ _ _ _ _ _ _ _ _ _ _ _ _ _ _ _ _ _ _ _ _ _ _ _ _ _ _ _ _ _ _ _ _ _ _ _ _ _ _ _ _ _ _ _ _ _ _ _ _ _ _ _ _ _ _ _ _ _ _ _ _ _ _ _ _ _ _ _ _ _ _ _ _ _ _ _ _ _ _ _ _ _ _ _ _ _ _ _ _ _ _ _ _ _ _ _ _ g10 g11 U21 (LV.trans U21L) (k6.later U21L) (k7.later U21L) (k8.later U21L) ks_g10
            · skip
              go_simp
              have b_g11 := Blk.new U2 24 #[.int .u64 0]
              have h_g11 : V.heap.size ≤ U2.heap.size := L2.size
              have la := Lat.alloc U2 (.cells #[.int .u64 0] 24)
              obtain ⟨U3, hV⟩ : ∃ V, U2.alloc (.cells #[.int .u64 0] 24) = V := ⟨_, rfl⟩
              rw [hV] at b_g11 la ⊢
              clear hV
              generalize U2.heap.size = g11 at *
              have L3 := L2.trans la
              refine hK.out _ _ L3 (fun hHeld3 => ?_)
              clear hK K
              try simp only [Act.put, List.getElem_toArray, List.getElem_cons_succ, List.getElem_cons_zero, List.setIfInBounds_toArray, List.set_cons_zero, List.set_cons_succ]
              clear la
              refine wpAnyH_ready (rs := [7]) (by kernel_rfl) (by simp) (AllReadyH.cons rfl (fun K hK => ?_) AllReadyH.nil)
              go_simp
              have b_g10 := Blk.new U3 26 #[.int .u64 0, .int .u64 0, .int .u64 0, .int .u64 0, .int .u64 0, .int .u64 0, .int .u64 0, .int .u64 0]
              have h_g10 : V.heap.size ≤ U3.heap.size := L3.size
              have la := Lat.alloc U3 (.cells #[.int .u64 0, .int .u64 0, .int .u64 0, .int .u64 0, .int .u64 0, .int .u64 0, .int .u64 0, .int .u64 0] 26)
              obtain ⟨U4, hV⟩ : ∃ V, U3.alloc (.cells #[.int .u64 0, .int .u64 0, .int .u64 0, .int .u64 0, .int .u64 0, .int .u64 0, .int .u64 0, .int .u64 0] 26) = V := ⟨_, rfl⟩
              rw [hV] at b_g10 la ⊢
              clear hV
              have hne : g11 ≠ U3.heap.size := by have := b_g11.lt; omega
              generalize U3.heap.size = g10 at *
              have b_g11 := b_g11.later la
              have L4 := L3.trans la
              refine hK.out _ _ L4 (fun hHeld4 => ?_)
              clear hK K
              try simp only [Act.put, List.getElem_toArray, List.getElem_cons_succ, List.getElem_cons_zero, List.setIfInBounds_toArray, List.set_cons_zero, List.set_cons_succ]
              clear la
              refine wpAnyH_ready (rs := [9]) (by kernel_rfl) (by simp) (AllReadyH.cons rfl (fun K hK => ?_) AllReadyH.nil)
              rw [if_pos (by rfl)]
              refine wp_store_mid 26 (.tmp 10) (.tmp 47) rfl g10 0 #[.int .u64 o15.a0, .int .u64 o15.a1, .int .u64 o15.a2, .int .u64 o15.a3, .int .u64 o15.a4, .int .u64 o15.a5, .int .u64 o15.a6, .int .u64 o15.a7] rfl rfl (b_g10.thereAll _ rfl) (by kernel_rfl) (by simp [Value.oneCell']) ?_
              have ks_g10 := b_g10.setCells #[.int .u64 o15.a0, .int .u64 o15.a1, .int .u64 o15.a2, .int .u64 o15.a3, .int .u64 o15.a4, .int .u64 o15.a5, .int .u64 o15.a6, .int .u64 o15.a7] rfl
              have lpS : LatP (· = g10) U4 (U4.setCells g10 0 (#[.int .u64 o15.a0, .int .u64 o15.a1, .int .u64 o15.a2, .int .u64 o15.a3, .int .u64 o15.a4, .int .u64 o15.a5, .int .u64 o15.a6, .int .u64 o15.a7] : Array Value).toList) := LatP.setCells _ _ _
              have U20L : Lat V (U4.setCells g10 0 (#[.int .u64 o15.a0, .int .u64 o15.a1, .int .u64 o15.a2, .int .u64 o15.a3, .int .u64 o15.a4, .int .u64 o15.a5, .int .u64 o15.a6, .int .u64 o15.a7] : Array Value).toList) := Lat.setCells h_g10 _ _ _ L4
              have ks_g11 := b_g11.keepP lpS (by omega)
              obtain ⟨U20, hV9⟩ : ∃ V, U4.setCells g10 0 (#[.int .u64 o15.a0, .int .u64 o15.a1, .int .u64 o15.a2, .int .u64 o15.a3, .int .u64 o15.a4, .int .u64 o15.a5, .int .u64 o15.a6, .int .u64 o15.a7] : Array Value).toList = V := ⟨_, rfl⟩
              rw [hV9] at ks_g11 ks_g10 U20L ⊢
              clear hV9 lpS
              refine hK.out _ _ U20L (fun hHeld5 => ?_)
              clear hK K
              try simp only [Act.put, List.getElem_toArray, List.getElem_cons_succ, List.getElem_cons_zero, List.setIfInBounds_toArray, List.set_cons_zero, List.set_cons_succ]
              refine wpAnyH_ready (rs := [10]) (by kernel_rfl) (by simp) (AllReadyH.cons rfl (fun K hK => ?_) AllReadyH.nil)
              rw [if_pos (by rfl)]
              refine wp_store_mid 24 (.tmp 11) (.tmp 48) rfl g11 0 #[.int .u64 (t16 : Int)] rfl rfl (ks_g11.thereAll _ rfl) (by kernel_rfl) (by simp [Value.oneCell']) ?_
              have ks_g11 := ks_g11.setCells #[.int .u64 (t16 : Int)] rfl
              have lpS : LatP (· = g11) U20 (U20.setCells g11 0 (#[.int .u64 (t16 : Int)] : Array Value).toList) := LatP.setCells _ _ _
              have U21L : Lat V (U20.setCells g11 0 (#[.int .u64 (t16 : Int)] : Array Value).toList) := Lat.setCells h_g11 _ _ _ U20L
              have ks_g10 := ks_g10.keepP lpS (by omega)
              obtain ⟨U21, hV9⟩ : ∃ V, U20.setCells g11 0 (#[.int .u64 (t16 : Int)] : Array Value).toList = V := ⟨_, rfl⟩
              rw [hV9] at ks_g11 ks_g10 U21L ⊢
              clear hV9 lpS
              refine hK.out _ _ U21L (fun hHeld6 => ?_)
              clear hK K
              try simp only [Act.put, List.getElem_toArray, List.getElem_cons_succ, List.getElem_cons_zero, List.setIfInBounds_toArray, List.set_cons_zero, List.set_cons_succ]
              refine wpAnyH_take (i := 11) (v := .int .i64 0) rfl (by kernel_rfl) (by kernel_rfl) (by kernel_rfl) (fun _ _ _ h => h) (Or.inl ⟨by rfl, by intro w' hS; go_simp⟩) hHeld6 ?_
              simp only [Act.put, List.getElem_toArray, List.getElem_cons_succ, List.getElem_cons_zero, List.setIfInBounds_toArray, List.set_cons_zero, List.set_cons_succ]
              refine wpAnyH_done (by kernel_rfl) ?_ _
              exact TAIL12 _ _ _ _ _ _ _ _ _ _ _ _ _ _ _ _ _ _ _ _ _ _ _ _ _ _ _ _ _ _ _ _ _ _ _ _ _ _ _ _ _ _ _ _ _ _ _ _ _ _ _ _ _ _ _ _ _ _ _ _ _ _ _ _ _ _ _ _ _ _ _ _ _ _ _ _ _ _ _ _ _ _ _ _ _ _ _ _ _ _ _ _ _ _ _ _ _ _ _ _ _ _ _ _ _ _ _ _ _ _ _ _ _ _ _ _ _ _ _ _ _ _ _ _ _ _ _ _ _ _ _ _ _ _ _ _ _ _ _ _ _ _ _ _ _ _ _ _ _ _ _ _ _ _ _ _ _ _ _ _ _ _ _ _ _ g10 g11 U21 (LV.trans U21L) (k6.later U21L) (k7.later U21L) (k8.later U21L) ks_g10
          · skip
            go_simp
            have b_g10 := Blk.new U1 26 #[.int .u64 0, .int .u64 0, .int .u64 0, .int .u64 0, .int .u64 0, .int .u64 0, .int .u64 0, .int .u64 0]
            have h_g10 : V.heap.size ≤ U1.heap.size := L1.size
            have la := Lat.alloc U1 (.cells #[.int .u64 0, .int .u64 0, .int .u64 0, .int .u64 0, .int .u64 0, .int .u64 0, .int .u64 0, .int .u64 0] 26)
            obtain ⟨U2, hV⟩ : ∃ V, U1.alloc (.cells #[.int .u64 0, .int .u64 0, .int .u64 0, .int .u64 0, .int .u64 0, .int .u64 0, .int .u64 0, .int .u64 0] 26) = V := ⟨_, rfl⟩
            rw [hV] at b_g10 la ⊢
            clear hV
            generalize U1.heap.size = g10 at *
            have L2 := L1.trans la
            refine hK.out _ _ L2 (fun hHeld2 => ?_)
            clear hK K
            try simp only [Act.put, List.getElem_toArray, List.getElem_cons_succ, List.getElem_cons_zero, List.setIfInBounds_toArray, List.set_cons_zero, List.set_cons_succ]
            clear la
            refine wpAnyH_ready (rs := [2, 8]) (by kernel_rfl) (by simp) (AllReadyH.cons rfl (fun K hK => ?_) (AllReadyH.cons rfl (fun K hK => ?_) AllReadyH.nil))
            · skip
              go_simp
              refine (HW16 _).mono ?_
              rintro e U3 ⟨rfl, la⟩
              have b_g10 := b_g10.later la
              have L3 := L2.trans la
              refine hK.out _ _ L3 (fun hHeld3 => ?_)
              clear hK K
              try simp only [Act.put, List.getElem_toArray, List.getElem_cons_succ, List.getElem_cons_zero, List.setIfInBounds_toArray, List.set_cons_zero, List.set_cons_succ]
              clear la
              refine wpAnyH_take (i := 3) (v := .tuple #[.agg #[.int .u64 o15.a0, .int .u64 o15.a1, .int .u64 o15.a2, .int .u64 o15.a3, .int .u64 o15.a4, .int .u64 o15.a5, .int .u64 o15.a6, .int .u64 o15.a7], .agg #[.int .u64 (t16 : Int)], .int .i64 0]) rfl (by kernel_rfl) (by kernel_rfl) (by kernel_rfl) (fun _ _ _ h => h) (Or.inl ⟨by rfl, by intro w' hS; go_simp⟩) hHeld3 ?_
              simp only [Act.put, List.getElem_toArray, List.getElem_cons_succ, List.getElem_cons_zero, List.setIfInBounds_toArray, List.set_cons_zero, List.set_cons_succ]
              refine wpAnyH_take (i := 4) (v := .agg #[.int .u64 o15.a0, .int .u64 o15.a1, .int .u64 o15.a2, .int .u64 o15.a3, .int .u64 o15.a4, .int .u64 o15.a5, .int .u64 o15.a6, .int .u64 o15.a7]) rfl (by kernel_rfl) (by kernel_rfl) (by kernel_rfl) (fun _ _ _ h => h) (Or.inl ⟨by rfl, by intro w' hS; go_simp⟩) hHeld3 ?_
              simp only [Act.put, List.getElem_toArray, List.getElem_cons_succ, List.getElem_cons_zero, List.setIfInBounds_toArray, List.set_cons_zero, List.set_cons_succ]
              refine wpAnyH_take (i := 5) (v := .agg #[.int .u64 (t16 : Int)]) rfl (by kernel_rfl) (by kernel_rfl) (by kernel_rfl) (fun _ _ _ h => h) (Or.inl ⟨by rfl, by intro w' hS; go_simp⟩) hHeld3 ?_
              simp only [Act.put, List.getElem_toArray, List.getElem_cons_succ, List.getElem_cons_zero, List.setIfInBounds_toArray, List.set_cons_zero, List.set_cons_succ]
              refine wpAnyH_take (i := 6) (v := .int .i64 0) rfl (by kernel_rfl) (by kernel_rfl) (by kernel_rfl) (fun _ _ _ h => h) (Or.inl ⟨by rfl, by intro w' hS; go_simp⟩) hHeld3 ?_
              simp only [Act.put, List.getElem_toArray, List.getElem_cons_succ, List.getElem_cons_zero, List.setIfInBounds_toArray, List.set_cons_zero, List.set_cons_succ]
              refine wpAnyH_ready (rs := [8]) (by kernel_rfl) (by simp) (AllReadyH.cons rfl (fun K hK => ?_) AllReadyH.nil)
              go_simp
              have b_g11 := Blk.new U3 24 #[.int .u64 0]
              have h_g11 : V.heap.size ≤ U3.heap.size := L3.size
              have la := Lat.alloc U3 (.cells #[.int .u64 0] 24)
              obtain ⟨U4, hV⟩ : ∃ V, U3.alloc (.cells #[.int .u64 0] 24) = V := ⟨_, rfl⟩
              rw [hV] at b_g11 la ⊢
              clear hV
              have hne : g10 ≠ U3.heap.size := by have := b_g10.lt; omega
              generalize U3.heap.size = g11 at *
              have b_g10 := b_g10.later la
              have L4 := L3.trans la
              refine hK.out _ _ L4 (fun hHeld4 => ?_)
              clear hK K
              try simp only [Act.put, List.getElem_toArray, List.getElem_cons_succ, List.getElem_cons_zero, List.setIfInBounds_toArray, List.set_cons_zero, List.set_cons_succ]
              clear la
              refine wpAnyH_ready (rs := [9]) (by kernel_rfl) (by simp) (AllReadyH.cons rfl (fun K hK => ?_) AllReadyH.nil)
              rw [if_pos (by rfl)]
              refine wp_store_mid 26 (.tmp 10) (.tmp 47) rfl g10 0 #[.int .u64 o15.a0, .int .u64 o15.a1, .int .u64 o15.a2, .int .u64 o15.a3, .int .u64 o15.a4, .int .u64 o15.a5, .int .u64 o15.a6, .int .u64 o15.a7] rfl rfl (b_g10.thereAll _ rfl) (by kernel_rfl) (by simp [Value.oneCell']) ?_
              have ks_g10 := b_g10.setCells #[.int .u64 o15.a0, .int .u64 o15.a1, .int .u64 o15.a2, .int .u64 o15.a3, .int .u64 o15.a4, .int .u64 o15.a5, .int .u64 o15.a6, .int .u64 o15.a7] rfl
              have lpS : LatP (· = g10) U4 (U4.setCells g10 0 (#[.int .u64 o15.a0, .int .u64 o15.a1, .int .u64 o15.a2, .int .u64 o15.a3, .int .u64 o15.a4, .int .u64 o15.a5, .int .u64 o15.a6, .int .u64 o15.a7] : Array Value).toList) := LatP.setCells _ _ _
              have U20L : Lat V (U4.setCells g10 0 (#[.int .u64 o15.a0, .int .u64 o15.a1, .int .u64 o15.a2, .int .u64 o15.a3, .int .u64 o15.a4, .int .u64 o15.a5, .int .u64 o15.a6, .int .u64 o15.a7] : Array Value).toList) := Lat.setCells h_g10 _ _ _ L4
              have ks_g11 := b_g11.keepP lpS (by omega)
              obtain ⟨U20, hV9⟩ : ∃ V, U4.setCells g10 0 (#[.int .u64 o15.a0, .int .u64 o15.a1, .int .u64 o15.a2, .int .u64 o15.a3, .int .u64 o15.a4, .int .u64 o15.a5, .int .u64 o15.a6, .int .u64 o15.a7] : Array Value).toList = V := ⟨_, rfl⟩
              rw [hV9] at ks_g10 ks_g11 U20L ⊢
              clear hV9 lpS
              refine hK.out _ _ U20L (fun hHeld5 => ?_)
              clear hK K
              try simp only [Act.put, List.getElem_toArray, List.getElem_cons_succ, List.getElem_cons_zero, List.setIfInBounds_toArray, List.set_cons_zero, List.set_cons_succ]
              refine wpAnyH_ready (rs := [10]) (by kernel_rfl) (by simp) (AllReadyH.cons rfl (fun K hK => ?_) AllReadyH.nil)
              rw [if_pos (by rfl)]
              refine wp_store_mid 24 (.tmp 11) (.tmp 48) rfl g11 0 #[.int .u64 (t16 : Int)] rfl rfl (ks_g11.thereAll _ rfl) (by kernel_rfl) (by simp [Value.oneCell']) ?_
              have ks_g11 := ks_g11.setCells #[.int .u64 (t16 : Int)] rfl
              have lpS : LatP (· = g11) U20 (U20.setCells g11 0 (#[.int .u64 (t16 : Int)] : Array Value).toList) := LatP.setCells _ _ _
              have U21L : Lat V (U20.setCells g11 0 (#[.int .u64 (t16 : Int)] : Array Value).toList) := Lat.setCells h_g11 _ _ _ U20L
              have ks_g10 := ks_g10.keepP lpS (by omega)
              obtain ⟨U21, hV9⟩ : ∃ V, U20.setCells g11 0 (#[.int .u64 (t16 : Int)] : Array Value).toList = V := ⟨_, rfl⟩
              rw [hV9] at ks_g10 ks_g11 U21L ⊢
              clear hV9 lpS
              refine hK.out _ _ U21L (fun hHeld6 => ?_)
              clear hK K
              try simp only [Act.put, List.getElem_toArray, List.getElem_cons_succ, List.getElem_cons_zero, List.setIfInBounds_toArray, List.set_cons_zero, List.set_cons_succ]
              refine wpAnyH_take (i := 11) (v := .int .i64 0) rfl (by kernel_rfl) (by kernel_rfl) (by kernel_rfl) (fun _ _ _ h => h) (Or.inl ⟨by rfl, by intro w' hS; go_simp⟩) hHeld6 ?_
              simp only [Act.put, List.getElem_toArray, List.getElem_cons_succ, List.getElem_cons_zero, List.setIfInBounds_toArray, List.set_cons_zero, List.set_cons_succ]
              refine wpAnyH_done (by kernel_rfl) ?_ _
              exact TAIL12 _ _ _ _ _ _ _ _ _ _ _ _ _ _ _ _ _ _ _ _ _ _ _ _ _ _ _ _ _ _ _ _ _ _ _ _ _ _ _ _ _ _ _ _ _ _ _ _ _ _ _ _ _ _ _ _ _ _ _ _ _ _ _ _ _ _ _ _ _ _ _ _ _ _ _ _ _ _ _ _ _ _ _ _ _ _ _ _ _ _ _ _ _ _ _ _ _ _ _ _ _ _ _ _ _ _ _ _ _ _ _ _ _ _ _ _ _ _ _ _ _ _ _ _ _ _ _ _ _ _ _ _ _ _ _ _ _ _ _ _ _ _ _ _ _ _ _ _ _ _ _ _ _ _ _ _ _ _ _ _ _ _ _ _ _ g10 g11 U21 (LV.trans U21L) (k6.later U21L) (k7.later U21L) (k8.later U21L) ks_g10
            · skip
              go_simp
              have b_g11 := Blk.new U2 24 #[.int .u64 0]
              have h_g11 : V.heap.size ≤ U2.heap.size := L2.size
              have la := Lat.alloc U2 (.cells #[.int .u64 0] 24)
              obtain ⟨U3, hV⟩ : ∃ V, U2.alloc (.cells #[.int .u64 0] 24) = V := ⟨_, rfl⟩
              rw [hV] at b_g11 la ⊢
              clear hV
              have hne : g10 ≠ U2.heap.size := by have := b_g10.lt; omega
              generalize U2.heap.size = g11 at *
              have b_g10 := b_g10.later la
              have L3 := L2.trans la
              refine hK.out _ _ L3 (fun hHeld3 => ?_)
              clear hK K
              try simp only [Act.put, List.getElem_toArray, List.getElem_cons_succ, List.getElem_cons_zero, List.setIfInBounds_toArray, List.set_cons_zero, List.set_cons_succ]
              clear la
              refine wpAnyH_ready (rs := [2]) (by kernel_rfl) (by simp) (AllReadyH.cons rfl (fun K hK => ?_) AllReadyH.nil)
              go_simp
              refine (HW16 _).mono ?_
              rintro e U4 ⟨rfl, la⟩
              have b_g10 := b_g10.later la
              have b_g11 := b_g11.later la
              have L4 := L3.trans la
              refine hK.out _ _ L4 (fun hHeld4 => ?_)
              clear hK K
              try simp only [Act.put, List.getElem_toArray, List.getElem_cons_succ, List.getElem_cons_zero, List.setIfInBounds_toArray, List.set_cons_zero, List.set_cons_succ]
              clear la
              refine wpAnyH_take (i := 3) (v := .tuple #[.agg #[.int .u64 o15.a0, .int .u64 o15.a1, .int .u64 o15.a2, .int .u64 o15.a3, .int .u64 o15.a4, .int .u64 o15.a5, .int .u64 o15.a6, .int .u64 o15.a7], .agg #[.int .u64 (t16 : Int)], .int .i64 0]) rfl (by kernel_rfl) (by kernel_rfl) (by kernel_rfl) (fun _ _ _ h => h) (Or.inl ⟨by rfl, by intro w' hS; go_simp⟩) hHeld4 ?_
              simp only [Act.put, List.getElem_toArray, List.getElem_cons_succ, List.getElem_cons_zero, List.setIfInBounds_toArray, List.set_cons_zero, List.set_cons_succ]
              refine wpAnyH_take (i := 4) (v := .agg #[.int .u64 o15.a0, .int .u64 o15.a1, .int .u64 o15.a2, .int .u64 o15.a3, .int .u64 o15.a4, .int .u64 o15.a5, .int .u64 o15.a6, .int .u64 o15.a7]) rfl (by kernel_rfl) (by kernel_rfl) (by kernel_rfl) (fun _ _ _ h => h) (Or.inl ⟨by rfl, by intro w' hS; go_simp⟩) hHeld4 ?_
              simp only [Act.put, List.getElem_toArray, List.getElem_cons_succ, List.getElem_cons_zero, List.setIfInBounds_toArray, List.set_cons_zero, List.set_cons_succ]
              refine wpAnyH_take (i := 5) (v := .agg #[.int .u64 (t16 : Int)]) rfl (by kernel_rfl) (by kernel_rfl) (by kernel_rfl) (fun _ _ _ h => h) (Or.inl ⟨by rfl, by intro w' hS; go_simp⟩) hHeld4 ?_
              simp only [Act.put, List.getElem_toArray, List.getElem_cons_succ, List.getElem_cons_zero, List.setIfInBounds_toArray, List.set_cons_zero, List.set_cons_succ]
              refine wpAnyH_take (i := 6) (v := .int .i64 0) rfl (by kernel_rfl) (by kernel_rfl) (by kernel_rfl) (fun _ _ _ h => h) (Or.inl ⟨by rfl, by intro w' hS; go_simp⟩) hHeld4 ?_
              simp only [Act.put, List.getElem_toArray, List.getElem_cons_succ, List.getElem_cons_zero, List.setIfInBounds_toArray, List.set_cons_zero, List.set_cons_succ]
              refine wpAnyH_ready (rs := [9]) (by kernel_rfl) (by simp) (AllReadyH.cons rfl (fun K hK => ?_) AllReadyH.nil)
              rw [if_pos (by rfl)]
              refine wp_store_mid 26 (.tmp 10) (.tmp 47) rfl g10 0 #[.int .u64 o15.a0, .int .u64 o15.a1, .int .u64 o15.a2, .int .u64 o15.a3, .int .u64 o15.a4, .int .u64 o15.a5, .int .u64 o15.a6, .int .u64 o15.a7] rfl rfl (b_g10.thereAll _ rfl) (by kernel_rfl) (by simp [Value.oneCell']) ?_
              have ks_g10 := b_g10.setCells #[.int .u64 o15.a0, .int .u64 o15.a1, .int .u64 o15.a2, .int .u64 o15.a3, .int .u64 o15.a4, .int .u64 o15.a5, .int .u64 o15.a6, .int .u64 o15.a7] rfl
              have lpS : LatP (· = g10) U4 (U4.setCells g10 0 (#[.int .u64 o15.a0, .int .u64 o15.a1, .int .u64 o15.a2, .int .u64 o15.a3, .int .u64 o15.a4, .int .u64 o15.a5, .int .u64 o15.a6, .int .u64 o15.a7] : Array Value).toList) := LatP.setCells _ _ _
              have U20L : Lat V (U4.setCells g10 0 (#[.int .u64 o15.a0, .int .u64 o15.a1, .int .u64 o15.a2, .int .u64 o15.a3, .int .u64 o15.a4, .int .u64 o15.a5, .int .u64 o15.a6, .int .u64 o15.a7] : Array Value).toList) := Lat.setCells h_g10 _ _ _ L4
              have ks_g11 := b_g11.keepP lpS (by omega)
              obtain ⟨U20, hV9⟩ : ∃ V, U4.setCells g10 0 (#[.int .u64 o15.a0, .int .u64 o15.a1, .int .u64 o15.a2, .int .u64 o15.a3, .int .u64 o15.a4, .int .u64 o15.a5, .int .u64 o15.a6, .int .u64 o15.a7] : Array Value).toList = V := ⟨_, rfl⟩
              rw [hV9] at ks_g10 ks_g11 U20L ⊢
              clear hV9 lpS
              refine hK.out _ _ U20L (fun hHeld5 => ?_)
              clear hK K
              try simp only [Act.put, List.getElem_toArray, List.getElem_cons_succ, List.getElem_cons_zero, List.setIfInBounds_toArray, List.set_cons_zero, List.set_cons_succ]
              refine wpAnyH_ready (rs := [10]) (by kernel_rfl) (by simp) (AllReadyH.cons rfl (fun K hK => ?_) AllReadyH.nil)
              rw [if_pos (by rfl)]
              refine wp_store_mid 24 (.tmp 11) (.tmp 48) rfl g11 0 #[.int .u64 (t16 : Int)] rfl rfl (ks_g11.thereAll _ rfl) (by kernel_rfl) (by simp [Value.oneCell']) ?_
              have ks_g11 := ks_g11.setCells #[.int .u64 (t16 : Int)] rfl
              have lpS : LatP (· = g11) U20 (U20.setCells g11 0 (#[.int .u64 (t16 : Int)] : Array Value).toList) := LatP.setCells _ _ _
              have U21L : Lat V (U20.setCells g11 0 (#[.int .u64 (t16 : Int)] : Array Value).toList) := Lat.setCells h_g11 _ _ _ U20L
              have ks_g10 := ks_g10.keepP lpS (by omega)
              obtain ⟨U21, hV9⟩ : ∃ V, U20.setCells g11 0 (#[.int .u64 (t16 : Int)] : Array Value).toList = V := ⟨_, rfl⟩
              rw [hV9] at ks_g10 ks_g11 U21L ⊢
              clear hV9 lpS
              refine hK.out _ _ U21L (fun hHeld6 => ?_)
              clear hK K
              try simp only [Act.put, List.getElem_toArray, List.getElem_cons_succ, List.getElem_cons_zero, List.setIfInBounds_toArray, List.set_cons_zero, List.set_cons_succ]
              refine wpAnyH_take (i := 11) (v := .int .i64 0) rfl (by kernel_rfl) (by kernel_rfl) (by kernel_rfl) (fun _ _ _ h => h) (Or.inl ⟨by rfl, by intro w' hS; go_simp⟩) hHeld6 ?_
              simp only [Act.put, List.getElem_toArray, List.getElem_cons_succ, List.getElem_cons_zero, List.setIfInBounds_toArray, List.set_cons_zero, List.set_cons_succ]
              refine wpAnyH_done (by kernel_rfl) ?_ _
              exact TAIL12 _ _ _ _ _ _ _ _ _ _ _ _ _ _ _ _ _ _ _ _ _ _ _ _ _ _ _ _ _ _ _ _ _ _ _ _ _ _ _ _ _ _ _ _ _ _ _ _ _ _ _ _ _ _ _ _ _ _ _ _ _ _ _ _ _ _ _ _ _ _ _ _ _ _ _ _ _ _ _ _ _ _ _ _ _ _ _ _ _ _ _ _ _ _ _ _ _ _ _ _ _ _ _ _ _ _ _ _ _ _ _ _ _ _ _ _ _ _ _ _ _ _ _ _ _ _ _ _ _ _ _ _ _ _ _ _ _ _ _ _ _ _ _ _ _ _ _ _ _ _ _ _ _ _ _ _ _ _ _ _ _ _ _ _ _ g10 g11 U21 (LV.trans U21L) (k6.later U21L) (k7.later U21L) (k8.later U21L) ks_g10
          · skip
            go_simp
            have b_g11 := Blk.new U1 24 #[.int .u64 0]
            have h_g11 : V.heap.size ≤ U1.heap.size := L1.size
            have la := Lat.alloc U1 (.cells #[.int .u64 0] 24)
            obtain ⟨U2, hV⟩ : ∃ V, U1.alloc (.cells #[.int .u64 0] 24) = V := ⟨_, rfl⟩
            rw [hV] at b_g11 la ⊢
            clear hV
            generalize U1.heap.size = g11 at *
            have L2 := L1.trans la
            refine hK.out _ _ L2 (fun hHeld2 => ?_)
            clear hK K
            try simp only [Act.put, List.getElem_toArray, List.getElem_cons_succ, List.getElem_cons_zero, List.setIfInBounds_toArray, List.set_cons_zero, List.set_cons_succ]
            clear la
            refine wpAnyH_ready (rs := [2, 7]) (by kernel_rfl) (by simp) (AllReadyH.cons rfl (fun K hK => ?_) (AllReadyH.cons rfl (fun K hK => ?_) AllReadyH.nil))
            · skip
              go_simp
              refine (HW16 _).mono ?_
              rintro e U3 ⟨rfl, la⟩
              have b_g11 := b_g11.later la
              have L3 := L2.trans la
              refine hK.out _ _ L3 (fun hHeld3 => ?_)
              clear hK K
              try simp only [Act.put, List.getElem_toArray, List.getElem_cons_succ, List.getElem_cons_zero, List.setIfInBounds_toArray, List.set_cons_zero, List.set_cons_succ]
              clear la
              refine wpAnyH_take (i := 3) (v := .tuple #[.agg #[.int .u64 o15.a0, .int .u64 o15.a1, .int .u64 o15.a2, .int .u64 o15.a3, .int .u64 o15.a4, .int .u64 o15.a5, .int .u64 o15.a6, .int .u64 o15.a7], .agg #[.int .u64 (t16 : Int)], .int .i64 0]) rfl (by kernel_rfl) (by kernel_rfl) (by kernel_rfl) (fun _ _ _ h => h) (Or.inl ⟨by rfl, by intro w' hS; go_simp⟩) hHeld3 ?_
              simp only [Act.put, List.getElem_toArray, List.getElem_cons_succ, List.getElem_cons_zero, List.setIfInBounds_toArray, List.set_cons_zero, List.set_cons_succ]
              refine wpAnyH_take (i := 4) (v := .agg #[.int .u64 o15.a0, .int .u64 o15.a1, .int .u64 o15.a2, .int .u64 o15.a3, .int .u64 o15.a4, .int .u64 o15.a5, .int .u64 o15.a6, .int .u64 o15.a7]) rfl (by kernel_rfl) (by kernel_rfl) (by kernel_rfl) (fun _ _ _ h => h) (Or.inl ⟨by rfl, by intro w' hS; go_simp⟩) hHeld3 ?_
              simp only [Act.put, List.getElem_toArray, List.getElem_cons_succ, List.getElem_cons_zero, List.setIfInBounds_toArray, List.set_cons_zero, List.set_cons_succ]
              refine wpAnyH_take (i := 5) (v := .agg #[.int .u64 (t16 : Int)]) rfl (by kernel_rfl) (by kernel_rfl) (by kernel_rfl) (fun _ _ _ h => h) (Or.inl ⟨by rfl, by intro w' hS; go_simp⟩) hHeld3 ?_
              simp only [Act.put, List.getElem_toArray, List.getElem_cons_succ, List.getElem_cons_zero, List.setIfInBounds_toArray, List.set_cons_zero, List.set_cons_succ]
              refine wpAnyH_take (i := 6) (v := .int .i64 0) rfl (by kernel_rfl) (by kernel_rfl) (by kernel_rfl) (fun _ _ _ h => h) (Or.inl ⟨by rfl, by intro w' hS; go_simp⟩) hHeld3 ?_
              simp only [Act.put, List.getElem_toArray, List.getElem_cons_succ, List.getElem_cons_zero, List.setIfInBounds_toArray, List.set_cons_zero, List.set_cons_succ]
              refine wpAnyH_ready (rs := [7]) (by kernel_rfl) (by simp) (AllReadyH.cons rfl (fun K hK => ?_) AllReadyH.nil)
              go_simp
              have b_g10 := Blk.new U3 26 #[.int .u64 0, .int .u64 0, .int .u64 0, .int .u64 0, .int .u64 0, .int .u64 0, .int .u64 0, .int .u64 0]
              have h_g10 : V.heap.size ≤ U3.heap.size := L3.size
              have la := Lat.alloc U3 (.cells #[.int .u64 0, .int .u64 0, .int .u64 0, .int .u64 0, .int .u64 0, .int .u64 0, .int .u64 0, .int .u64 0] 26)
              obtain ⟨U4, hV⟩ : ∃ V, U3.alloc (.cells #[.int .u64 0, .int .u64 0, .int .u64 0, .int .u64 0, .int .u64 0, .int .u64 0, .int .u64 0, .int .u64 0] 26) = V := ⟨_, rfl⟩
              rw [hV] at b_g10 la ⊢
              clear hV
              have hne : g11 ≠ U3.heap.size := by have := b_g11.lt; omega
              generalize U3.heap.size = g10 at *
              have b_g11 := b_g11.later la
              have L4 := L3.trans la
              refine hK.out _ _ L4 (fun hHeld4 => ?_)
              clear hK K
              try simp only [Act.put, List.getElem_toArray, List.getElem_cons_succ, List.getElem_cons_zero, List.setIfInBounds_toArray, List.set_cons_zero, List.set_cons_succ]
              clear la
              refine wpAnyH_ready (rs := [9]) (by kernel_rfl) (by simp) (AllReadyH.cons rfl (fun K hK => ?_) AllReadyH.nil)
              rw [if_pos (by rfl)]
              refine wp_store_mid 26 (.tmp 10) (.tmp 47) rfl g10 0 #[.int .u64 o15.a0, .int .u64 o15.a1, .int .u64 o15.a2, .int .u64 o15.a3, .int .u64 o15.a4, .int .u64 o15.a5, .int .u64 o15.a6, .int .u64 o15.a7] rfl rfl (b_g10.thereAll _ rfl) (by kernel_rfl) (by simp [Value.oneCell']) ?_
              have ks_g10 := b_g10.setCells #[.int .u64 o15.a0, .int .u64 o15.a1, .int .u64 o15.a2, .int .u64 o15.a3, .int .u64 o15.a4, .int .u64 o15.a5, .int .u64 o15.a6, .int .u64 o15.a7] rfl
              have lpS : LatP (· = g10) U4 (U4.setCells g10 0 (#[.int .u64 o15.a0, .int .u64 o15.a1, .int .u64 o15.a2, .int .u64 o15.a3, .int .u64 o15.a4, .int .u64 o15.a5, .int .u64 o15.a6, .int .u64 o15.a7] : Array Value).toList) := LatP.setCells _ _ _
              have U20L : Lat V (U4.setCells g10 0 (#[.int .u64 o15.a0, .int .u64 o15.a1, .int .u64 o15.a2, .int .u64 o15.a3, .int .u64 o15.a4, .int .u64 o15.a5, .int .u64 o15.a6, .int .u64 o15.a7] : Array Value).toList) := Lat.setCells h_g10 _ _ _ L4
              have ks_g11 := b_g11.keepP lpS (by omega)
              obtain ⟨U20, hV9⟩ : ∃ V, U4.setCells g10 0 (#[.int .u64 o15.a0, .int .u64 o15.a1, .int .u64 o15.a2, .int .u64 o15.a3, .int .u64 o15.a4, .int .u64 o15.a5, .int .u64 o15.a6, .int .u64 o15.a7] : Array Value).toList = V := ⟨_, rfl⟩
              rw [hV9] at ks_g11 ks_g10 U20L ⊢
              clear hV9 lpS
              refine hK.out _ _ U20L (fun hHeld5 => ?_)
              clear hK K
              try simp only [Act.put, List.getElem_toArray, List.getElem_cons_succ, List.getElem_cons_zero, List.setIfInBounds_toArray, List.set_cons_zero, List.set_cons_succ]
              refine wpAnyH_ready (rs := [10]) (by kernel_rfl) (by simp) (AllReadyH.cons rfl (fun K hK => ?_) AllReadyH.nil)
              rw [if_pos (by rfl)]
              refine wp_store_mid 24 (.tmp 11) (.tmp 48) rfl g11 0 #[.int .u64 (t16 : Int)] rfl rfl (ks_g11.thereAll _ rfl) (by kernel_rfl) (by simp [Value.oneCell']) ?_
              have ks_g11 := ks_g11.setCells #[.int .u64 (t16 : Int)] rfl
              have lpS : LatP (· = g11) U20 (U20.setCells g11 0 (#[.int .u64 (t16 : Int)] : Array Value).toList) := LatP.setCells _ _ _
              have U21L : Lat V (U20.setCells g11 0 (#[.int .u64 (t16 : Int)] : Array Value).toList) := Lat.setCells h_g11 _ _ _ U20L
              have ks_g10 := ks_g10.keepP lpS (by omega)
              obtain ⟨U21, hV9⟩ : ∃ V, U20.setCells g11 0 (#[.int .u64 (t16 : Int)] : Array Value).toList = V := ⟨_, rfl⟩
              rw [hV9] at ks_g11 ks_g10 U21L ⊢
              clear hV9 lpS
              refine hK.out _ _ U21L (fun hHeld6 => ?_)
              clear hK K
              try simp only [Act.put, List.getElem_toArray, List.getElem_cons_succ, List.getElem_cons_zero, List.setIfInBounds_toArray, List.set_cons_zero, List.set_cons_succ]
              refine wpAnyH_take (i := 11) (v := .int .i64 0) rfl (by kernel_rfl) (by kernel_rfl) (by kernel_rfl) (fun _ _ _ h => h) (Or.inl ⟨by rfl, by intro w' hS; go_simp⟩) hHeld6 ?_
              simp only [Act.put, List.getElem_toArray, List.getElem_cons_succ, List.getElem_cons_zero, List.setIfInBounds_toArray, List.set_cons_zero, List.set_cons_succ]
              refine wpAnyH_done (by kernel_rfl) ?_ _
              exact TAIL12 _ _ _ _ _ _ _ _ _ _ _ _ _ _ _ _ _ _ _ _ _ _ _ _ _ _ _ _ _ _ _ _ _ _ _ _ _ _ _ _ _ _ _ _ _ _ _ _ _ _ _ _ _ _ _ _ _ _ _ _ _ _ _ _ _ _ _ _ _ _ _ _ _ _ _ _ _ _ _ _ _ _ _ _ _ _ _ _ _ _ _ _ _ _ _ _ _ _ _ _ _ _ _ _ _ _ _ _ _ _ _ _ _ _ _ _ _ _ _ _ _ _ _ _ _ _ _ _ _ _ _ _ _ _ _ _ _ _ _ _ _ _ _ _ _ _ _ _ _ _ _ _ _ _ _ _ _ _ _ _ _ _ _ _ _ g10 g11 U21 (LV.trans U21L) (k6.later U21L) (k7.later U21L) (k8.later U21L) ks_g10
            · skip
              go_simp
              have b_g10 := Blk.new U2 26 #[.int .u64 0, .int .u64 0, .int .u64 0, .int .u64 0, .int .u64 0, .int .u64 0, .int .u64 0, .int .u64 0]
              have h_g10 : V.heap.size ≤ U2.heap.size := L2.size
              have la := Lat.alloc U2 (.cells #[.int .u64 0, .int .u64 0, .int .u64 0, .int .u64 0, .int .u64 0, .int .u64 0, .int .u64 0, .int .u64 0] 26)
              obtain ⟨U3, hV⟩ : ∃ V, U2.alloc (.cells #[.int .u64 0, .int .u64 0, .int .u64 0, .int .u64 0, .int .u64 0, .int .u64 0, .int .u64 0, .int .u64 0] 26) = V := ⟨_, rfl⟩
              rw [hV] at b_g10 la ⊢
              clear hV
              have hne : g11 ≠ U2.heap.size := by have := b_g11.lt; omega
              generalize U2.heap.size = g10 at *
              have b_g11 := b_g11.later la
              have L3 := L2.trans la
              refine hK.out _ _ L3 (fun hHeld3 => ?_)
              clear hK K
              try simp only [Act.put, List.getElem_toArray, List.getElem_cons_succ, List.getElem_cons_zero, List.setIfInBounds_toArray, List.set_cons_zero, List.set_cons_succ]
              clear la
              refine wpAnyH_ready (rs := [2]) (by kernel_rfl) (by simp) (AllReadyH.cons rfl (fun K hK => ?_) AllReadyH.nil)
              go_simp
              refine (HW16 _).mono ?_
              rintro e U4 ⟨rfl, la⟩
              have b_g11 := b_g11.later la
              have b_g10 := b_g10.later la
              have L4 := L3.trans la
              refine hK.out _ _ L4 (fun hHeld4 => ?_)
              clear hK K
              try simp only [Act.put, List.getElem_toArray, List.getElem_cons_succ, List.getElem_cons_zero, List.setIfInBounds_toArray, List.set_cons_zero, List.set_cons_succ]
              clear la
              refine wpAnyH_take (i := 3) (v := .tuple #[.agg #[.int .u64 o15.a0, .int .u64 o15.a1, .int .u64 o15.a2, .int .u64 o15.a3, .int .u64 o15.a4, .int .u64 o15.a5, .int .u64 o15.a6, .int .u64 o15.a7], .agg #[.int .u64 (t16 : Int)], .int .i64 0]) rfl (by kernel_rfl) (by kernel_rfl) (by kernel_rfl) (fun _ _ _ h => h) (Or.inl ⟨by rfl, by intro w' hS; go_simp⟩) hHeld4 ?_
              simp only [Act.put, List.getElem_toArray, List.getElem_cons_succ, List.getElem_cons_zero, List.setIfInBounds_toArray, List.set_cons_zero, List.set_cons_succ]
              refine wpAnyH_take (i := 4) (v := .agg #[.int .u64 o15.a0, .int .u64 o15.a1, .int .u64 o15.a2, .int .u64 o15.a3, .int .u64 o15.a4, .int .u64 o15.a5, .int .u64 o15.a6, .int .u64 o15.a7]) rfl (by kernel_rfl) (by kernel_rfl) (by kernel_rfl) (fun _ _ _ h => h) (Or.inl ⟨by rfl, by intro w' hS; go_simp⟩) hHeld4 ?_
              simp only [Act.put, List.getElem_toArray, List.getElem_cons_succ, List.getElem_cons_zero, List.setIfInBounds_toArray, List.set_cons_zero, List.set_cons_succ]
              refine wpAnyH_take (i := 5) (v := .agg #[.int .u64 (t16 : Int)]) rfl (by kernel_rfl) (by kernel_rfl) (by kernel_rfl) (fun _ _ _ h => h) (Or.inl ⟨by rfl, by intro w' hS; go_simp⟩) hHeld4 ?_
              simp only [Act.put, List.getElem_toArray, List.getElem_cons_succ, List.getElem_cons_zero, List.setIfInBounds_toArray, List.set_cons_zero, List.set_cons_succ]
              refine wpAnyH_take (i := 6) (v := .int .i64 0) rfl (by kernel_rfl) (by kernel_rfl) (by kernel_rfl) (fun _ _ _ h => h) (Or.inl ⟨by rfl, by intro w' hS; go_simp⟩) hHeld4 ?_
              simp only [Act.put, List.getElem_toArray, List.getElem_cons_succ, List.getElem_cons_zero, List.setIfInBounds_toArray, List.set_cons_zero, List.set_cons_succ]
              refine wpAnyH_ready (rs := [9]) (by kernel_rfl) (by simp) (AllReadyH.cons rfl (fun K hK => ?_) AllReadyH.nil)
              rw [if_pos (by rfl)]
              refine wp_store_mid 26 (.tmp 10) (.tmp 47) rfl g10 0 #[.int .u64 o15.a0, .int .u64 o15.a1, .int .u64 o15.a2, .int .u64 o15.a3, .int .u64 o15.a4, .int .u64 o15.a5, .int .u64 o15.a6, .int .u64 o15.a7] rfl rfl (b_g10.thereAll _ rfl) (by kernel_rfl) (by simp [Value.oneCell']) ?_
              have ks_g10 := b_g10.setCells #[.int .u64 o15.a0, .int .u64 o15.a1, .int .u64 o15.a2, .int .u64 o15.a3, .int .u64 o15.a4, .int .u64 o15.a5, .int .u64 o15.a6, .int .u64 o15.a7] rfl
              have lpS : LatP (· = g10) U4 (U4.setCells g10 0 (#[.int .u64 o15.a0, .int .u64 o15.a1, .int .u64 o15.a2, .int .u64 o15.a3, .int .u64 o15.a4, .int .u64 o15.a5, .int .u64 o15.a6, .int .u64 o15.a7] : Array Value).toList) := LatP.setCells _ _ _
              have U20L : Lat V (U4.setCells g10 0 (#[.int .u64 o15.a0, .int .u64 o15.a1, .int .u64 o15.a2, .int .u64 o15.a3, .int .u64 o15.a4, .int .u64 o15.a5, .int .u64 o15.a6, .int .u64 o15.a7] : Array Value).toList) := Lat.setCells h_g10 _ _ _ L4
              have ks_g11 := b_g11.keepP lpS (by omega)
              obtain ⟨U20, hV9⟩ : ∃ V, U4.setCells g10 0 (#[.int .u64 o15.a0, .int .u64 o15.a1, .int .u64 o15.a2, .int .u64 o15.a3, .int .u64 o15.a4, .int .u64 o15.a5, .int .u64 o15.a6, .int .u64 o15.a7] : Array Value).toList = V := ⟨_, rfl⟩
              rw [hV9] at ks_g11 ks_g10 U20L ⊢
              clear hV9 lpS
              refine hK.out _ _ U20L (fun hHeld5 => ?_)
              clear hK K
              try simp only [Act.put, List.getElem_toArray, List.getElem_cons_succ, List.getElem_cons_zero, List.setIfInBounds_toArray, List.set_cons_zero, List.set_cons_succ]
              refine wpAnyH_ready (rs := [10]) (by kernel_rfl) (by simp) (AllReadyH.cons rfl (fun K hK => ?_) AllReadyH.nil)
              rw [if_pos (by rfl)]
              refine wp_store_mid 24 (.tmp 11) (.tmp 48) rfl g11 0 #[.int .u64 (t16 : Int)] rfl rfl (ks_g11.thereAll _ rfl) (by kernel_rfl) (by simp [Value.oneCell']) ?_
              have ks_g11 := ks_g11.setCells #[.int .u64 (t16 : Int)] rfl
              have lpS : LatP (· = g11) U20 (U20.setCells g11 0 (#[.int .u64 (t16 : Int)] : Array Value).toList) := LatP.setCells _ _ _
              have U21L : Lat V (U20.setCells g11 0 (#[.int .u64 (t16 : Int)] : Array Value).toList) := Lat.setCells h_g11 _ _ _ U20L
              have ks_g10 := ks_g10.keepP lpS (by omega)
              obtain ⟨U21, hV9⟩ : ∃ V, U20.setCells g11 0 (#[.int .u64 (t16 : Int)] : Array Value).toList = V := ⟨_, rfl⟩
              rw [hV9] at ks_g11 ks_g10 U21L ⊢
              clear hV9 lpS
              refine hK.out _ _ U21L (fun hHeld6 => ?_)
              clear hK K
              try simp only [Act.put, List.getElem_toArray, List.getElem_cons_succ, List.getElem_cons_zero, List.setIfInBounds_toArray, List.set_cons_zero, List.set_cons_succ]
              refine wpAnyH_take (i := 11) (v := .int .i64 0) rfl (by kernel_rfl) (by kernel_rfl) (by kernel_rfl) (fun _ _ _ h => h) (Or.inl ⟨by rfl, by intro w' hS; go_simp⟩) hHeld6 ?_
              simp only [Act.put, List.getElem_toArray, List.getElem_cons_succ, List.getElem_cons_zero, List.setIfInBounds_toArray, List.set_cons_zero, List.set_cons_succ]
              refine wpAnyH_done (by kernel_rfl) ?_ _
              exact TAIL12 _ _ _ _ _ _ _ _ _ _ _ _ _ _ _ _ _ _ _ _ _ _ _ _ _ _ _ _ _ _ _ _ _ _ _ _ _ _ _ _ _ _ _ _ _ _ _ _ _ _ _ _ _ _ _ _ _ _ _ _ _ _ _ _ _ _ _ _ _ _ _ _ _ _ _ _ _ _ _ _ _ _ _ _ _ _ _ _ _ _ _ _ _ _ _ _ _ _ _ _ _ _ _ _ _ _ _ _ _ _ _ _ _ _ _ _ _ _ _ _ _ _ _ _ _ _ _ _ _ _ _ _ _ _ _ _ _ _ _ _ _ _ _ _ _ _ _ _ _ _ _ _ _ _ _ _ _ _ _ _ _ _ _ _ _ g10 g11 U21 (LV.trans U21L) (k6.later U21L) (k7.later U21L) (k8.later U21L) ks_g10
        · skip
          go_simp
          have b_g10 := Blk.new U0 26 #[.int .u64 0, .int .u64 0, .int .u64 0, .int .u64 0, .int .u64 0, .int .u64 0, .int .u64 0, .int .u64 0]
          have h_g10 : V.heap.size ≤ U0.heap.size := L0.size
          have la := Lat.alloc U0 (.cells #[.int .u64 0, .int .u64 0, .int .u64 0, .int .u64 0, .int .u64 0, .int .u64 0, .int .u64 0, .int .u64 0] 26)
          obtain ⟨U1, hV⟩ : ∃ V, U0.alloc (.cells #[.int .u64 0, .int .u64 0, .int .u64 0, .int .u64 0, .int .u64 0, .int .u64 0, .int .u64 0, .int .u64 0] 26) = V := ⟨_, rfl⟩
          rw [hV] at b_g10 la ⊢
          clear hV
          generalize U0.heap.size = g10 at *
          have L1 := L0.trans la
          refine hK.out _ _ L1 (fun hHeld1 => ?_)
          clear hK K
          try simp only [Act.put, List.getElem_toArray, List.getElem_cons_succ, List.getElem_cons_zero, List.setIfInBounds_toArray, List.set_cons_zero, List.set_cons_succ]
          clear la
          refine wpAnyH_ready (rs := [1, 8]) (by kernel_rfl) (by simp) (AllReadyH.cons rfl (fun K hK => ?_) (AllReadyH.cons rfl (fun K hK => ?_) AllReadyH.nil))
          · skip
            go_simp
            refine (HO16 _).mono ?_
            rintro e U2 ⟨rfl, la⟩
            have b_g10 := b_g10.later la
            have L2 := L1.trans la
            refine hK.out _ _ L2 (fun hHeld2 => ?_)
            clear hK K
            try simp only [Act.put, List.getElem_toArray, List.getElem_cons_succ, List.getElem_cons_zero, List.setIfInBounds_toArray, List.set_cons_zero, List.set_cons_succ]
            clear la
            refine wpAnyH_ready (rs := [2, 8]) (by kernel_rfl) (by simp) (AllReadyH.cons rfl (fun K hK => ?_) (AllReadyH.cons rfl (fun K hK => ?_) AllReadyH.nil))
            · skip
              go_simp
              refine (HW16 _).mono ?_
              rintro e U3 ⟨rfl, la⟩
              have b_g10 := b_g10.later la
              have L3 := L2.trans la
              refine hK.out _ _ L3 (fun hHeld3 => ?_)
              clear hK K
              try simp only [Act.put, List.getElem_toArray, List.getElem_cons_succ, List.getElem_cons_zero, List.setIfInBounds_toArray, List.set_cons_zero, List.set_cons_succ]
              clear la
              refine wpAnyH_take (i := 3) (v := .tuple #[.agg #[.int .u64 o15.a0, .int .u64 o15.a1, .int .u64 o15.a2, .int .u64 o15.a3, .int .u64 o15.a4, .int .u64 o15.a5, .int .u64 o15.a6, .int .u64 o15.a7], .agg #[.int .u64 (t16 : Int)], .int .i64 0]) rfl (by kernel_rfl) (by kernel_rfl) (by kernel_rfl) (fun _ _ _ h => h) (Or.inl ⟨by rfl, by intro w' hS; go_simp⟩) hHeld3 ?_
              simp only [Act.put, List.getElem_toArray, List.getElem_cons_succ, List.getElem_cons_zero, List.setIfInBounds_toArray, List.set_cons_zero, List.set_cons_succ]
              refine wpAnyH_take (i := 4) (v := .agg #[.int .u64 o15.a0, .int .u64 o15.a1, .int .u64 o15.a2, .int .u64 o15.a3, .int .u64 o15.a4, .int .u64 o15.a5, .int .u64 o15.a6, .int .u64 o15.a7]) rfl (by kernel_rfl) (by kernel_rfl) (by kernel_rfl) (fun _ _ _ h => h) (Or.inl ⟨by rfl, by intro w' hS; go_simp⟩) hHeld3 ?_
              simp only [Act.put, List.getElem_toArray, List.getElem_cons_succ, List.getElem_cons_zero, List.setIfInBounds_toArray, List.set_cons_zero, List.set_cons_succ]
              refine wpAnyH_take (i := 5) (v := .agg #[.int .u64 (t16 : Int)]) rfl (by kernel_rfl) (by kernel_rfl) (by kernel_rfl) (fun _ _ _ h => h) (Or.inl ⟨by rfl, by intro w' hS; go_simp⟩) hHeld3 ?_
              simp only [Act.put, List.getElem_toArray, List.getElem_cons_succ, List.getElem_cons_zero, List.setIfInBounds_toArray, List.set_cons_zero, List.set_cons_succ]
              refine wpAnyH_take (i := 6) (v := .int .i64 0) rfl (by kernel_rfl) (by kernel_rfl) (by kernel_rfl) (fun _ _ _ h => h) (Or.inl ⟨by rfl, by intro w' hS; go_simp⟩) hHeld3 ?_
              simp only [Act.put, List.getElem_toArray, List.getElem_cons_succ, List.getElem_cons_zero, List.setIfInBounds_toArray, List.set_cons_zero, List.set_cons_succ]
              refine wpAnyH_ready (rs := [8]) (by kernel_rfl) (by simp) (AllReadyH.cons rfl (fun K hK => ?_) AllReadyH.nil)
              go_simp
              have b_g11 := Blk.new U3 24 #[.int .u64 0]
              have h_g11 : V.heap.size ≤ U3.heap.size := L3.size
              have la := Lat.alloc U3 (.cells #[.int .u64 0] 24)
              obtain ⟨U4, hV⟩ : ∃ V, U3.alloc (.cells #[.int .u64 0] 24) = V := ⟨_, rfl⟩
              rw [hV] at b_g11 la ⊢
              clear hV
              have hne : g10 ≠ U3.heap.size := by have := b_g10.lt; omega
              generalize U3.heap.size = g11 at *
              have b_g10 := b_g10.later la
              have L4 := L3.trans la
              refine hK.out _ _ L4 (fun hHeld4 => ?_)
              clear hK K
              try simp only [Act.put, List.getElem_toArray, List.getElem_cons_succ, List.getElem_cons_zero, List.setIfInBounds_toArray, List.set_cons_zero, List.set_cons_succ]
              clear la
              refine wpAnyH_ready (rs := [9]) (by kernel_rfl) (by simp) (AllReadyH.cons rfl (fun K hK => ?_) AllReadyH.nil)
              rw [if_pos (by rfl)]
              refine wp_store_mid 26 (.tmp 10) (.tmp 47) rfl g10 0 #[.int .u64 o15.a0, .int .u64 o15.a1, .int .u64 o15.a2, .int .u64 o15.a3, .int .u64 o15.a4, .int .u64 o15.a5, .int .u64 o15.a6, .int .u64 o15.a7] rfl rfl (b_g10.thereAll _ rfl) (by kernel_rfl) (by simp [Value.oneCell']) ?_
              have ks_g10 := b_g10.setCells #[.int .u64 o15.a0, .int .u64 o15.a1, .int .u64 o15.a2, .int .u64 o15.a3, .int .u64 o15.a4, .int .u64 o15.a5, .int .u64 o15.a6, .int .u64 o15.a7] rfl
              have lpS : LatP (· = g10) U4 (U4.setCells g10 0 (#[.int .u64 o15.a0, .int .u64 o15.a1, .int .u64 o15.a2, .int .u64 o15.a3, .int .u64 o15.a4, .int .u64 o15.a5, .int .u64 o15.a6, .int .u64 o15.a7] : Array Value).toList) := LatP.setCells _ _ _
              have U20L : Lat V (U4.setCells g10 0 (#[.int .u64 o15.a0, .int .u64 o15.a1, .int .u64 o15.a2, .int .u64 o15.a3, .int .u64 o15.a4, .int .u64 o15.a5, .int .u64 o15.a6, .int .u64 o15.a7] : Array Value).toList) := Lat.setCells h_g10 _ _ _ L4
              have ks_g11 := b_g11.keepP lpS (by omega)
              obtain ⟨U20, hV9⟩ : ∃ V, U4.setCells g10 0 (#[.int .u64 o15.a0, .int .u64 o15.a1, .int .u64 o15.a2, .int .u64 o15.a3, .int .u64 o15.a4, .int .u64 o15.a5, .int .u64 o15.a6, .int .u64 o15.a7] : Array Value).toList = V := ⟨_, rfl⟩
              rw [hV9] at ks_g10 ks_g11 U20L ⊢
              clear hV9 lpS
              refine hK.out _ _ U20L (fun hHeld5 => ?_)
              clear hK K
              try simp only [Act.put, List.getElem_toArray, List.getElem_cons_succ, List.getElem_cons_zero, List.setIfInBounds_toArray, List.set_cons_zero, List.set_cons_succ]
              refine wpAnyH_ready (rs := [10]) (by kernel_rfl) (by simp) (AllReadyH.cons rfl (fun K hK => ?_) AllReadyH.nil)
              rw [if_pos (by rfl)]
              refine wp_store_mid 24 (.tmp 11) (.tmp 48) rfl g11 0 #[.int .u64 (t16 : Int)] rfl rfl (ks_g11.thereAll _ rfl) (by kernel_rfl) (by simp [Value.oneCell']) ?_
              have ks_g11 := ks_g11.setCells #[.int .u64 (t16 : Int)] rfl
              have lpS : LatP (· = g11) U20 (U20.setCells g11 0 (#[.int .u64 (t16 : Int)] : Array Value).toList) := LatP.setCells _ _ _
              have U21L : Lat V (U20.setCells g11 0 (#[.int .u64 (t16 : Int)] : Array Value).toList) := Lat.setCells h_g11 _ _ _ U20L
              have ks_g10 := ks_g10.keepP lpS (by omega)
              obtain ⟨U21, hV9⟩ : ∃ V, U20.setCells g11 0 (#[.int .u64 (t16 : Int)] : Array Value).toList = V := ⟨_, rfl⟩
              rw [hV9] at ks_g10 ks_g11 U21L ⊢
              clear hV9 lpS
              refine hK.out _ _ U21L (fun hHeld6 => ?_)
              clear hK K
              try simp only [Act.put, List.getElem_toArray, List.getElem_cons_succ, List.getElem_cons_zero, List.setIfInBounds_toArray, List.set_cons_zero, List.set_cons_succ]
              refine wpAnyH_take (i := 11) (v := .int .i64 0) rfl (by kernel_rfl) (by kernel_rfl) (by kernel_rfl) (fun _ _ _ h => h) (Or.inl ⟨by rfl, by intro w' hS; go_simp⟩) hHeld6 ?_
              simp only [Act.put, List.getElem_toArray, List.getElem_cons_succ, List.getElem_cons_zero, List.setIfInBounds_toArray, List.set_cons_zero, List.set_cons_succ]
              refine wpAnyH_done (by kernel_rfl) ?_ _
              exact TAIL12 _ _ _ _ _ _ _ _ _ _ _ _ _ _ _ _ _ _ _ _ _ _ _ _ _ _ _ _ _ _ _ _ _ _ _ _ _ _ _ _ _ _ _ _ _ _ _ _ _ _ _ _ _ _ _ _ _ _ _ _ _ _ _ _ _ _ _ _ _ _ _ _ _ _ _ _ _ _ _ _ _ _ _ _ _ _ _ _ _ _ _ _ _ _ _ _ _ _ _ _ _ _ _ _ _ _ _ _ _ _ _ _ _ _ _ _ _ _ _ _ _ _ _ _ _ _ _ _ _ _ _ _ _ _ _ _ _ _ _ _ _ _ _ _ _ _ _ _ _ _ _ _ _ _ _ _ _ _ _ _ _ _ _ _ _ g10 g11 U21 (LV.trans U21L) (k6.later U21L) (k7.later U21L) (k8.later U21L) ks_g10
            · skip
              go_simp
              have b_g11 := Blk.new U2 24 #[.int .u64 0]
              have h_g11 : V.heap.size ≤ U2.heap.size := L2.size
              have la := Lat.alloc U2 (.cells #[.int .u64 0] 24)
              obtain ⟨U3, hV⟩ : ∃ V, U2.alloc (.cells #[.int .u64 0] 24) = V := ⟨_, rfl⟩
              rw [hV] at b_g11 la ⊢
              clear hV
              have hne : g10 ≠ U2.heap.size := by have := b_g10.lt; omega
              generalize U2.heap.size = g11 at *
              have b_g10 := b_g10.later la
              have L3 := L2.trans la
              refine hK.out _ _ L3 (fun hHeld3 => ?_)
              clear hK K
              try simp only [Act.put, List.getElem_toArray, List.getElem_cons_succ, List.getElem_cons_zero, List.setIfInBounds_toArray, List.set_cons_zero, List.set_cons_succ]
              clear la
              refine wpAnyH_ready (rs := [2]) (by kernel_rfl) (by simp) (AllReadyH.cons rfl (fun K hK => ?_) AllReadyH.nil)
              go_simp
              refine (HW16 _).mono ?_
              rintro e U4 ⟨rfl, la⟩
              have b_g10 := b_g10.later la
              have b_g11 := b_g11.later la
              have L4 := L3.trans la
              refine hK.out _ _ L4 (fun hHeld4 => ?_)
              clear hK K
              try simp only [Act.put, List.getElem_toArray, List.getElem_cons_succ, List.getElem_cons_zero, List.setIfInBounds_toArray, List.set_cons_zero, List.set_cons_succ]
              clear la
              refine wpAnyH_take (i := 3) (v := .tuple #[.agg #[.int .u64 o15.a0, .int .u64 o15.a1, .int .u64 o15.a2, .int .u64 o15.a3, .int .u64 o15.a4, .int .u64 o15.a5, .int .u64 o15.a6, .int .u64 o15.a7], .agg #[.int .u64 (t16 : Int)], .int .i64 0]) rfl (by kernel_rfl) (by kernel_rfl) (by kernel_rfl) (fun _ _ _ h => h) (Or.inl ⟨by rfl, by intro w' hS; go_simp⟩) hHeld4 ?_
              simp only [Act.put, List.getElem_toArray, List.getElem_cons_succ, List.getElem_cons_zero, List.setIfInBounds_toArray, List.set_cons_zero, List.set_cons_succ]
              refine wpAnyH_take (i := 4) (v := .agg #[.int .u64 o15.a0, .int .u64 o15.a1, .int .u64 o15.a2, .int .u64 o15.a3, .int .u64 o15.a4, .int .u64 o15.a5, .int .u64 o15.a6, .int .u64 o15.a7]) rfl (by kernel_rfl) (by kernel_rfl) (by kernel_rfl) (fun _ _ _ h => h) (Or.inl ⟨by rfl, by intro w' hS; go_simp⟩) hHeld4 ?_
              simp only [Act.put, List.getElem_toArray, List.getElem_cons_succ, List.getElem_cons_zero, List.setIfInBounds_toArray, List.set_cons_zero, List.set_cons_succ]
              refine wpAnyH_take (i := 5) (v := .agg #[.int .u64 (t16 : Int)]) rfl (by kernel_rfl) (by kernel_rfl) (by kernel_rfl) (fun _ _ _ h => h) (Or.inl ⟨by rfl, by intro w' hS; go_simp⟩) hHeld4 ?_
              simp only [Act.put, List.getElem_toArray, List.getElem_cons_succ, List.getElem_cons_zero, List.setIfInBounds_toArray, List.set_cons_zero, List.set_cons_succ]
              refine wpAnyH_take (i := 6) (v := .int .i64 0) rfl (by kernel_rfl) (by kernel_rfl) (by kernel_rfl) (fun _ _ _ h => h) (Or.inl ⟨by rfl, by intro w' hS; go_simp⟩) hHeld4 ?_
              simp only [Act.put, List.getElem_toArray, List.getElem_cons_succ, List.getElem_cons_zero, List.setIfInBounds_toArray, List.set_cons_zero, List.set_cons_succ]
              refine wpAnyH_ready (rs := [9]) (by kernel_rfl) (by simp) (AllReadyH.cons rfl (fun K hK => ?_) AllReadyH.nil)
              rw [if_pos (by rfl)]
              refine wp_store_mid 26 (.tmp 10) (.tmp 47) rfl g10 0 #[.int .u64 o15.a0, .int .u64 o15.a1, .int .u64 o15.a2, .int .u64 o15.a3, .int .u64 o15.a4, .int .u64 o15.a5, .int .u64 o15.a6, .int .u64 o15.a7] rfl rfl (b_g10.thereAll _ rfl) (by kernel_rfl) (by simp [Value.oneCell']) ?_
              have ks_g10 := b_g10.setCells #[.int .u64 o15.a0, .int .u64 o15.a1, .int .u64 o15.a2, .int .u64 o15.a3, .int .u64 o15.a4, .int .u64 o15.a5, .int .u64 o15.a6, .int .u64 o15.a7] rfl
              have lpS : LatP (· = g10) U4 (U4.setCells g10 0 (#[.int .u64 o15.a0, .int .u64 o15.a1, .int .u64 o15.a2, .int .u64 o15.a3, .int .u64 o15.a4, .int .u64 o15.a5, .int .u64 o15.a6, .int .u64 o15.a7] : Array Value).toList) := LatP.setCells _ _ _
              have U20L : Lat V (U4.setCells g10 0 (#[.int .u64 o15.a0, .int .u64 o15.a1, .int .u64 o15.a2, .int .u64 o15.a3, .int .u64 o15.a4, .int .u64 o15.a5, .int .u64 o15.a6, .int .u64 o15.a7] : Array Value).toList) := Lat.setCells h_g10 _ _ _ L4
              have ks_g11 := b_g11.keepP lpS (by omega)
              obtain ⟨U20, hV9⟩ : ∃ V, U4.setCells g10 0 (#[.int .u64 o15.a0, .int .u64 o15.a1, .int .u64 o15.a2, .int .u64 o15.a3, .int .u64 o15.a4, .int .u64 o15.a5, .int .u64 o15.a6, .int .u64 o15.a7] : Array Value).toList = V := ⟨_, rfl⟩
              rw [hV9] at ks_g10 ks_g11 U20L ⊢
              clear hV9 lpS
              refine hK.out _ _ U20L (fun hHeld5 => ?_)
              clear hK K
              try simp only [Act.put, List.getElem_toArray, List.getElem_cons_succ, List.getElem_cons_zero, List.setIfInBounds_toArray, List.set_cons_zero, List.set_cons_succ]
              refine wpAnyH_ready (rs := [10]) (by kernel_rfl) (by simp) (AllReadyH.cons rfl (fun K hK => ?_) AllReadyH.nil)
              rw [if_pos (by rfl)]
              refine wp_store_mid 24 (.tmp 11) (.tmp 48) rfl g11 0 #[.int .u64 (t16 : Int)] rfl rfl (ks_g11.thereAll _ rfl) (by kernel_rfl) (by simp [Value.oneCell']) ?_
              have ks_g11 := ks_g11.setCells #[.int .u64 (t16 : Int)] rfl
              have lpS : LatP (· = g11) U20 (U20.setCells g11 0 (#[.int .u64 (t16 : Int)] : Array Value).toList) := LatP.setCells _ _ _
              have U21L : Lat V (U20.setCells g11 0 (#[.int .u64 (t16 : Int)] : Array Value).toList) := Lat.setCells h_g11 _ _ _ U20L
              have ks_g10 := ks_g10.keepP lpS (by omega)
              obtain ⟨U21, hV9⟩ : ∃ V, U20.setCells g11 0 (#[.int .u64 (t16 : Int)] : Array Value).toList = V := ⟨_, rfl⟩
              rw [hV9] at ks_g10 ks_g11 U21L ⊢
              clear hV9 lpS
              refine hK.out _ _ U21L (fun hHeld6 => ?_)
              clear hK K
              try simp only [Act.put, List.getElem_toArray, List.getElem_cons_succ, List.getElem_cons_zero, List.setIfInBounds_toArray, List.set_cons_zero, List.set_cons_succ]
              refine wpAnyH_take (i := 11) (v := .int .i64 0) rfl (by kernel_rfl) (by kernel_rfl) (by kernel_rfl) (fun _ _ _ h => h) (Or.inl ⟨by rfl, by intro w' hS; go_simp⟩) hHeld6 ?_
              simp only [Act.put, List.getElem_toArray, List.getElem_cons_succ, List.getElem_cons_zero, List.setIfInBounds_toArray, List.set_cons_zero, List.set_cons_succ]
              refine wpAnyH_done (by kernel_rfl) ?_ _
              exact TAIL12 _ _ _ _ _ _ _ _ _ _ _ _ _ _ _ _ _ _ _ _ _ _ _ _ _ _ _ _ _ _ _ _ _ _ _ _ _ _ _ _ _ _ _ _ _ _ _ _ _ _ _ _ _ _ _ _ _ _ _ _ _ _ _ _ _ _ _ _ _ _ _ _ _ _ _ _ _ _ _ _ _ _ _ _ _ _ _ _ _ _ _ _ _ _ _ _ _ _ _ _ _ _ _ _ _ _ _ _ _ _ _ _ _ _ _ _ _ _ _ _ _ _ _ _ _ _ _ _ _ _ _ _ _ _ _ _ _ _ _ _ _ _ _ _ _ _ _ _ _ _ _ _ _ _ _ _ _ _ _ _ _ _ _ _ _ g10 g11 U21 (LV.trans U21L) (k6.later U21L) (k7.later U21L) (k8.later U21L) ks_g10
          · skip
            go_simp
            have b_g11 := Blk.new U1 24 #[.int .u64 0]
            have h_g11 : V.heap.size ≤ U1.heap.size := L1.size
            have la := Lat.alloc U1 (.cells #[.int .u64 0] 24)
            obtain ⟨U2, hV⟩ : ∃ V, U1.alloc (.cells #[.int .u64 0] 24) = V := ⟨_, rfl⟩
            rw [hV] at b_g11 la ⊢
            clear hV
            have hne : g10 ≠ U1.heap.size := by have := b_g10.lt; omega
            generalize U1.heap.size = g11 at *
            have b_g10 := b_g10.later la
            have L2 := L1.trans la
            refine hK.out _ _ L2 (fun hHeld2 => ?_)
            clear hK K
            try simp only [Act.put, List.getElem_toArray, List.getElem_cons_succ, List.getElem_cons_zero, List.setIfInBounds_toArray, List.set_cons_zero, List.set_cons_succ]
            clear la
            refine wpAnyH_ready (rs := [1]) (by kernel_rfl) (by simp) (AllReadyH.cons rfl (fun K hK => ?_) AllReadyH.nil)
            go_simp
            refine (HO16 _).mono ?_
            rintro e U3 ⟨rfl, la⟩
            have b_g10 := b_g10.later la
            have b_g11 := b_g11.later la
            have L3 := L2.trans la
            refine hK.out _ _ L3 (fun hHeld3 => ?_)
            clear hK K
            try simp only [Act.put, List.getElem_toArray, List.getElem_cons_succ, List.getElem_cons_zero, List.setIfInBounds_toArray, List.set_cons_zero, List.set_cons_succ]
            clear la
            refine wpAnyH_ready (rs := [2]) (by kernel_rfl) (by simp) (AllReadyH.cons rfl (fun K hK => ?_) AllReadyH.nil)
            go_simp
            refine (HW16 _).mono ?_
            rintro e U4 ⟨rfl, la⟩
            have b_g10 := b_g10.later la
            have b_g11 := b_g11.later la
            have L4 := L3.trans la
            refine hK.out _ _ L4 (fun hHeld4 => ?_)
            clear hK K
            try simp only [Act.put, List.getElem_toArray, List.getElem_cons_succ, List.getElem_cons_zero, List.setIfInBounds_toArray, List.set_cons_zero, List.set_cons_succ]
            clear la
            refine wpAnyH_take (i := 3) (v := .tuple #[.agg #[.int .u64 o15.a0, .int .u64 o15.a1, .int .u64 o15.a2, .int .u64 o15.a3, .int .u64 o15.a4, .int .u64 o15.a5, .int .u64 o15.a6, .int .u64 o15.a7], .agg #[.int .u64 (t16 : Int)], .int .i64 0]) rfl (by kernel_rfl) (by kernel_rfl) (by kernel_rfl) (fun _ _ _ h => h) (Or.inl ⟨by rfl, by intro w' hS; go_simp⟩) hHeld4 ?_
            simp only [Act.put, List.getElem_toArray, List.getElem_cons_succ, List.getElem_cons_zero, List.setIfInBounds_toArray, List.set_cons_zero, List.set_cons_succ]
            refine wpAnyH_take (i := 4) (v := .agg #[.int .u64 o15.a0, .int .u64 o15.a1, .int .u64 o15.a2, .int .u64 o15.a3, .int .u64 o15.a4, .int .u64 o15.a5, .int .u64 o15.a6, .int .u64 o15.a7]) rfl (by kernel_rfl) (by kernel_rfl) (by kernel_rfl) (fun _ _ _ h => h) (Or.inl ⟨by rfl, by intro w' hS; go_simp⟩) hHeld4 ?_
            simp only [Act.put, List.getElem_toArray, List.getElem_cons_succ, List.getElem_cons_zero, List.setIfInBounds_toArray, List.set_cons_zero, List.set_cons_succ]
            refine wpAnyH_take (i := 5) (v := .agg #[.int .u64 (t16 : Int)]) rfl (by kernel_rfl) (by kernel_rfl) (by kernel_rfl) (fun _ _ _ h => h) (Or.inl ⟨by rfl, by intro w' hS; go_simp⟩) hHeld4 ?_
            simp only [Act.put, List.getElem_toArray, List.getElem_cons_succ, List.getElem_cons_zero, List.setIfInBounds_toArray, List.set_cons_zero, List.set_cons_succ]
            refine wpAnyH_take (i := 6) (v := .int .i64 0) rfl (by kernel_rfl) (by kernel_rfl) (by kernel_rfl) (fun _ _ _ h => h) (Or.inl ⟨by rfl, by intro w' hS; go_simp⟩) hHeld4 ?_
            simp only [Act.put, List.getElem_toArray, List.getElem_cons_succ, List.getElem_cons_zero, List.setIfInBounds_toArray, List.set_cons_zero, List.set_cons_succ]
            refine wpAnyH_ready (rs := [9]) (by kernel_rfl) (by simp) (AllReadyH.cons rfl (fun K hK => ?_) AllReadyH.nil)
            rw [if_pos (by rfl)]
            refine wp_store_mid 26 (.tmp 10) (.tmp 47) rfl g10 0 #[.int .u64 o15.a0, .int .u64 o15.a1, .int .u64 o15.a2, .int .u64 o15.a3, .int .u64 o15.a4, .int .u64 o15.a5, .int .u64 o15.a6, .int .u64 o15.a7] rfl rfl (b_g10.thereAll _ rfl) (by kernel_rfl) (by simp [Value.oneCell']) ?_
            have ks_g10 := b_g10.setCells #[.int .u64 o15.a0, .int .u64 o15.a1, .int .u64 o15.a2, .int .u64 o15.a3, .int .u64 o15.a4, .int .u64 o15.a5, .int .u64 o15.a6, .int .u64 o15.a7] rfl
            have lpS : LatP (· = g10) U4 (U4.setCells g10 0 (#[.int .u64 o15.a0, .int .u64 o15.a1, .int .u64 o15.a2, .int .u64 o15.a3, .int .u64 o15.a4, .int .u64 o15.a5, .int .u64 o15.a6, .int .u64 o15.a7] : Array Value).toList) := LatP.setCells _ _ _
            have U20L : Lat V (U4.setCells g10 0 (#[.int .u64 o15.a0, .int .u64 o15.a1, .int .u64 o15.a2, .int .u64 o15.a3, .int .u64 o15.a4, .int .u64 o15.a5, .int .u64 o15.a6, .int .u64 o15.a7] : Array Value).toList) := Lat.setCells h_g10 _ _ _ L4
            have ks_g11 := b_g11.keepP lpS (by omega)
            obtain ⟨U20, hV9⟩ : ∃ V, U4.setCells g10 0 (#[.int .u64 o15.a0, .int .u64 o15.a1, .int .u64 o15.a2, .int .u64 o15.a3, .int .u64 o15.a4, .int .u64 o15.a5, .int .u64 o15.a6, .int .u64 o15.a7] : Array Value).toList = V := ⟨_, rfl⟩
            rw [hV9] at ks_g10 ks_g11 U20L ⊢
            clear hV9 lpS
            refine hK.out _ _ U20L (fun hHeld5 => ?_)
            clear hK K
            try simp only [Act.put, List.getElem_toArray, List.getElem_cons_succ, List.getElem_cons_zero, List.setIfInBounds_toArray, List.set_cons_zero, List.set_cons_succ]
            refine wpAnyH_ready (rs := [10]) (by kernel_rfl) (by simp) (AllReadyH.cons rfl (fun K hK => ?_) AllReadyH.nil)
            rw [if_pos (by rfl)]
            refine wp_store_mid 24 (.tmp 11) (.tmp 48) rfl g11 0 #[.int .u64 (t16 : Int)] rfl rfl (ks_g11.thereAll _ rfl) (by kernel_rfl) (by simp [Value.oneCell']) ?_
            have ks_g11 := ks_g11.setCells #[.int .u64 (t16 : Int)] rfl
            have lpS : LatP (· = g11) U20 (U20.setCells g11 0 (#[.int .u64 (t16 : Int)] : Array Value).toList) := LatP.setCells _ _ _
            have U21L : Lat V (U20.setCells g11 0 (#[.int .u64 (t16 : Int)] : Array Value).toList) := Lat.setCells h_g11 _ _ _ U20L
            have ks_g10 := ks_g10.keepP lpS (by omega)
            obtain ⟨U21, hV9⟩ : ∃ V, U20.setCells g11 0 (#[.int .u64 (t16 : Int)] : Array Value).toList = V := ⟨_, rfl⟩
            rw [hV9] at ks_g10 ks_g11 U21L ⊢
            clear hV9 lpS
            refine hK.out _ _ U21L (fun hHeld6 => ?_)
            clear hK K
            try simp only [Act.put, List.getElem_toArray, List.getElem_cons_succ, List.getElem_cons_zero, List.setIfInBounds_toArray, List.set_cons_zero, List.set_cons_succ]
            refine wpAnyH_take (i := 11) (v := .int .i64 0) rfl (by kernel_rfl) (by kernel_rfl) (by kernel_rfl) (fun _ _ _ h => h) (Or.inl ⟨by rfl, by intro w' hS; go_simp⟩) hHeld6 ?_
            simp only [Act.put, List.getElem_toArray, List.getElem_cons_succ, List.getElem_cons_zero, List.setIfInBounds_toArray, List.set_cons_zero, List.set_cons_succ]
            refine wpAnyH_done (by kernel_rfl) ?_ _
            exact TAIL12 _ _ _ _ _ _ _ _ _ _ _ _ _ _ _ _ _ _ _ _ _ _ _ _ _ _ _ _ _ _ _ _ _ _ _ _ _ _ _ _ _ _ _ _ _ _ _ _ _ _ _ _ _ _ _ _ _ _ _ _ _ _ _ _ _ _ _ _ _ _ _ _ _ _ _ _ _ _ _ _ _ _ _ _ _ _ _ _ _ _ _ _ _ _ _ _ _ _ _ _ _ _ _ _ _ _ _ _ _ _ _ _ _ _ _ _ _ _ _ _ _ _ _ _ _ _ _ _ _ _ _ _ _ _ _ _ _ _ _ _ _ _ _ _ _ _ _ _ _ _ _ _ _ _ _ _ _ _ _ _ _ _ _ _ _ g10 g11 U21 (LV.trans U21L) (k6.later U21L) (k7.later U21L) (k8.later U21L) ks_g10
        · skip
          go_simp
          have b_g11 := Blk.new U0 24 #[.int .u64 0]
          have h_g11 : V.heap.size ≤ U0.heap.size := L0.size
          have la := Lat.alloc U0 (.cells #[.int .u64 0] 24)
          obtain ⟨U1, hV⟩ : ∃ V, U0.alloc (.cells #[.int .u64 0] 24) = V := ⟨_, rfl⟩
          rw [hV] at b_g11 la ⊢
          clear hV
          generalize U0.heap.size = g11 at *
          have L1 := L0.trans la
          refine hK.out _ _ L1 (fun hHeld1 => ?_)
          clear hK K
          try simp only [Act.put, List.getElem_toArray, List.getElem_cons_succ, List.getElem_cons_zero, List.setIfInBounds_toArray, List.set_cons_zero, List.set_cons_succ]
          clear la
          refine wpAnyH_ready (rs := [1, 7]) (by kernel_rfl) (by simp) (AllReadyH.cons rfl (fun K hK => ?_) (AllReadyH.cons rfl (fun K hK => ?_) AllReadyH.nil))
          · skip
            go_simp
            refine (HO16 _).mono ?_
            rintro e U2 ⟨rfl, la⟩
            have b_g11 := b_g11.later la
            have L2 := L1.trans la
            refine hK.out _ _ L2 (fun hHeld2 => ?_)
            clear hK K
            try simp only [Act.put, List.getElem_toArray, List.getElem_cons_succ, List.getElem_cons_zero, List.setIfInBounds_toArray, List.set_cons_zero, List.set_cons_succ]
            clear la
            refine wpAnyH_ready (rs := [2, 7]) (by kernel_rfl) (by simp) (AllReadyH.cons rfl (fun K hK => ?_) (AllReadyH.cons rfl (fun K hK => ?_) AllReadyH.nil))
            · skip
              go_simp
              refine (HW16 _).mono ?_
              rintro e U3 ⟨rfl, la⟩
              have b_g11 := b_g11.later la
              have L3 := L2.trans la
              refine hK.out _ _ L3 (fun hHeld3 => ?_)
              clear hK K
              try simp only [Act.put, List.getElem_toArray, List.getElem_cons_succ, List.getElem_cons_zero, List.setIfInBounds_toArray, List.set_cons_zero, List.set_cons_succ]
              clear la
              refine wpAnyH_take (i := 3) (v := .tuple #[.agg #[.int .u64 o15.a0, .int .u64 o15.a1, .int .u64 o15.a2, .int .u64 o15.a3, .int .u64 o15.a4, .int .u64 o15.a5, .int .u64 o15.a6, .int .u64 o15.a7], .agg #[.int .u64 (t16 : Int)], .int .i64 0]) rfl (by kernel_rfl) (by kernel_rfl) (by kernel_rfl) (fun _ _ _ h => h) (Or.inl ⟨by rfl, by intro w' hS; go_simp⟩) hHeld3 ?_
              simp only [Act.put, List.getElem_toArray, List.getElem_cons_succ, List.getElem_cons_zero, List.setIfInBounds_toArray, List.set_cons_zero, List.set_cons_succ]
              refine wpAnyH_take (i := 4) (v := .agg #[.int .u64 o15.a0, .int .u64 o15.a1, .int .u64 o15.a2, .int .u64 o15.a3, .int .u64 o15.a4, .int .u64 o15.a5, .int .u64 o15.a6, .int .u64 o15.a7]) rfl (by kernel_rfl) (by kernel_rfl) (by kernel_rfl) (fun _ _ _ h => h) (Or.inl ⟨by rfl, by intro w' hS; go_simp⟩) hHeld3 ?_
              simp only [Act.put, List.getElem_toArray, List.getElem_cons_succ, List.getElem_cons_zero, List.setIfInBounds_toArray, List.set_cons_zero, List.set_cons_succ]
              refine wpAnyH_take (i := 5) (v := .agg #[.int .u64 (t16 : Int)]) rfl (by kernel_rfl) (by kernel_rfl) (by kernel_rfl) (fun _ _ _ h => h) (Or.inl ⟨by rfl, by intro w' hS; go_simp⟩) hHeld3 ?_
              simp only [Act.put, List.getElem_toArray, List.getElem_cons_succ, List.getElem_cons_zero, List.setIfInBounds_toArray, List.set_cons_zero, List.set_cons_succ]
              refine wpAnyH_take (i := 6) (v := .int .i64 0) rfl (by kernel_rfl) (by kernel_rfl) (by kernel_rfl) (fun _ _ _ h => h) (Or.inl ⟨by rfl, by intro w' hS; go_simp⟩) hHeld3 ?_
              simp only [Act.put, List.getElem_toArray, List.getElem_cons_succ, List.getElem_cons_zero, List.setIfInBounds_toArray, List.set_cons_zero, List.set_cons_succ]
              refine wpAnyH_ready (rs := [7]) (by kernel_rfl) (by simp) (AllReadyH.cons rfl (fun K hK => ?_) AllReadyH.nil)
              go_simp
              have b_g10 := Blk.new U3 26 #[.int .u64 0, .int .u64 0, .int .u64 0, .int .u64 0, .int .u64 0, .int .u64 0, .int .u64 0, .int .u64 0]
              have h_g10 : V.heap.size ≤ U3.heap.size := L3.size
              have la := Lat.alloc U3 (.cells #[.int .u64 0, .int .u64 0, .int .u64 0, .int .u64 0, .int .u64 0, .int .u64 0, .int .u64 0, .int .u64 0] 26)
              obtain ⟨U4, hV⟩ : ∃ V, U3.alloc (.cells #[.int .u64 0, .int .u64 0, .int .u64 0, .int .u64 0, .int .u64 0, .int .u64 0, .int .u64 0, .int .u64 0] 26) = V := ⟨_, rfl⟩
              rw [hV] at b_g10 la ⊢
              clear hV
              have hne : g11 ≠ U3.heap.size := by have := b_g11.lt; omega
              generalize U3.heap.size = g10 at *
              have b_g11 := b_g11.later la
              have L4 := L3.trans la
              refine hK.out _ _ L4 (fun hHeld4 => ?_)
              clear hK K
              try simp only [Act.put, List.getElem_toArray, List.getElem_cons_succ, List.getElem_cons_zero, List.setIfInBounds_toArray, List.set_cons_zero, List.set_cons_succ]
              clear la
              refine wpAnyH_ready (rs := [9]) (by kernel_rfl) (by simp) (AllReadyH.cons rfl (fun K hK => ?_) AllReadyH.nil)
              rw [if_pos (by rfl)]
              refine wp_store_mid 26 (.tmp 10) (.tmp 47) rfl g10 0 #[.int .u64 o15.a0, .int .u64 o15.a1, .int .u64 o15.a2, .int .u64 o15.a3, .int .u64 o15.a4, .int .u64 o15.a5, .int .u64 o15.a6, .int .u64 o15.a7] rfl rfl (b_g10.thereAll _ rfl) (by kernel_rfl) (by simp [Value.oneCell']) ?_
              have ks_g10 := b_g10.setCells #[.int .u64 o15.a0, .int .u64 o15.a1, .int .u64 o15.a2, .int .u64 o15.a3, .int .u64 o15.a4, .int .u64 o15.a5, .int .u64 o15.a6, .int .u64 o15.a7] rfl
              have lpS : LatP (· = g10) U4 (U4.setCells g10 0 (#[.int .u64 o15.a0, .int .u64 o15.a1, .int .u64 o15.a2, .int .u64 o15.a3, .int .u64 o15.a4, .int .u64 o15.a5, .int .u64 o15.a6, .int .u64 o15.a7] : Array Value).toList) := LatP.setCells _ _ _
              have U20L : Lat V (U4.setCells g10 0 (#[.int .u64 o15.a0, .int .u64 o15.a1, .int .u64 o15.a2, .int .u64 o15.a3, .int .u64 o15.a4, .int .u64 o15.a5, .int .u64 o15.a6, .int .u64 o15.a7] : Array Value).toList) := Lat.setCells h_g10 _ _ _ L4
              have ks_g11 := b_g11.keepP lpS (by omega)
              obtain ⟨U20, hV9⟩ : ∃ V, U4.setCells g10 0 (#[.int .u64 o15.a0, .int .u64 o15.a1, .int .u64 o15.a2, .int .u64 o15.a3, .int .u64 o15.a4, .int .u64 o15.a5, .int .u64 o15.a6, .int .u64 o15.a7] : Array Value).toList = V := ⟨_, rfl⟩
              rw [hV9] at ks_g11 ks_g10 U20L ⊢
              clear hV9 lpS
              refine hK.out _ _ U20L (fun hHeld5 => ?_)
              clear hK K
              try simp only [Act.put, List.getElem_toArray, List.getElem_cons_succ, List.getElem_cons_zero, List.setIfInBounds_toArray, List.set_cons_zero, List.set_cons_succ]
              refine wpAnyH_ready (rs := [10]) (by kernel_rfl) (by simp) (AllReadyH.cons rfl (fun K hK => ?_) AllReadyH.nil)
              rw [if_pos (by rfl)]
              refine wp_store_mid 24 (.tmp 11) (.tmp 48) rfl g11 0 #[.int .u64 (t16 : Int)] rfl rfl (ks_g11.thereAll _ rfl) (by kernel_rfl) (by simp [Value.oneCell']) ?_
              have ks_g11 := ks_g11.setCells #[.int .u64 (t16 : Int)] rfl
              have lpS : LatP (· = g11) U20 (U20.setCells g11 0 (#[.int .u64 (t16 : Int)] : Array Value).toList) := LatP.setCells _ _ _
              have U21L : Lat V (U20.setCells g11 0 (#[.int .u64 (t16 : Int)] : Array Value).toList) := Lat.setCells h_g11 _ _ _ U20L
              have ks_g10 := ks_g10.keepP lpS (by omega)
              obtain ⟨U21, hV9⟩ : ∃ V, U20.setCells g11 0 (#[.int .u64 (t16 : Int)] : Array Value).toList = V := ⟨_, rfl⟩
              rw [hV9] at ks_g11 ks_g10 U21L ⊢
              clear hV9 lpS
              refine hK.out _ _ U21L (fun hHeld6 => ?_)
              clear hK K
              try simp only [Act.put, List.getElem_toArray, List.getElem_cons_succ, List.getElem_cons_zero, List.setIfInBounds_toArray, List.set_cons_zero, List.set_cons_succ]
              refine wpAnyH_take (i := 11) (v := .int .i64 0) rfl (by kernel_rfl) (by kernel_rfl) (by kernel_rfl) (fun _ _ _ h => h) (Or.inl ⟨by rfl, by intro w' hS; go_simp⟩) hHeld6 ?_
              simp only [Act.put, List.getElem_toArray, List.getElem_cons_succ, List.getElem_cons_zero, List.setIfInBounds_toArray, List.set_cons_zero, List.set_cons_succ]
              refine wpAnyH_done (by kernel_rfl) ?_ _
              exact TAIL12 _ _ _ _ _ _ _ _ _ _ _ _ _ _ _ _ _ _ _ _ _ _ _ _ _ _ _ _ _ _ _ _ _ _ _ _ _ _ _ _ _ _ _ _ _ _ _ _ _ _ _ _ _ _ _ _ _ _ _ _ _ _ _ _ _ _ _ _ _ _ _ _ _ _ _ _ _ _ _ _ _ _ _ _ _ _ _ _ _ _ _ _ _ _ _ _ _ _ _ _ _ _ _ _ _ _ _ _ _ _ _ _ _ _ _ _ _ _ _ _ _ _ _ _ _ _ _ _ _ _ _ _ _ _ _ _ _ _ _ _ _ _ _ _ _ _ _ _ _ _ _ _ _ _ _ _ _ _ _ _ _ _ _ _ _ g10 g11 U21 (LV.trans U21L) (k6.later U21L) (k7.later U21L) (k8.later U21L) ks_g10
            · skip
              go_simp
              have b_g10 := Blk.new U2 26 #[.int .u64 0, .int .u64 0, .int .u64 0, .int .u64 0, .int .u64 0, .int .u64 0, .int .u64 0, .int .u64 0]
              have h_g10 : V.heap.size ≤ U2.heap.size := L2.size
              have la := Lat.alloc U2 (.cells #[.int .u64 0, .int .u64 0, .int .u64 0, .int .u64 0, .int .u64 0, .int .u64 0, .int .u64 0, .int .u64 0] 26)
              obtain ⟨U3, hV⟩ : ∃ V, U2.alloc (.cells #[.int .u64 0, .int .u64 0, .int .u64 0, .int .u64 0, .int .u64 0, .int .u64 0, .int .u64 0, .int .u64 0] 26) = V := ⟨_, rfl⟩
              rw [hV] at b_g10 la ⊢
              clear hV
              have hne : g11 ≠ U2.heap.size := by have := b_g11.lt; omega
              generalize U2.heap.size = g10 at *
              have b_g11 := b_g11.later la
              have L3 := L2.trans la
              refine hK.out _ _ L3 (fun hHeld3 => ?_)
              clear hK K
              try simp only [Act.put, List.getElem_toArray, List.getElem_cons_succ, List.getElem_cons_zero, List.setIfInBounds_toArray, List.set_cons_zero, List.set_cons_succ]
              clear la
              refine wpAnyH_ready (rs := [2]) (by kernel_rfl) (by simp) (AllReadyH.cons rfl (fun K hK => ?_) AllReadyH.nil)
              go_simp
              refine (HW16 _).mono ?_
              rintro e U4 ⟨rfl, la⟩
              have b_g11 := b_g11.later la
              have b_g10 := b_g10.later la
              have L4 := L3.trans la
              refine hK.out _ _ L4 (fun hHeld4 => ?_)
              clear hK K
              try simp only [Act.put, List.getElem_toArray, List.getElem_cons_succ, List.getElem_cons_zero, List.setIfInBounds_toArray, List.set_cons_zero, List.set_cons_succ]
              clear la
              refine wpAnyH_take (i := 3) (v := .tuple #[.agg #[.int .u64 o15.a0, .int .u64 o15.a1, .int .u64 o15.a2, .int .u64 o15.a3, .int .u64 o15.a4, .int .u64 o15.a5, .int .u64 o15.a6, .int .u64 o15.a7], .agg #[.int .u64 (t16 : Int)], .int .i64 0]) rfl (by kernel_rfl) (by kernel_rfl) (by kernel_rfl) (fun _ _ _ h => h) (Or.inl ⟨by rfl, by intro w' hS; go_simp⟩) hHeld4 ?_
              simp only [Act.put, List.getElem_toArray, List.getElem_cons_succ, List.getElem_cons_zero, List.setIfInBounds_toArray, List.set_cons_zero, List.set_cons_succ]
              refine wpAnyH_take (i := 4) (v := .agg #[.int .u64 o15.a0, .int .u64 o15.a1, .int .u64 o15.a2, .int .u64 o15.a3, .int .u64 o15.a4, .int .u64 o15.a5, .int .u64 o15.a6, .int .u64 o15.a7]) rfl (by kernel_rfl) (by kernel_rfl) (by kernel_rfl) (fun _ _ _ h => h) (Or.inl ⟨by rfl, by intro w' hS; go_simp⟩) hHeld4 ?_
              simp only [Act.put, List.getElem_toArray, List.getElem_cons_succ, List.getElem_cons_zero, List.setIfInBounds_toArray, List.set_cons_zero, List.set_cons_succ]
              refine wpAnyH_take (i := 5) (v := .agg #[.int .u64 (t16 : Int)]) rfl (by kernel_rfl) (by kernel_rfl) (by kernel_rfl) (fun _ _ _ h => h) (Or.inl ⟨by rfl, by intro w' hS; go_simp⟩) hHeld4 ?_
              simp only [Act.put, List.getElem_toArray, List.getElem_cons_succ, List.getElem_cons_zero, List.setIfInBounds_toArray, List.set_cons_zero, List.set_cons_succ]
              refine wpAnyH_take (i := 6) (v := .int .i64 0) rfl (by kernel_rfl) (by kernel_rfl) (by kernel_rfl) (fun _ _ _ h => h) (Or.inl ⟨by rfl, by intro w' hS; go_simp⟩) hHeld4 ?_
              simp only [Act.put, List.getElem_toArray, List.getElem_cons_succ, List.getElem_cons_zero, List.setIfInBounds_toArray, List.set_cons_zero, List.set_cons_succ]
              refine wpAnyH_ready (rs := [9]) (by kernel_rfl) (by simp) (AllReadyH.cons rfl (fun K hK => ?_) AllReadyH.nil)
              rw [if_pos (by rfl)]
              refine wp_store_mid 26 (.tmp 10) (.tmp 47) rfl g10 0 #[.int .u64 o15.a0, .int .u64 o15.a1, .int .u64 o15.a2, .int .u64 o15.a3, .int .u64 o15.a4, .int .u64 o15.a5, .int .u64 o15.a6, .int .u64 o15.a7] rfl rfl (b_g10.thereAll _ rfl) (by kernel_rfl) (by simp [Value.oneCell']) ?_
              have ks_g10 := b_g10.setCells #[.int .u64 o15.a0, .int .u64 o15.a1, .int .u64 o15.a2, .int .u64 o15.a3, .int .u64 o15.a4, .int .u64 o15.a5, .int .u64 o15.a6, .int .u64 o15.a7] rfl
              have lpS : LatP (· = g10) U4 (U4.setCells g10 0 (#[.int .u64 o15.a0, .int .u64 o15.a1, .int .u64 o15.a2, .int .u64 o15.a3, .int .u64 o15.a4, .int .u64 o15.a5, .int .u64 o15.a6, .int .u64 o15.a7] : Array Value).toList) := LatP.setCells _ _ _
              have U20L : Lat V (U4.setCells g10 0 (#[.int .u64 o15.a0, .int .u64 o15.a1, .int .u64 o15.a2, .int .u64 o15.a3, .int .u64 o15.a4, .int .u64 o15.a5, .int .u64 o15.a6, .int .u64 o15.a7] : Array Value).toList) := Lat.setCells h_g10 _ _ _ L4
              have ks_g11 := b_g11.keepP lpS (by omega)
              obtain ⟨U20, hV9⟩ : ∃ V, U4.setCells g10 0 (#[.int .u64 o15.a0, .int .u64 o15.a1, .int .u64 o15.a2, .int .u64 o15.a3, .int .u64 o15.a4, .int .u64 o15.a5, .int .u64 o15.a6, .int .u64 o15.a7] : Array Value).toList = V := ⟨_, rfl⟩
              rw [hV9] at ks_g11 ks_g10 U20L ⊢
              clear hV9 lpS
              refine hK.out _ _ U20L (fun hHeld5 => ?_)
              clear hK K
              try simp only [Act.put, List.getElem_toArray, List.getElem_cons_succ, List.getElem_cons_zero, List.setIfInBounds_toArray, List.set_cons_zero, List.set_cons_succ]
              refine wpAnyH_ready (rs := [10]) (by kernel_rfl) (by simp) (AllReadyH.cons rfl (fun K hK => ?_) AllReadyH.nil)
              rw [if_pos (by rfl)]
              refine wp_store_mid 24 (.tmp 11) (.tmp 48) rfl g11 0 #[.int .u64 (t16 : Int)] rfl rfl (ks_g11.thereAll _ rfl) (by kernel_rfl) (by simp [Value.oneCell']) ?_
              have ks_g11 := ks_g11.setCells #[.int .u64 (t16 : Int)] rfl
              have lpS : LatP (· = g11) U20 (U20.setCells g11 0 (#[.int .u64 (t16 : Int)] : Array Value).toList) := LatP.setCells _ _ _
              have U21L : Lat V (U20.setCells g11 0 (#[.int .u64 (t16 : Int)] : Array Value).toList) := Lat.setCells h_g11 _ _ _ U20L
              have ks_g10 := ks_g10.keepP lpS (by omega)
              obtain ⟨U21, hV9⟩ : ∃ V, U20.setCells g11 0 (#[.int .u64 (t16 : Int)] : Array Value).toList = V := ⟨_, rfl⟩
              rw [hV9] at ks_g11 ks_g10 U21L ⊢
              clear hV9 lpS
              refine hK.out _ _ U21L (fun hHeld6 => ?_)
              clear hK K
              try simp only [Act.put, List.getElem_toArray, List.getElem_cons_succ, List.getElem_cons_zero, List.setIfInBounds_toArray, List.set_cons_zero, List.set_cons_succ]
              refine wpAnyH_take (i := 11) (v := .int .i64 0) rfl (by kernel_rfl) (by kernel_rfl) (by kernel_rfl) (fun _ _ _ h => h) (Or.inl ⟨by rfl, by intro w' hS; go_simp⟩) hHeld6 ?_
              simp only [Act.put, List.getElem_toArray, List.getElem_cons_succ, List.getElem_cons_zero, List.setIfInBounds_toArray, List.set_cons_zero, List.set_cons_succ]
              refine wpAnyH_done (by kernel_rfl) ?_ _
              exact TAIL12 _ _ _ _ _ _ _ _ _ _ _ _ _ _ _ _ _ _ _ _ _ _ _ _ _ _ _ _ _ _ _ _ _ _ _ _ _ _ _ _ _ _ _ _ _ _ _ _ _ _ _ _ _ _ _ _ _ _ _ _ _ _ _ _ _ _ _ _ _ _ _ _ _ _ _ _ _ _ _ _ _ _ _ _ _ _ _ _ _ _ _ _ _ _ _ _ _ _ _ _ _ _ _ _ _ _ _ _ _ _ _ _ _ _ _ _ _ _ _ _ _ _ _ _ _ _ _ _ _ _ _ _ _ _ _ _ _ _ _ _ _ _ _ _ _ _ _ _ _ _ _ _ _ _ _ _ _ _ _ _ _ _ _ _ _ g10 g11 U21 (LV.trans U21L) (k6.later U21L) (k7.later U21L) (k8.later U21L) ks_g10
          · skip
            go_simp
            have b_g10 := Blk.new U1 26 #[.int .u64 0, .int .u64 0, .int .u64 0, .int .u64 0, .int .u64 0, .int .u64 0, .int .u64 0, .int .u64 0]
            have h_g10 : V.heap.size ≤ U1.heap.size := L1.size
            have la := Lat.alloc U1 (.cells #[.int .u64 0, .int .u64 0, .int .u64 0, .int .u64 0, .int .u64 0, .int .u64 0, .int .u64 0, .int .u64 0] 26)
            obtain ⟨U2, hV⟩ : ∃ V, U1.alloc (.cells #[.int .u64 0, .int .u64 0, .int .u64 0, .int .u64 0, .int .u64 0, .int .u64 0, .int .u64 0, .int .u64 0] 26) = V := ⟨_, rfl⟩
            rw [hV] at b_g10 la ⊢
            clear hV
            have hne : g11 ≠ U1.heap.size := by have := b_g11.lt; omega
            generalize U1.heap.size = g10 at *
            have b_g11 := b_g11.later la
            have L2 := L1.trans la
            refine hK.out _ _ L2 (fun hHeld2 => ?_)
            clear hK K
            try simp only [Act.put, List.getElem_toArray, List.getElem_cons_succ, List.getElem_cons_zero, List.setIfInBounds_toArray, List.set_cons_zero, List.set_cons_succ]
            clear la
            refine wpAnyH_ready (rs := [1]) (by kernel_rfl) (by simp) (AllReadyH.cons rfl (fun K hK => ?_) AllReadyH.nil)
            go_simp
            refine (HO16 _).mono ?_
            rintro e U3 ⟨rfl, la⟩
            have b_g11 := b_g11.later la
            have b_g10 := b_g10.later la
            have L3 := L2.trans la
            refine hK.out _ _ L3 (fun hHeld3 => ?_)
            clear hK K
            try simp only [Act.put, List.getElem_toArray, List.getElem_cons_succ, List.getElem_cons_zero, List.setIfInBounds_toArray, List.set_cons_zero, List.set_cons_succ]
            clear la
            refine wpAnyH_ready (rs := [2]) (by kernel_rfl) (by simp) (AllReadyH.cons rfl (fun K hK => ?_) AllReadyH.nil)
            go_simp
            refine (HW16 _).mono ?_
            rintro e U4 ⟨rfl, la⟩
            have b_g11 := b_g11.later la
            have b_g10 := b_g10.later la
            have L4 := L3.trans la
            refine hK.out _ _ L4 (fun hHeld4 => ?_)
            clear hK K
            try simp only [Act.put, List.getElem_toArray, List.getElem_cons_succ, List.getElem_cons_zero, List.setIfInBounds_toArray, List.set_cons_zero, List.set_cons_succ]
            clear la
            refine wpAnyH_take (i := 3) (v := .tuple #[.agg #[.int .u64 o15.a0, .int .u64 o15.a1, .int .u64 o15.a2, .int .u64 o15.a3, .int .u64 o15.a4, .int .u64 o15.a5, .int .u64 o15.a6, .int .u64 o15.a7], .agg #[.int .u64 (t16 : Int)], .int .i64 0]) rfl (by kernel_rfl) (by kernel_rfl) (by kernel_rfl) (fun _ _ _ h => h) (Or.inl ⟨by rfl, by intro w' hS; go_simp⟩) hHeld4 ?_
            simp only [Act.put, List.getElem_toArray, List.getElem_cons_succ, List.getElem_cons_zero, List.setIfInBounds_toArray, List.set_cons_zero, List.set_cons_succ]
            refine wpAnyH_take (i := 4) (v := .agg #[.int .u64 o15.a0, .int .u64 o15.a1, .int .u64 o15.a2, .int .u64 o15.a3, .int .u64 o15.a4, .int .u64 o15.a5, .int .u64 o15.a6, .int .u64 o15.a7]) rfl (by kernel_rfl) (by kernel_rfl) (by kernel_rfl) (fun _ _ _ h => h) (Or.inl ⟨by rfl, by intro w' hS; go_simp⟩) hHeld4 ?_
            simp only [Act.put, List.getElem_toArray, List.getElem_cons_succ, List.getElem_cons_zero, List.setIfInBounds_toArray, List.set_cons_zero, List.set_cons_succ]
            refine wpAnyH_take (i := 5) (v := .agg #[.int .u64 (t16 : Int)]) rfl (by kernel_rfl) (by kernel_rfl) (by kernel_rfl) (fun _ _ _ h => h) (Or.inl ⟨by rfl, by intro w' hS; go_simp⟩) hHeld4 ?_
            simp only [Act.put, List.getElem_toArray, List.getElem_cons_succ, List.getElem_cons_zero, List.setIfInBounds_toArray, List.set_cons_zero, List.set_cons_succ]
            refine wpAnyH_take (i := 6) (v := .int .i64 0) rfl (by kernel_rfl) (by kernel_rfl) (by kernel_rfl) (fun _ _ _ h => h) (Or.inl ⟨by rfl, by intro w' hS; go_simp⟩) hHeld4 ?_
            simp only [Act.put, List.getElem_toArray, List.getElem_cons_succ, List.getElem_cons_zero, List.setIfInBounds_toArray, List.set_cons_zero, List.set_cons_succ]
            refine wpAnyH_ready (rs := [9]) (by kernel_rfl) (by simp) (AllReadyH.cons rfl (fun K hK => ?_) AllReadyH.nil)
            rw [if_pos (by rfl)]
            refine wp_store_mid 26 (.tmp 10) (.tmp 47) rfl g10 0 #[.int .u64 o15.a0, .int .u64 o15.a1, .int .u64 o15.a2, .int .u64 o15.a3, .int .u64 o15.a4, .int .u64 o15.a5, .int .u64 o15.a6, .int .u64 o15.a7] rfl rfl (b_g10.thereAll _ rfl) (by kernel_rfl) (by simp [Value.oneCell']) ?_
            have ks_g10 := b_g10.setCells #[.int .u64 o15.a0, .int .u64 o15.a1, .int .u64 o15.a2, .int .u64 o15.a3, .int .u64 o15.a4, .int .u64 o15.a5, .int .u64 o15.a6, .int .u64 o15.a7] rfl
            have lpS : LatP (· = g10) U4 (U4.setCells g10 0 (#[.int .u64 o15.a0, .int .u64 o15.a1, .int .u64 o15.a2, .int .u64 o15.a3, .int .u64 o15.a4, .int .u64 o15.a5, .int .u64 o15.a6, .int .u64 o15.a7] : Array Value).toList) := LatP.setCells _ _ _
            have U20L : Lat V (U4.setCells g10 0 (#[.int .u64 o15.a0, .int .u64 o15.a1, .int .u64 o15.a2, .int .u64 o15.a3, .int .u64 o15.a4, .int .u64 o15.a5, .int .u64 o15.a6, .int .u64 o15.a7] : Array Value).toList) := Lat.setCells h_g10 _ _ _ L4
            have ks_g11 := b_g11.keepP lpS (by omega)
            obtain ⟨U20, hV9⟩ : ∃ V, U4.setCells g10 0 (#[.int .u64 o15.a0, .int .u64 o15.a1, .int .u64 o15.a2, .int .u64 o15.a3, .int .u64 o15.a4, .int .u64 o15.a5, .int .u64 o15.a6, .int .u64 o15.a7] : Array Value).toList = V := ⟨_, rfl⟩
            rw [hV9] at ks_g11 ks_g10 U20L ⊢
            clear hV9 lpS
            refine hK.out _ _ U20L (fun hHeld5 => ?_)
            clear hK K
            try simp only [Act.put, List.getElem_toArray, List.getElem_cons_succ, List.getElem_cons_zero, List.setIfInBounds_toArray, List.set_cons_zero, List.set_cons_succ]
            refine wpAnyH_ready (rs := [10]) (by kernel_rfl) (by simp) (AllReadyH.cons rfl (fun K hK => ?_) AllReadyH.nil)
            rw [if_pos (by rfl)]
            refine wp_store_mid 24 (.tmp 11) (.tmp 48) rfl g11 0 #[.int .u64 (t16 : Int)] rfl rfl (ks_g11.thereAll _ rfl) (by kernel_rfl) (by simp [Value.oneCell']) ?_
            have ks_g11 := ks_g11.setCells #[.int .u64 (t16 : Int)] rfl
            have lpS : LatP (· = g11) U20 (U20.setCells g11 0 (#[.int .u64 (t16 : Int)] : Array Value).toList) := LatP.setCells _ _ _
            have U21L : Lat V (U20.setCells g11 0 (#[.int .u64 (t16 : Int)] : Array Value).toList) := Lat.setCells h_g11 _ _ _ U20L
            have ks_g10 := ks_g10.keepP lpS (by omega)
            obtain ⟨U21, hV9⟩ : ∃ V, U20.setCells g11 0 (#[.int .u64 (t16 : Int)] : Array Value).toList = V := ⟨_, rfl⟩
            rw [hV9] at ks_g11 ks_g10 U21L ⊢
            clear hV9 lpS
            refine hK.out _ _ U21L (fun hHeld6 => ?_)
            clear hK K
            try simp only [Act.put, List.getElem_toArray, List.getElem_cons_succ, List.getElem_cons_zero, List.setIfInBounds_toArray, List.set_cons_zero, List.set_cons_succ]
            refine wpAnyH_take (i := 11) (v := .int .i64 0) rfl (by kernel_rfl) (by kernel_rfl) (by kernel_rfl) (fun _ _ _ h => h) (Or.inl ⟨by rfl, by intro w' hS; go_simp⟩) hHeld6 ?_
            simp only [Act.put, List.getElem_toArray, List.getElem_cons_succ, List.getElem_cons_zero, List.setIfInBounds_toArray, List.set_cons_zero, List.set_cons_succ]
            refine wpAnyH_done (by kernel_rfl) ?_ _
            exact TAIL12 _ _ _ _ _ _ _ _ _ _ _ _ _ _ _ _ _ _ _ _ _ _ _ _ _ _ _ _ _ _ _ _ _ _ _ _ _ _ _ _ _ _ _ _ _ _ _ _ _ _ _ _ _ _ _ _ _ _ _ _ _ _ _ _ _ _ _ _ _ _ _ _ _ _ _ _ _ _ _ _ _ _ _ _ _ _ _ _ _ _ _ _ _ _ _ _ _ _ _ _ _ _ _ _ _ _ _ _ _ _ _ _ _ _ _ _ _ _ _ _ _ _ _ _ _ _ _ _ _ _ _ _ _ _ _ _ _ _ _ _ _ _ _ _ _ _ _ _ _ _ _ _ _ _ _ _ _ _ _ _ _ _ _ _ _ g10 g11 U21 (LV.trans U21L) (k6.later U21L) (k7.later U21L) (k8.later U21L) ks_g10
      clear hK11 HS1 HS4
      as_aux_lemma =>
      have L0 := Lat.drew Va
      have R6 : ∀ w', Lat Va w' → w'.cell? ⟨g6, 0, none⟩ = some (.int .u64 0) := fun w' h => (k6.later h).cell 0
      refine wp_region_held_drew (S := fun w' => Lat Va w') (by kernel_rfl) L0 (fun hHeld => ?_)
      generalize Va.drew = U0 at L0 hHeld ⊢
      refine wpAnyH_take (i := 0) (v := .agg #[.int .u64 0]) rfl (by kernel_rfl) (by kernel_rfl) (by kernel_rfl) (fun _ _ _ h => h) (Or.inl ⟨by rfl, by intro w' hS; have hc := R6 w' hS; go_simp⟩) hHeld ?_
      simp only [Act.put, List.getElem_toArray, List.getElem_cons_succ, List.getElem_cons_zero, List.setIfInBounds_toArray, List.set_cons_zero, List.set_cons_succ]
      refine wpAnyH_ready (rs := [1, 7, 8]) (by kernel_rfl) (by simp) (AllReadyH.cons rfl (fun K hK => ?_) (AllReadyH.cons rfl (fun K hK => ?_) (AllReadyH.cons rfl (fun K hK => ?_) AllReadyH.nil)))
      · skip
        go_simp
        refine (HO1 _).mono ?_
        rintro e U1 ⟨rfl, la⟩
        have L1 := L0.trans la
        refine hK.out _ _ L1 (fun hHeld1 => ?_)
        clear hK K
        try simp only [Act.put, List.getElem_toArray, List.getElem_cons_succ, List.getElem_cons_zero, List.setIfInBounds_toArray, List.set_cons_zero, List.set_cons_succ]
        clear la
        refine wpAnyH_ready (rs := [2, 7, 8]) (by kernel_rfl) (by simp) (AllReadyH.cons rfl (fun K hK => ?_) (AllReadyH.cons rfl (fun K hK => ?_) (AllReadyH.cons rfl (fun K hK => ?_) AllReadyH.nil)))
        · skip
          go_simp
          refine (HW1 _).mono ?_
          rintro e U2 ⟨rfl, la⟩
          have L2 := L1.trans la
          refine hK.out _ _ L2 (fun hHeld2 => ?_)
          clear hK K
          try simp only [Act.put, List.getElem_toArray, List.getElem_cons_succ, List.getElem_cons_zero, List.setIfInBounds_toArray, List.set_cons_zero, List.set_cons_succ]
          clear la
          refine wpAnyH_take (i := 3) (v := .tuple #[.agg #[.int .u64 o0.a0, .int .u64 o0.a1, .int .u64 o0.a2, .int .u64 o0.a3, .int .u64 o0.a4, .int .u64 o0.a5, .int .u64 o0.a6, .int .u64 o0.a7], .agg #[.int .u64 0], .int .i64 0]) rfl (by kernel_rfl) (by kernel_rfl) (by kernel_rfl) (fun _ _ _ h => h) (Or.inl ⟨by rfl, by intro w' hS; go_simp⟩) hHeld2 ?_
          simp only [Act.put, List.getElem_toArray, List.getElem_cons_succ, List.getElem_cons_zero, List.setIfInBounds_toArray, List.set_cons_zero, List.set_cons_succ]
          refine wpAnyH_take (i := 4) (v := .agg #[.int .u64 o0.a0, .int .u64 o0.a1, .int .u64 o0.a2, .int .u64 o0.a3, .int .u64 o0.a4, .int .u64 o0.a5, .int .u64 o0.a6, .int .u64 o0.a7]) rfl (by kernel_rfl) (by kernel_rfl) (by kernel_rfl) (fun _ _ _ h => h) (Or.inl ⟨by rfl, by intro w' hS; go_simp⟩) hHeld2 ?_
          simp only [Act.put, List.getElem_toArray, List.getElem_cons_succ, List.getElem_cons_zero, List.setIfInBounds_toArray, List.set_cons_zero, List.set_cons_succ]
          refine wpAnyH_take (i := 5) (v := .agg #[.int .u64 0]) rfl (by kernel_rfl) (by kernel_rfl) (by kernel_rfl) (fun _ _ _ h => h) (Or.inl ⟨by rfl, by intro w' hS; go_simp⟩) hHeld2 ?_
          simp only [Act.put, List.getElem_toArray, List.getElem_cons_succ, List.getElem_cons_zero, List.setIfInBounds_toArray, List.set_cons_zero, List.set_cons_succ]
          refine wpAnyH_take (i := 6) (v := .int .i64 0) rfl (by kernel_rfl) (by kernel_rfl) (by kernel_rfl) (fun _ _ _ h => h) (Or.inl ⟨by rfl, by intro w' hS; go_simp⟩) hHeld2 ?_
          simp only [Act.put, List.getElem_toArray, List.getElem_cons_succ, List.getElem_cons_zero, List.setIfInBounds_toArray, List.set_cons_zero, List.set_cons_succ]
          refine wpAnyH_ready (rs := [7, 8]) (by kernel_rfl) (by simp) (AllReadyH.cons rfl (fun K hK => ?_) (AllReadyH.cons rfl (fun K hK => ?_) AllReadyH.nil))
          · skip
            go_simp
            have b_g7 := Blk.new U2 26 #[.int .u64 0, .int .u64 0, .int .u64 0, .int .u64 0, .int .u64 0, .int .u64 0, .int .u64 0, .int .u64 0]
            have h_g7 : Va.heap.size ≤ U2.heap.size := L2.size
            have la := Lat.alloc U2 (.cells #[.int .u64 0, .int .u64 0, .int .u64 0, .int .u64 0, .int .u64 0, .int .u64 0, .int .u64 0, .int .u64 0] 26)
            obtain ⟨U3, hV⟩ : ∃ V, U2.alloc (.cells #[.int .u64 0, .int .u64 0, .int .u64 0, .int .u64 0, .int .u64 0, .int .u64 0, .int .u64 0, .int .u64 0] 26) = V := ⟨_, rfl⟩
            rw [hV] at b_g7 la ⊢
            clear hV
            generalize U2.heap.size = g7 at *
            have L3 := L2.trans la
            refine hK.out _ _ L3 (fun hHeld3 => ?_)
            clear hK K
            try simp only [Act.put, List.getElem_toArray, List.getElem_cons_succ, List.getElem_cons_zero, List.setIfInBounds_toArray, List.set_cons_zero, List.set_cons_succ]
            clear la
            refine wpAnyH_ready (rs := [8]) (by kernel_rfl) (by simp) (AllReadyH.cons rfl (fun K hK => ?_) AllReadyH.nil)
            go_simp
            have b_g8 := Blk.new U3 24 #[.int .u64 0]
            have h_g8 : Va.heap.size ≤ U3.heap.size := L3.size
            have la := Lat.alloc U3 (.cells #[.int .u64 0] 24)
            obtain ⟨U4, hV⟩ : ∃ V, U3.alloc (.cells #[.int .u64 0] 24) = V := ⟨_, rfl⟩
            rw [hV] at b_g8 la ⊢
            clear hV
            have hne : g7 ≠ U3.heap.size := by have := b_g7.lt; omega
            generalize U3.heap.size = g8 at *
            have b_g7 := b_g7.later la
            have L4 := L3.trans la
            refine hK.out _ _ L4 (fun hHeld4 => ?_)
            clear hK K
            try simp only [Act.put, List.getElem_toArray, List.getElem_cons_succ, List.getElem_cons_zero, List.setIfInBounds_toArray, List.set_cons_zero, List.set_cons_succ]
            clear la
            refine wpAnyH_ready (rs := [9]) (by kernel_rfl) (by simp) (AllReadyH.cons rfl (fun K hK => ?_) AllReadyH.nil)
            rw [if_pos (by rfl)]
            refine wp_store_mid 26 (.tmp 7) (.tmp 40) rfl g7 0 #[.int .u64 o0.a0, .int .u64 o0.a1, .int .u64 o0.a2, .int .u64 o0.a3, .int .u64 o0.a4, .int .u64 o0.a5, .int .u64 o0.a6, .int .u64 o0.a7] rfl rfl (b_g7.thereAll _ rfl) (by kernel_rfl) (by simp [Value.oneCell']) ?_
            have ks_g7 := b_g7.setCells #[.int .u64 o0.a0, .int .u64 o0.a1, .int .u64 o0.a2, .int .u64 o0.a3, .int .u64 o0.a4, .int .u64 o0.a5, .int .u64 o0.a6, .int .u64 o0.a7] rfl
            have lpS : LatP (· = g7) U4 (U4.setCells g7 0 (#[.int .u64 o0.a0, .int .u64 o0.a1, .int .u64 o0.a2, .int .u64 o0.a3, .int .u64 o0.a4, .int .u64 o0.a5, .int .u64 o0.a6, .int .u64 o0.a7] : Array Value).toList) := LatP.setCells _ _ _
            have U20L : Lat Va (U4.setCells g7 0 (#[.int .u64 o0.a0, .int .u64 o0.a1, .int .u64 o0.a2, .int .u64 o0.a3, .int .u64 o0.a4, .int .u64 o0.a5, .int .u64 o0.a6, .int .u64 o0.a7] : Array Value).toList) := Lat.setCells h_g7 _ _ _ L4
            have ks_g8 := b_g8.keepP lpS (by omega)
            obtain ⟨U20, hV9⟩ : ∃ V, U4.setCells g7 0 (#[.int .u64 o0.a0, .int .u64 o0.a1, .int .u64 o0.a2, .int .u64 o0.a3, .int .u64 o0.a4, .int .u64 o0.a5, .int .u64 o0.a6, .int .u64 o0.a7] : Array Value).toList = V := ⟨_, rfl⟩
            rw [hV9] at ks_g7 ks_g8 U20L ⊢
            clear hV9 lpS
            refine hK.out _ _ U20L (fun hHeld5 => ?_)
            clear hK K
            try simp only [Act.put, List.getElem_toArray, List.getElem_cons_succ, List.getElem_cons_zero, List.setIfInBounds_toArray, List.set_cons_zero, List.set_cons_succ]
            refine wpAnyH_ready (rs := [10]) (by kernel_rfl) (by simp) (AllReadyH.cons rfl (fun K hK => ?_) AllReadyH.nil)
            rw [if_pos (by rfl)]
            refine wp_store_mid 24 (.tmp 8) (.tmp 41) rfl g8 0 #[.int .u64 0] rfl rfl (ks_g8.thereAll _ rfl) (by kernel_rfl) (by simp [Value.oneCell']) ?_
            have ks_g8 := ks_g8.setCells #[.int .u64 0] rfl
            have lpS : LatP (· = g8) U20 (U20.setCells g8 0 (#[.int .u64 0] : Array Value).toList) := LatP.setCells _ _ _
            have U21L : Lat Va (U20.setCells g8 0 (#[.int .u64 0] : Array Value).toList) := Lat.setCells h_g8 _ _ _ U20L
            have ks_g7 := ks_g7.keepP lpS (by omega)
            obtain ⟨U21, hV9⟩ : ∃ V, U20.setCells g8 0 (#[.int .u64 0] : Array Value).toList = V := ⟨_, rfl⟩
            rw [hV9] at ks_g7 ks_g8 U21L ⊢
            clear hV9 lpS
            refine hK.out _ _ U21L (fun hHeld6 => ?_)
            clear hK K
            try simp only [Act.put, List.getElem_toArray, List.getElem_cons_succ, List.getElem_cons_zero, List.setIfInBounds_toArray, List.set_cons_zero, List.set_cons_succ]
            refine wpAnyH_take (i := 11) (v := .int .i64 0) rfl (by kernel_rfl) (by kernel_rfl) (by kernel_rfl) (fun _ _ _ h => h) (Or.inl ⟨by rfl, by intro w' hS; go_simp⟩) hHeld6 ?_
            simp only [Act.put, List.getElem_toArray, List.getElem_cons_succ, List.getElem_cons_zero, List.setIfInBounds_toArray, List.set_cons_zero, List.set_cons_succ]
            refine wpAnyH_done (by kernel_rfl) ?_ _
            exact TAIL11 _ _ _ _ _ _ _ _ _ _ _ _ _ _ _ _ _ _ _ _ _ _ _ _ _ _ _ _ _ _ _ _ _ _ _ _ _ _ _ _ _ _ _ _ _ _ _ _ _ _ _ _ _ _ _ _ _ _ _ _ _ _ _ _ _ _ _ _ _ _ _ _ _ _ _ _ _ _ _ _ _ _ _ _ _ _ _ _ _ _ _ _ _ _ _ _ _ _ _ _ _ _ _ _ _ _ _ _ _ _ _ _ _ _ _ _ _ _ _ _ _ _ _ _ _ _ _ _ _ _ _ _ _ _ _ _ _ _ _ _ _ _ _ _ _ _ _ _ _ _ _ _ _ _ _ _ _ _ _ _ _ _ _ _ _ _ _ g7 g8 U21 (LA.trans U21L) (k6.later U21L) ks_g7 ks_g8
          · skip
            go_simp
            have b_g8 := Blk.new U2 24 #[.int .u64 0]
            have h_g8 : Va.heap.size ≤ U2.heap.size := L2.size
            have la := Lat.alloc U2 (.cells #[.int .u64 0] 24)
            obtain ⟨U3, hV⟩ : ∃ V, U2.alloc (.cells #[.int .u64 0] 24) = V := ⟨_, rfl⟩
            rw [hV] at b_g8 la ⊢
            clear hV
            generalize U2.heap.size = g8 at *
            have L3 := L2.trans la
            refine hK.out _ _ L3 (fun hHeld3 => ?_)
            clear hK K
            try simp only [Act.put, List.getElem_toArray, List.getElem_cons_succ, List.getElem_cons_zero, List.setIfInBounds_toArray, List.set_cons_zero, List.set_cons_succ]
            clear la
            refine wpAnyH_ready (rs := [7]) (by kernel_rfl) (by simp) (AllReadyH.cons rfl (fun K hK => ?_) AllReadyH.nil)
            go_simp
            have b_g7 := Blk.new U3 26 #[.int .u64 0, .int .u64 0, .int .u64 0, .int .u64 0, .int .u64 0, .int .u64 0, .int .u64 0, .int .u64 0]
            have h_g7 : Va.heap.size ≤ U3.heap.size := L3.size
            have la := Lat.alloc U3 (.cells #[.int .u64 0, .int .u64 0, .int .u64 0, .int .u64 0, .int .u64 0, .int .u64 0, .int .u64 0, .int .u64 0] 26)
            obtain ⟨U4, hV⟩ : ∃ V, U3.alloc (.cells #[.int .u64 0, .int .u64 0, .int .u64 0, .int .u64 0, .int .u64 0, .int .u64 0, .int .u64 0, .int .u64 0] 26) = V := ⟨_, rfl⟩
            rw [hV] at b_g7 la ⊢
            clear hV
            have hne : g8 ≠ U3.heap.size := by have := b_g8.lt; omega
            generalize U3.heap.size = g7 at *
            have b_g8 := b_g8.later la
            have L4 := L3.trans la
            refine hK.out _ _ L4 (fun hHeld4 => ?_)
            clear hK K
            try simp only [Act.put, List.getElem_toArray, List.getElem_cons_succ, List.getElem_cons_zero, List.setIfInBounds_toArray, List.set_cons_zero, List.set_cons_succ]
            clear la
            refine wpAnyH_ready (rs := [9]) (by kernel_rfl) (by simp) (AllReadyH.cons rfl (fun K hK => ?_) AllReadyH.nil)
            rw [if_pos (by rfl)]
            refine wp_store_mid 26 (.tmp 7) (.tmp 40) rfl g7 0 #[.int .u64 o0.a0, .int .u64 o0.a1, .int .u64 o0.a2, .int .u64 o0.a3, .int .u64 o0.a4, .int .u64 o0.a5, .int .u64 o0.a6, .int .u64 o0.a7] rfl rfl (b_g7.thereAll _ rfl) (by kernel_rfl) (by simp [Value.oneCell']) ?_
            have ks_g7 := b_g7.setCells #[.int .u64 o0.a0, .int .u64 o0.a1, .int .u64 o0.a2, .int .u64 o0.a3, .int .u64 o0.a4, .int .u64 o0.a5, .int .u64 o0.a6, .int .u64 o0.a7] rfl
            have lpS : LatP (· = g7) U4 (U4.setCells g7 0 (#[.int .u64 o0.a0, .int .u64 o0.a1, .int .u64 o0.a2, .int .u64 o0.a3, .int .u64 o0.a4, .int .u64 o0.a5, .int .u64 o0.a6, .int .u64 o0.a7] : Array Value).toList) := LatP.setCells _ _ _
            have U20L : Lat Va (U4.setCells g7 0 (#[.int .u64 o0.a0, .int .u64 o0.a1, .int .u64 o0.a2, .int .u64 o0.a3, .int .u64 o0.a4, .int .u64 o0.a5, .int .u64 o0.a6, .int .u64 o0.a7] : Array Value).toList) := Lat.setCells h_g7 _ _ _ L4
            have ks_g8 := b_g8.keepP lpS (by omega)
            obtain ⟨U20, hV9⟩ : ∃ V, U4.setCells g7 0 (#[.int .u64 o0.a0, .int .u64 o0.a1, .int .u64 o0.a2, .int .u64 o0.a3, .int .u64 o0.a4, .int .u64 o0.a5, .int .u64 o0.a6, .int .u64 o0.a7] : Array Value).toList = V := ⟨_, rfl⟩
            rw [hV9] at ks_g8 ks_g7 U20L ⊢
            clear hV9 lpS
            refine hK.out _ _ U20L (fun hHeld5 => ?_)
            clear hK K
            try simp only [Act.put, List.getElem_toArray, List.getElem_cons_succ, List.getElem_cons_zero, List.setIfInBounds_toArray, List.set_cons_zero, List.set_cons_succ]
            refine wpAnyH_ready (rs := [10]) (by kernel_rfl) (by simp) (AllReadyH.cons rfl (fun K hK => ?_) AllReadyH.nil)
            rw [if_pos (by rfl)]
            refine wp_store_mid 24 (.tmp 8) (.tmp 41) rfl g8 0 #[.int .u64 0] rfl rfl (ks_g8.thereAll _ rfl) (by kernel_rfl) (by simp [Value.oneCell']) ?_
            have ks_g8 := ks_g8.setCells #[.int .u64 0] rfl
            have lpS : LatP (· = g8) U20 (U20.setCells g8 0 (#[.int .u64 0] : Array Value).toList) := LatP.setCells _ _ _
            have U21L : Lat Va (U20.setCells g8 0 (#[.int .u64 0] : Array Value).toList) := Lat.setCells h_g8 _ _ _ U20L
            have ks_g7 := ks_g7.keepP lpS (by omega)
            obtain ⟨U21, hV9⟩ : ∃ V, U20.setCells g8 0 (#[.int .u64 0] : Array Value).toList = V := ⟨_, rfl⟩
            rw [hV9] at ks_g8 ks_g7 U21L ⊢
            clear hV9 lpS
            refine hK.out _ _ U21L (fun hHeld6 => ?_)
            clear hK K
            try simp only [Act.put, List.getElem_toArray, List.getElem_cons_succ, List.getElem_cons_zero, List.setIfInBounds_toArray, List.set_cons_zero, List.set_cons_succ]
            refine wpAnyH_take (i := 11) (v := .int .i64 0) rfl (by kernel_rfl) (by kernel_rfl) (by kernel_rfl) (fun _ _ _ h => h) (Or.inl ⟨by rfl, by intro w' hS; go_simp⟩) hHeld6 ?_
            simp only [Act.put, List.getElem_toArray, List.getElem_cons_succ, List.getElem_cons_zero, List.setIfInBounds_toArray, List.set_cons_zero, List.set_cons_succ]
            refine wpAnyH_done (by kernel_rfl) ?_ _
            exact TAIL11 _ _ _ _ _ _ _ _ _ _ _ _ _ _ _ _ _ _ _ _ _ _ _ _ _ _ _ _ _ _ _ _ _ _ _ _ _ _ _ _ _ _ _ _ _ _ _ _ _ _ _ _ _ _ _ _ _ _ _ _ _ _ _ _ _ _ _ _ _ _ _ _ _ _ _ _ _ _ _ _ _ _ _ _ _ _ _ _ _ _ _ _ _ _ _ _ _ _ _ _ _ _ _ _ _ _ _ _ _ _ _ _ _ _ _ _ _ _ _ _ _ _ _ _ _ _ _ _ _ _ _ _ _ _ _ _ _ _ _ _ _ _ _ _ _ _ _ _ _ _ _ _ _ _ _ _ _ _ _ _ _ _ _ _ _ _ _ g7 g8 U21 (LA.trans U21L) (k6.later U21L) ks_g7 ks_g8
        · skip
          go_simp
          have b_g7 := Blk.new U1 26 #[.int .u64 0, .int .u64 0, .int .u64 0, .int .u64 0, .int .u64 0, .int .u64 0, .int .u64 0, .int .u64 0]
          have h_g7 : Va.heap.size ≤ U1.heap.size := L1.size
          have la := Lat.alloc U1 (.cells #[.int .u64 0, .int .u64 0, .int .u64 0, .int .u64 0, .int .u64 0, .int .u64 0, .int .u64 0, .int .u64 0] 26)
          obtain ⟨U2, hV⟩ : ∃ V, U1.alloc (.cells #[.int .u64 0, .int .u64 0, .int .u64 0, .int .u64 0, .int .u64 0, .int .u64 0, .int .u64 0, .int .u64 0] 26) = V := ⟨_, rfl⟩
          rw [hV] at b_g7 la ⊢
          clear hV
          generalize U1.heap.size = g7 at *
          have L2 := L1.trans la
          refine hK.out _ _ L2 (fun hHeld2 => ?_)
          clear hK K
          try simp only [Act.put, List.getElem_toArray, List.getElem_cons_succ, List.getElem_cons_zero, List.setIfInBounds_toArray, List.set_cons_zero, List.set_cons_succ]
          clear la
          refine wpAnyH_ready (rs := [2, 8]) (by kernel_rfl) (by simp) (AllReadyH.cons rfl (fun K hK => ?_) (AllReadyH.cons rfl (fun K hK => ?_) AllReadyH.nil))
          · skip
            go_simp
            refine (HW1 _).mono ?_
            rintro e U3 ⟨rfl, la⟩
            have b_g7 := b_g7.later la
            have L3 := L2.trans la
            refine hK.out _ _ L3 (fun hHeld3 => ?_)
            clear hK K
            try simp only [Act.put, List.getElem_toArray, List.getElem_cons_succ, List.getElem_cons_zero, List.setIfInBounds_toArray, List.set_cons_zero, List.set_cons_succ]
            clear la
            refine wpAnyH_take (i := 3) (v := .tuple #[.agg #[.int .u64 o0.a0, .int .u64 o0.a1, .int .u64 o0.a2, .int .u64 o0.a3, .int .u64 o0.a4, .int .u64 o0.a5, .int .u64 o0.a6, .int .u64 o0.a7], .agg #[.int .u64 0], .int .i64 0]) rfl (by kernel_rfl) (by kernel_rfl) (by kernel_rfl) (fun _ _ _ h => h) (Or.inl ⟨by rfl, by intro w' hS; go_simp⟩) hHeld3 ?_
            simp only [Act.put, List.getElem_toArray, List.getElem_cons_succ, List.getElem_cons_zero, List.setIfInBounds_toArray, List.set_cons_zero, List.set_cons_succ]
            refine wpAnyH_take (i := 4) (v := .agg #[.int .u64 o0.a0, .int .u64 o0.a1, .int .u64 o0.a2, .int .u64 o0.a3, .int .u64 o0.a4, .int .u64 o0.a5, .int .u64 o0.a6, .int .u64 o0.a7]) rfl (by kernel_rfl) (by kernel_rfl) (by kernel_rfl) (fun _ _ _ h => h) (Or.inl ⟨by rfl, by intro w' hS; go_simp⟩) hHeld3 ?_
            simp only [Act.put, List.getElem_toArray, List.getElem_cons_succ, List.getElem_cons_zero, List.setIfInBounds_toArray, List.set_cons_zero, List.set_cons_succ]
            refine wpAnyH_take (i := 5) (v := .agg #[.int .u64 0]) rfl (by kernel_rfl) (by kernel_rfl) (by kernel_rfl) (fun _ _ _ h => h) (Or.inl ⟨by rfl, by intro w' hS; go_simp⟩) hHeld3 ?_
            simp only [Act.put, List.getElem_toArray, List.getElem_cons_succ, List.getElem_cons_zero, List.setIfInBounds_toArray, List.set_cons_zero, List.set_cons_succ]
            refine wpAnyH_take (i := 6) (v := .int .i64 0) rfl (by kernel_rfl) (by kernel_rfl) (by kernel_rfl) (fun _ _ _ h => h) (Or.inl ⟨by rfl, by intro w' hS; go_simp⟩) hHeld3 ?_
            simp only [Act.put, List.getElem_toArray, List.getElem_cons_succ, List.getElem_cons_zero, List.setIfInBounds_toArray, List.set_cons_zero, List.set_cons_succ]
            refine wpAnyH_ready (rs := [8]) (by kernel_rfl) (by simp) (AllReadyH.cons rfl (fun K hK => ?_) AllReadyH.nil)
            go_simp
            have b_g8 := Blk.new U3 24 #[.int .u64 0]
            have h_g8 : Va.heap.size ≤ U3.heap.size := L3.size
            have la := Lat.alloc U3 (.cells #[.int .u64 0] 24)
            obtain ⟨U4, hV⟩ : ∃ V, U3.alloc (.cells #[.int .u64 0] 24) = V := ⟨_, rfl⟩
            rw [hV] at b_g8 la ⊢
            clear hV
            have hne : g7 ≠ U3.heap.size := by have := b_g7.lt; omega
            generalize U3.heap.size = g8 at *
            have b_g7 := b_g7.later la
            have L4 := L3.trans la
            refine hK.out _ _ L4 (fun hHeld4 => ?_)
            clear hK K
            try simp only [Act.put, List.getElem_toArray, List.getElem_cons_succ, List.getElem_cons_zero, List.setIfInBounds_toArray, List.set_cons_zero, List.set_cons_succ]
            clear la
            refine wpAnyH_ready (rs := [9]) (by kernel_rfl) (by simp) (AllReadyH.cons rfl (fun K hK => ?_) AllReadyH.nil)
            rw [if_pos (by rfl)]
            refine wp_store_mid 26 (.tmp 7) (.tmp 40) rfl g7 0 #[.int .u64 o0.a0, .int .u64 o0.a1, .int .u64 o0.a2, .int .u64 o0.a3, .int .u64 o0.a4, .int .u64 o0.a5, .int .u64 o0.a6, .int .u64 o0.a7] rfl rfl (b_g7.thereAll _ rfl) (by kernel_rfl) (by simp [Value.oneCell']) ?_
            have ks_g7 := b_g7.setCells #[.int .u64 o0.a0, .int .u64 o0.a1, .int .u64 o0.a2, .int .u64 o0.a3, .int .u64 o0.a4, .int .u64 o0.a5, .int .u64 o0.a6, .int .u64 o0.a7] rfl
            have lpS : LatP (· = g7) U4 (U4.setCells g7 0 (#[.int .u64 o0.a0, .int .u64 o0.a1, .int .u64 o0.a2, .int .u64 o0.a3, .int .u64 o0.a4, .int .u64 o0.a5, .int .u64 o0.a6, .int .u64 o0.a7] : Array Value).toList) := LatP.setCells _ _ _
            have U20L : Lat Va (U4.setCells g7 0 (#[.int .u64 o0.a0, .int .u64 o0.a1, .int .u64 o0.a2, .int .u64 o0.a3, .int .u64 o0.a4, .int .u64 o0.a5, .int .u64 o0.a6, .int .u64 o0.a7] : Array Value).toList) := Lat.setCells h_g7 _ _ _ L4
            have ks_g8 := b_g8.keepP lpS (by omega)
            obtain ⟨U20, hV9⟩ : ∃ V, U4.setCells g7 0 (#[.int .u64 o0.a0, .int .u64 o0.a1, .int .u64 o0.a2, .int .u64 o0.a3, .int .u64 o0.a4, .int .u64 o0.a5, .int .u64 o0.a6, .int .u64 o0.a7] : Array Value).toList = V := ⟨_, rfl⟩
            rw [hV9] at ks_g7 ks_g8 U20L ⊢
            clear hV9 lpS
            refine hK.out _ _ U20L (fun hHeld5 => ?_)
            clear hK K
            try simp only [Act.put, List.getElem_toArray, List.getElem_cons_succ, List.getElem_cons_zero, List.setIfInBounds_toArray, List.set_cons_zero, List.set_cons_succ]
            refine wpAnyH_ready (rs := [10]) (by kernel_rfl) (by simp) (AllReadyH.cons rfl (fun K hK => ?_) AllReadyH.nil)
            rw [if_pos (by rfl)]
            refine wp_store_mid 24 (.tmp 8) (.tmp 41) rfl g8 0 #[.int .u64 0] rfl rfl (ks_g8.thereAll _ rfl) (by kernel_rfl) (by simp [Value.oneCell']) ?_
            have ks_g8 := ks_g8.setCells #[.int .u64 0] rfl
            have lpS : LatP (· = g8) U20 (U20.setCells g8 0 (#[.int .u64 0] : Array Value).toList) := LatP.setCells _ _ _
            have U21L : Lat Va (U20.setCells g8 0 (#[.int .u64 0] : Array Value).toList) := Lat.setCells h_g8 _ _ _ U20L
            have ks_g7 := ks_g7.keepP lpS (by omega)
            obtain ⟨U21, hV9⟩ : ∃ V, U20.setCells g8 0 (#[.int .u64 0] : Array Value).toList = V := ⟨_, rfl⟩
            rw [hV9] at ks_g7 ks_g8 U21L ⊢
            clear hV9 lpS
            refine hK.out _ _ U21L (fun hHeld6 => ?_)
            clear hK K
            try simp only [Act.put, List.getElem_toArray, List.getElem_cons_succ, List.getElem_cons_zero, List.setIfInBounds_toArray, List.set_cons_zero, List.set_cons_succ]
            refine wpAnyH_take (i := 11) (v := .int .i64 0) rfl (by kernel_rfl) (by kernel_rfl) (by kernel_rfl) (fun _ _ _ h => h) (Or.inl ⟨by rfl, by intro w' hS; go_simp⟩) hHeld6 ?_
            simp only [Act.put, List.getElem_toArray, List.getElem_cons_succ, List.getElem_cons_zero, List.setIfInBounds_toArray, List.set_cons_zero, List.set_cons_succ]
            refine wpAnyH_done (by kernel_rfl) ?_ _
            exact TAIL11 _ _ _ _ _ _ _ _ _ _ _ _ _ _ _ _ _ _ _ _ _ _ _ _ _ _ _ _ _ _ _ _ _ _ _ _ _ _ _ _ _ _ _ _ _ _ _ _ _ _ _ _ _ _ _ _ _ _ _ _ _ _ _ _ _ _ _ _ _ _ _ _ _ _ _ _ _ _ _ _ _ _ _ _ _ _ _ _ _ _ _ _ _ _ _ _ _ _ _ _ _ _ _ _ _ _ _ _ _ _ _ _ _ _ _ _ _ _ _ _ _ _ _ _ _ _ _ _ _ _ _ _ _ _ _ _ _ _ _ _ _ _ _ _ _ _ _ _ _ _ _ _ _ _ _ _ _ _ _ _ _ _ _ _ _ _ _ g7 g8 U21 (LA.trans U21L) (k6.later U21L) ks_g7 ks_g8
          · skip
            go_simp
            have b_g8 := Blk.new U2 24 #[.int .u64 0]
            have h_g8 : Va.heap.size ≤ U2.heap.size := L2.size
            have la := Lat.alloc U2 (.cells #[.int .u64 0] 24)
            obtain ⟨U3, hV⟩ : ∃ V, U2.alloc (.cells #[.int .u64 0] 24) = V := ⟨_, rfl⟩
            rw [hV] at b_g8 la ⊢
            clear hV
            have hne : g7 ≠ U2.heap.size := by have := b_g7.lt; omega
            generalize U2.heap.size = g8 at *
            have b_g7 := b_g7.later la
            have L3 := L2.trans la
            refine hK.out _ _ L3 (fun hHeld3 => ?_)
            clear hK K
            try simp only [Act.put, List.getElem_toArray, List.getElem_cons_succ, List.getElem_cons_zero, List.setIfInBounds_toArray, List.set_cons_zero, List.set_cons_succ]
            clear la
            refine wpAnyH_ready (rs := [2]) (by kernel_rfl) (by simp) (AllReadyH.cons rfl (fun K hK => ?_) AllReadyH.nil)
            go_simp
            refine (HW1 _).mono ?_
            rintro e U4 ⟨rfl, la⟩
            have b_g7 := b_g7.later la
            have b_g8 := b_g8.later la
            have L4 := L3.trans la
            refine hK.out _ _ L4 (fun hHeld4 => ?_)
            clear hK K
            try simp only [Act.put, List.getElem_toArray, List.getElem_cons_succ, List.getElem_cons_zero, List.setIfInBounds_toArray, List.set_cons_zero, List.set_cons_succ]
            clear la
            refine wpAnyH_take (i := 3) (v := .tuple #[.agg #[.int .u64 o0.a0, .int .u64 o0.a1, .int .u64 o0.a2, .int .u64 o0.a3, .int .u64 o0.a4, .int .u64 o0.a5, .int .u64 o0.a6, .int .u64 o0.a7], .agg #[.int .u64 0], .int .i64 0]) rfl (by kernel_rfl) (by kernel_rfl) (by kernel_rfl) (fun _ _ _ h => h) (Or.inl ⟨by rfl, by intro w' hS; go_simp⟩) hHeld4 ?_
            simp only [Act.put, List.getElem_toArray, List.getElem_cons_succ, List.getElem_cons_zero, List.setIfInBounds_toArray, List.set_cons_zero, List.set_cons_succ]
            refine wpAnyH_take (i := 4) (v := .agg #[.int .u64 o0.a0, .int .u64 o0.a1, .int .u64 o0.a2, .int .u64 o0.a3, .int .u64 o0.a4, .int .u64 o0.a5, .int .u64 o0.a6, .int .u64 o0.a7]) rfl (by kernel_rfl) (by kernel_rfl) (by kernel_rfl) (fun _ _ _ h => h) (Or.inl ⟨by rfl, by intro w' hS; go_simp⟩) hHeld4 ?_
            simp only [Act.put, List.getElem_toArray, List.getElem_cons_succ, List.getElem_cons_zero, List.setIfInBounds_toArray, List.set_cons_zero, List.set_cons_succ]
            refine wpAnyH_take (i := 5) (v := .agg #[.int .u64 0]) rfl (by kernel_rfl) (by kernel_rfl) (by kernel_rfl) (fun _ _ _ h => h) (Or.inl ⟨by rfl, by intro w' hS; go_simp⟩) hHeld4 ?_
            simp only [Act.put, List.getElem_toArray, List.getElem_cons_succ, List.getElem_cons_zero, List.setIfInBounds_toArray, List.set_cons_zero, List.set_cons_succ]
            refine wpAnyH_take (i := 6) (v := .int .i64 0) rfl (by kernel_rfl) (by kernel_rfl) (by kernel_rfl) (fun _ _ _ h => h) (Or.inl ⟨by rfl, by intro w' hS; go_simp⟩) hHeld4 ?_
            simp only [Act.put, List.getElem_toArray, List.getElem_cons_succ, List.getElem_cons_zero, List.setIfInBounds_toArray, List.set_cons_zero, List.set_cons_succ]
            refine wpAnyH_ready (rs := [9]) (by kernel_rfl) (by simp) (AllReadyH.cons rfl (fun K hK => ?_) AllReadyH.nil)
            rw [if_pos (by rfl)]
            refine wp_store_mid 26 (.tmp 7) (.tmp 40) rfl g7 0 #[.int .u64 o0.a0, .int .u64 o0.a1, .int .u64 o0.a2, .int .u64 o0.a3, .int .u64 o0.a4, .int .u64 o0.a5, .int .u64 o0.a6, .int .u64 o0.a7] rfl rfl (b_g7.thereAll _ rfl) (by kernel_rfl) (by simp [Value.oneCell']) ?_
            have ks_g7 := b_g7.setCells #[.int .u64 o0.a0, .int .u64 o0.a1, .int .u64 o0.a2, .int .u64 o0.a3, .int .u64 o0.a4, .int .u64 o0.a5, .int .u64 o0.a6, .int .u64 o0.a7] rfl
            have lpS : LatP (· = g7) U4 (U4.setCells g7 0 (#[.int .u64 o0.a0, .int .u64 o0.a1, .int .u64 o0.a2, .int .u64 o0.a3, .int .u64 o0.a4, .int .u64 o0.a5, .int .u64 o0.a6, .int .u64 o0.a7] : Array Value).toList) := LatP.setCells _ _ _
            have U20L : Lat Va (U4.setCells g7 0 (#[.int .u64 o0.a0, .int .u64 o0.a1, .int .u64 o0.a2, .int .u64 o0.a3, .int .u64 o0.a4, .int .u64 o0.a5, .int .u64 o0.a6, .int .u64 o0.a7] : Array Value).toList) := Lat.setCells h_g7 _ _ _ L4
            have ks_g8 := b_g8.keepP lpS (by omega)
            obtain ⟨U20, hV9⟩ : ∃ V, U4.setCells g7 0 (#[.int .u64 o0.a0, .int .u64 o0.a1, .int .u64 o0.a2, .int .u64 o0.a3, .int .u64 o0.a4, .int .u64 o0.a5, .int .u64 o0.a6, .int .u64 o0.a7] : Array Value).toList = V := ⟨_, rfl⟩
            rw [hV9] at ks_g7 ks_g8 U20L ⊢
            clear hV9 lpS
            refine hK.out _ _ U20L (fun hHeld5 => ?_)
            clear hK K
            try simp only [Act.put, List.getElem_toArray, List.getElem_cons_succ, List.getElem_cons_zero, List.setIfInBounds_toArray, List.set_cons_zero, List.set_cons_succ]
            refine wpAnyH_ready (rs := [10]) (by kernel_rfl) (by simp) (AllReadyH.cons rfl (fun K hK => ?_) AllReadyH.nil)
            rw [if_pos (by rfl)]
            refine wp_store_mid 24 (.tmp 8) (.tmp 41) rfl g8 0 #[.int .u64 0] rfl rfl (ks_g8.thereAll _ rfl) (by kernel_rfl) (by simp [Value.oneCell']) ?_
            have ks_g8 := ks_g8.setCells #[.int .u64 0] rfl
            have lpS : LatP (· = g8) U20 (U20.setCells g8 0 (#[.int .u64 0] : Array Value).toList) := LatP.setCells _ _ _
            have U21L : Lat Va (U20.setCells g8 0 (#[.int .u64 0] : Array Value).toList) := Lat.setCells h_g8 _ _ _ U20L
            have ks_g7 := ks_g7.keepP lpS (by omega)
            obtain ⟨U21, hV9⟩ : ∃ V, U20.setCells g8 0 (#[.int .u64 0] : Array Value).toList = V := ⟨_, rfl⟩
            rw [hV9] at ks_g7 ks_g8 U21L ⊢
            clear hV9 lpS
            refine hK.out _ _ U21L (fun hHeld6 => ?_)
            clear hK K
            try simp only [Act.put, List.getElem_toArray, List.getElem_cons_succ, List.getElem_cons_zero, List.setIfInBounds_toArray, List.set_cons_zero, List.set_cons_succ]
            refine wpAnyH_take (i := 11) (v := .int .i64 0) rfl (by kernel_rfl) (by kernel_rfl) (by kernel_rfl) (fun _ _ _ h => h) (Or.inl ⟨by rfl, by intro w' hS; go_simp⟩) hHeld6 ?_
            simp only [Act.put, List.getElem_toArray, List.getElem_cons_succ, List.getElem_cons_zero, List.setIfInBounds_toArray, List.set_cons_zero, List.set_cons_succ]
            refine wpAnyH_done (by kernel_rfl) ?_ _
            exact TAIL11 _ _ _ _ _ _ _ _ _ _ _ _ _ _ _ _ _ _ _ _ _ _ _ _ _ _ _ _ _ _ _ _ _ _ _ _ _ _ _ _ _ _ _ _ _ _ _ _ _ _ _ _ _ _ _ _ _ _ _ _ _ _ _ _ _ _ _ _ _ _ _ _ _ _ _ _ _ _ _ _ _ _ _ _ _ _ _ _ _ _ _ _ _ _ _ _ _ _ _ _ _ _ _ _ _ _ _ _ _ _ _ _ _ _ _ _ _ _ _ _ _ _ _ _ _ _ _ _ _ _ _ _ _ _ _ _ _ _ _ _ _ _ _ _ _ _ _ _ _ _ _ _ _ _ _ _ _ _ _ _ _ _ _ _ _ _ _ g7 g8 U21 (LA.trans U21L) (k6.later U21L) ks_g7 ks_g8
        · skip
          go_simp
          have b_g8 := Blk.new U1 24 #[.int .u64 0]
          have h_g8 : Va.heap.size ≤ U1.heap.size := L1.size
          have la := Lat.alloc U1 (.cells #[.int .u64 0] 24)
          obtain ⟨U2, hV⟩ : ∃ V, U1.alloc (.cells #[.int .u64 0] 24) = V := ⟨_, rfl⟩
          rw [hV] at b_g8 la ⊢
          clear hV
          generalize U1.heap.size = g8 at *
          have L2 := L1.trans la
          refine hK.out _ _ L2 (fun hHeld2 => ?_)
          clear hK K
          try simp only [Act.put, List.getElem_toArray, List.getElem_cons_succ, List.getElem_cons_zero, List.setIfInBounds_toArray, List.set_cons_zero, List.set_cons_succ]
          clear la
          refine wpAnyH_ready (rs := [2, 7]) (by kernel_rfl) (by simp) (AllReadyH.cons rfl (fun K hK => ?_) (AllReadyH.cons rfl (fun K hK => ?_) AllReadyH.nil))
          · skip
            go_simp
            refine (HW1 _).mono ?_
            rintro e U3 ⟨rfl, la⟩
            have b_g8 := b_g8.later la
            have L3 := L2.trans la
            refine hK.out _ _ L3 (fun hHeld3 => ?_)
            clear hK K
            try simp only [Act.put, List.getElem_toArray, List.getElem_cons_succ, List.getElem_cons_zero, List.setIfInBounds_toArray, List.set_cons_zero, List.set_cons_succ]
            clear la
            refine wpAnyH_take (i := 3) (v := .tuple #[.agg #[.int .u64 o0.a0, .int .u64 o0.a1, .int .u64 o0.a2, .int .u64 o0.a3, .int .u64 o0.a4, .int .u64 o0.a5, .int .u64 o0.a6, .int .u64 o0.a7], .agg #[.int .u64 0], .int .i64 0]) rfl (by kernel_rfl) (by kernel_rfl) (by kernel_rfl) (fun _ _ _ h => h) (Or.inl ⟨by rfl, by intro w' hS; go_simp⟩) hHeld3 ?_
            simp only [Act.put, List.getElem_toArray, List.getElem_cons_succ, List.getElem_cons_zero, List.setIfInBounds_toArray, List.set_cons_zero, List.set_cons_succ]
            refine wpAnyH_take (i := 4) (v := .agg #[.int .u64 o0.a0, .int .u64 o0.a1, .int .u64 o0.a2, .int .u64 o0.a3, .int .u64 o0.a4, .int .u64 o0.a5, .int .u64 o0.a6, .int .u64 o0.a7]) rfl (by kernel_rfl) (by kernel_rfl) (by kernel_rfl) (fun _ _ _ h => h) (Or.inl ⟨by rfl, by intro w' hS; go_simp⟩) hHeld3 ?_
            simp only [Act.put, List.getElem_toArray, List.getElem_cons_succ, List.getElem_cons_zero, List.setIfInBounds_toArray, List.set_cons_zero, List.set_cons_succ]
            refine wpAnyH_take (i := 5) (v := .agg #[.int .u64 0]) rfl (by kernel_rfl) (by kernel_rfl) (by kernel_rfl) (fun _ _ _ h => h) (Or.inl ⟨by rfl, by intro w' hS; go_simp⟩) hHeld3 ?_
            simp only [Act.put, List.getElem_toArray, List.getElem_cons_succ, List.getElem_cons_zero, List.setIfInBounds_toArray, List.set_cons_zero, List.set_cons_succ]
            refine wpAnyH_take (i := 6) (v := .int .i64 0) rfl (by kernel_rfl) (by kernel_rfl) (by kernel_rfl) (fun _ _ _ h => h) (Or.inl ⟨by rfl, by intro w' hS; go_simp⟩) hHeld3 ?_
            simp only [Act.put, List.getElem_toArray, List.getElem_cons_succ, List.getElem_cons_zero, List.setIfInBounds_toArray, List.set_cons_zero, List.set_cons_succ]
            refine wpAnyH_ready (rs := [7]) (by kernel_rfl) (by simp) (AllReadyH.cons rfl (fun K hK => ?_) AllReadyH.nil)
            go_simp
            have b_g7 := Blk.new U3 26 #[.int .u64 0, .int .u64 0, .int .u64 0, .int .u64 0, .int .u64 0, .int .u64 0, .int .u64 0, .int .u64 0]
            have h_g7 : Va.heap.size ≤ U3.heap.size := L3.size
            have la := Lat.alloc U3 (.cells #[.int .u64 0, .int .u64 0, .int .u64 0, .int .u64 0, .int .u64 0, .int .u64 0, .int .u64 0, .int .u64 0] 26)
            obtain ⟨U4, hV⟩ : ∃ V, U3.alloc (.cells #[.int .u64 0, .int .u64 0, .int .u64 0, .int .u64 0, .int .u64 0, .int .u64 0, .int .u64 0, .int .u64 0] 26) = V := ⟨_, rfl⟩
            rw [hV] at b_g7 la ⊢
            clear hV
            have hne : g8 ≠ U3.heap.size := by have := b_g8.lt; omega
            generalize U3.heap.size = g7 at *
            have b_g8 := b_g8.later la
            have L4 := L3.trans la
            refine hK.out _ _ L4 (fun hHeld4 => ?_)
            clear hK K
            try simp only [Act.put, List.getElem_toArray, List.getElem_cons_succ, List.getElem_cons_zero, List.setIfInBounds_toArray, List.set_cons_zero, List.set_cons_succ]
            clear la
            refine wpAnyH_ready (rs := [9]) (by kernel_rfl) (by simp) (AllReadyH.cons rfl (fun K hK => ?_) AllReadyH.nil)
            rw [if_pos (by rfl)]
            refine wp_store_mid 26 (.tmp 7) (.tmp 40) rfl g7 0 #[.int .u64 o0.a0, .int .u64 o0.a1, .int .u64 o0.a2, .int .u64 o0.a3, .int .u64 o0.a4, .int .u64 o0.a5, .int .u64 o0.a6, .int .u64 o0.a7] rfl rfl (b_g7.thereAll _ rfl) (by kernel_rfl) (by simp [Value.oneCell']) ?_
            have ks_g7 := b_g7.setCells #[.int .u64 o0.a0, .int .u64 o0.a1, .int .u64 o0.a2, .int .u64 o0.a3, .int .u64 o0.a4, .int .u64 o0.a5, .int .u64 o0.a6, .int .u64 o0.a7] rfl
            have lpS : LatP (· = g7) U4 (U4.setCells g7 0 (#[.int .u64 o0.a0, .int .u64 o0.a1, .int .u64 o0.a2, .int .u64 o0.a3, .int .u64 o0.a4, .int .u64 o0.a5, .int .u64 o0.a6, .int .u64 o0.a7] : Array Value).toList) := LatP.setCells _ _ _
            have U20L : Lat Va (U4.setCells g7 0 (#[.int .u64 o0.a0, .int .u64 o0.a1, .int .u64 o0.a2, .int .u64 o0.a3, .int .u64 o0.a4, .int .u64 o0.a5, .int .u64 o0.a6, .int .u64 o0.a7] : Array Value).toList) := Lat.setCells h_g7 _ _ _ L4
            have ks_g8 := b_g8.keepP lpS (by omega)
            obtain ⟨U20, hV9⟩ : ∃ V, U4.setCells g7 0 (#[.int .u64 o0.a0, .int .u64 o0.a1, .int .u64 o0.a2, .int .u64 o0.a3, .int .u64 o0.a4, .int .u64 o0.a5, .int .u64 o0.a6, .int .u64 o0.a7] : Array Value).toList = V := ⟨_, rfl⟩
            rw [hV9] at ks_g8 ks_g7 U20L ⊢
            clear hV9 lpS
            refine hK.out _ _ U20L (fun hHeld5 => ?_)
            clear hK K
            try simp only [Act.put, List.getElem_toArray, List.getElem_cons_succ, List.getElem_cons_zero, List.setIfInBounds_toArray, List.set_cons_zero, List.set_cons_succ]
            refine wpAnyH_ready (rs := [10]) (by kernel_rfl) (by simp) (AllReadyH.cons rfl (fun K hK => ?_) AllReadyH.nil)
            rw [if_pos (by rfl)]
            refine wp_store_mid 24 (.tmp 8) (.tmp 41) rfl g8 0 #[.int .u64 0] rfl rfl (ks_g8.thereAll _ rfl) (by kernel_rfl) (by simp [Value.oneCell']) ?_
            have ks_g8 := ks_g8.setCells #[.int .u64 0] rfl
            have lpS : LatP (· = g8) U20 (U20.setCells g8 0 (#[.int .u64 0] : Array Value).toList) := LatP.setCells _ _ _
            have U21L : Lat Va (U20.setCells g8 0 (#[.int .u64 0] : Array Value).toList) := Lat.setCells h_g8 _ _ _ U20L
            have ks_g7 := ks_g7.keepP lpS (by omega)
            obtain ⟨U21, hV9⟩ : ∃ V, U20.setCells g8 0 (#[.int .u64 0] : Array Value).toList = V := ⟨_, rfl⟩
            rw [hV9] at ks_g8 ks_g7 U21L ⊢
            clear hV9 lpS
            refine hK.out _ _ U21L (fun hHeld6 => ?_)
            clear hK K
            try simp only [Act.put, List.getElem_toArray, List.getElem_cons_succ, List.getElem_cons_zero, List.setIfInBounds_toArray, List.set_cons_zero, List.set_cons_succ]
            refine wpAnyH_take (i := 11) (v := .int .i64 0) rfl (by kernel_rfl) (by kernel_rfl) (by kernel_rfl) (fun _ _ _ h => h) (Or.inl ⟨by rfl, by intro w' hS; go_simp⟩) hHeld6 ?_
            simp only [Act.put, List.getElem_toArray, List.getElem_cons_succ, List.getElem_cons_zero, List.setIfInBounds_toArray, List.set_cons_zero, List.set_cons_succ]
            refine wpAnyH_done (by kernel_rfl) ?_ _
            exact TAIL11 _ _ _ _ _ _ _ _ _ _ _ _ _ _ _ _ _ _ _ _ _ _ _ _ _ _ _ _ _ _ _ _ _ _ _ _ _ _ _ _ _ _ _ _ _ _ _ _ _ _ _ _ _ _ _ _ _ _ _ _ _ _ _ _ _ _ _ _ _ _ _ _ _ _ _ _ _ _ _ _ _ _ _ _ _ _ _ _ _ _ _ _ _ _ _ _ _ _ _ _ _ _ _ _ _ _ _ _ _ _ _ _ _ _ _ _ _ _ _ _ _ _ _ _ _ _ _ _ _ _ _ _ _ _ _ _ _ _ _ _ _ _ _ _ _ _ _ _ _ _ _ _ _ _ _ _ _ _ _ _ _ _ _ _ _ _ _ g7 g8 U21 (LA.trans U21L) (k6.later U21L) ks_g7 ks_g8
          · skip
            go_simp
            have b_g7 := Blk.new U2 26 #[.int .u64 0, .int .u64 0, .int .u64 0, .int .u64 0, .int .u64 0, .int .u64 0, .int .u64 0, .int .u64 0]
            have h_g7 : Va.heap.size ≤ U2.heap.size := L2.size
            have la := Lat.alloc U2 (.cells #[.int .u64 0, .int .u64 0, .int .u64 0, .int .u64 0, .int .u64 0, .int .u64 0, .int .u64 0, .int .u64 0] 26)
            obtain ⟨U3, hV⟩ : ∃ V, U2.alloc (.cells #[.int .u64 0, .int .u64 0, .int .u64 0, .int .u64 0, .int .u64 0, .int .u64 0, .int .u64 0, .int .u64 0] 26) = V := ⟨_, rfl⟩
            rw [hV] at b_g7 la ⊢
            clear hV
            have hne : g8 ≠ U2.heap.size := by have := b_g8.lt; omega
            generalize U2.heap.size = g7 at *
            have b_g8 := b_g8.later la
            have L3 := L2.trans la
            refine hK.out _ _ L3 (fun hHeld3 => ?_)
            clear hK K
            try simp only [Act.put, List.getElem_toArray, List.getElem_cons_succ, List.getElem_cons_zero, List.setIfInBounds_toArray, List.set_cons_zero, List.set_cons_succ]
            clear la
            refine wpAnyH_ready (rs := [2]) (by kernel_rfl) (by simp) (AllReadyH.cons rfl (fun K hK => ?_) AllReadyH.nil)
            go_simp
            refine (HW1 _).mono ?_
            rintro e U4 ⟨rfl, la⟩
            have b_g8 := b_g8.later la
            have b_g7 := b_g7.later la
            have L4 := L3.trans la
            refine hK.out _ _ L4 (fun hHeld4 => ?_)
            clear hK K
            try simp only [Act.put, List.getElem_toArray, List.getElem_cons_succ, List.getElem_cons_zero, List.setIfInBounds_toArray, List.set_cons_zero, List.set_cons_succ]
            clear la
            refine wpAnyH_take (i := 3) (v := .tuple #[.agg #[.int .u64 o0.a0, .int .u64 o0.a1, .int .u64 o0.a2, .int .u64 o0.a3, .int .u64 o0.a4, .int .u64 o0.a5, .int .u64 o0.a6, .int .u64 o0.a7], .agg #[.int .u64 0], .int .i64 0]) rfl (by kernel_rfl) (by kernel_rfl) (by kernel_rfl) (fun _ _ _ h => h) (Or.inl ⟨by rfl, by intro w' hS; go_simp⟩) hHeld4 ?_
            simp only [Act.put, List.getElem_toArray, List.getElem_cons_succ, List.getElem_cons_zero, List.setIfInBounds_toArray, List.set_cons_zero, List.set_cons_succ]
            refine wpAnyH_take (i := 4) (v := .agg #[.int .u64 o0.a0, .int .u64 o0.a1, .int .u64 o0.a2, .int .u64 o0.a3, .int .u64 o0.a4, .int .u64 o0.a5, .int .u64 o0.a6, .int .u64 o0.a7]) rfl (by kernel_rfl) (by kernel_rfl) (by kernel_rfl) (fun _ _ _ h => h) (Or.inl ⟨by rfl, by intro w' hS; go_simp⟩) hHeld4 ?_
            simp only [Act.put, List.getElem_toArray, List.getElem_cons_succ, List.getElem_cons_zero, List.setIfInBounds_toArray, List.set_cons_zero, List.set_cons_succ]
            refine wpAnyH_take (i := 5) (v := .agg #[.int .u64 0]) rfl (by kernel_rfl) (by kernel_rfl) (by kernel_rfl) (fun _ _ _ h => h) (Or.inl ⟨by rfl, by intro w' hS; go_simp⟩) hHeld4 ?_
            simp only [Act.put, List.getElem_toArray, List.getElem_cons_succ, List.getElem_cons_zero, List.setIfInBounds_toArray, List.set_cons_zero, List.set_cons_succ]
            refine wpAnyH_take (i := 6) (v := .int .i64 0) rfl (by kernel_rfl) (by kernel_rfl) (by kernel_rfl) (fun _ _ _ h => h) (Or.inl ⟨by rfl, by intro w' hS; go_simp⟩) hHeld4 ?_
            simp only [Act.put, List.getElem_toArray, List.getElem_cons_succ, List.getElem_cons_zero, List.setIfInBounds_toArray, List.set_cons_zero, List.set_cons_succ]
            refine wpAnyH_ready (rs := [9]) (by kernel_rfl) (by simp) (AllReadyH.cons rfl (fun K hK => ?_) AllReadyH.nil)
            rw [if_pos (by rfl)]
            refine wp_store_mid 26 (.tmp 7) (.tmp 40) rfl g7 0 #[.int .u64 o0.a0, .int .u64 o0.a1, .int .u64 o0.a2, .int .u64 o0.a3, .int .u64 o0.a4, .int .u64 o0.a5, .int .u64 o0.a6, .int .u64 o0.a7] rfl rfl (b_g7.thereAll _ rfl) (by kernel_rfl) (by simp [Value.oneCell']) ?_
            have ks_g7 := b_g7.setCells #[.int .u64 o0.a0, .int .u64 o0.a1, .int .u64 o0.a2, .int .u64 o0.a3, .int .u64 o0.a4, .int .u64 o0.a5, .int .u64 o0.a6, .int .u64 o0.a7] rfl
            have lpS : LatP (· = g7) U4 (U4.setCells g7 0 (#[.int .u64 o0.a0, .int .u64 o0.a1, .int .u64 o0.a2, .int .u64 o0.a3, .int .u64 o0.a4, .int .u64 o0.a5, .int .u64 o0.a6, .int .u64 o0.a7] : Array Value).toList) := LatP.setCells _ _ _
            have U20L : Lat Va (U4.setCells g7 0 (#[.int .u64 o0.a0, .int .u64 o0.a1, .int .u64 o0.a2, .int .u64 o0.a3, .int .u64 o0.a4, .int .u64 o0.a5, .int .u64 o0.a6, .int .u64 o0.a7] : Array Value).toList) := Lat.setCells h_g7 _ _ _ L4
            have ks_g8 := b_g8.keepP lpS (by omega)
            obtain ⟨U20, hV9⟩ : ∃ V, U4.setCells g7 0 (#[.int .u64 o0.a0, .int .u64 o0.a1, .int .u64 o0.a2, .int .u64 o0.a3, .int .u64 o0.a4, .int .u64 o0.a5, .int .u64 o0.a6, .int .u64 o0.a7] : Array Value).toList = V := ⟨_, rfl⟩
            rw [hV9] at ks_g8 ks_g7 U20L ⊢
            clear hV9 lpS
            refine hK.out _ _ U20L (fun hHeld5 => ?_)
            clear hK K
            try simp only [Act.put, List.getElem_toArray, List.getElem_cons_succ, List.getElem_cons_zero, List.setIfInBounds_toArray, List.set_cons_zero, List.set_cons_succ]
            refine wpAnyH_ready (rs := [10]) (by kernel_rfl) (by simp) (AllReadyH.cons rfl (fun K hK => ?_) AllReadyH.nil)
            rw [if_pos (by rfl)]
            refine wp_store_mid 24 (.tmp 8) (.tmp 41) rfl g8 0 #[.int .u64 0] rfl rfl (ks_g8.thereAll _ rfl) (by kernel_rfl) (by simp [Value.oneCell']) ?_
            have ks_g8 := ks_g8.setCells #[.int .u64 0] rfl
            have lpS : LatP (· = g8) U20 (U20.setCells g8 0 (#[.int .u64 0] : Array Value).toList) := LatP.setCells _ _ _
            have U21L : Lat Va (U20.setCells g8 0 (#[.int .u64 0] : Array Value).toList) := Lat.setCells h_g8 _ _ _ U20L
            have ks_g7 := ks_g7.keepP lpS (by omega)
            obtain ⟨U21, hV9⟩ : ∃ V, U20.setCells g8 0 (#[.int .u64 0] : Array Value).toList = V := ⟨_, rfl⟩
            rw [hV9] at ks_g8 ks_g7 U21L ⊢
            clear hV9 lpS
            refine hK.out _ _ U21L (fun hHeld6 => ?_)
            clear hK K
            try simp only [Act.put, List.getElem_toArray, List.getElem_cons_succ, List.getElem_cons_zero, List.setIfInBounds_toArray, List.set_cons_zero, List.set_cons_succ]
            refine wpAnyH_take (i := 11) (v := .int .i64 0) rfl (by kernel_rfl) (by kernel_rfl) (by kernel_rfl) (fun _ _ _ h => h) (Or.inl ⟨by rfl, by intro w' hS; go_simp⟩) hHeld6 ?_
            simp only [Act.put, List.getElem_toArray, List.getElem_cons_succ, List.getElem_cons_zero, List.setIfInBounds_toArray, List.set_cons_zero, List.set_cons_succ]
            refine wpAnyH_done (by kernel_rfl) ?_ _
            exact TAIL11 _ _ _ _ _ _ _ _ _ _ _ _ _ _ _ _ _ _ _ _ _ _ _ _ _ _ _ _ _ _ _ _ _ _ _ _ _ _ _ _ _ _ _ _ _ _ _ _ _ _ _ _ _ _ _ _ _ _ _ _ _ _ _ _ _ _ _ _ _ _ _ _ _ _ _ _ _ _ _ _ _ _ _ _ _ _ _ _ _ _ _ _ _ _ _ _ _ _ _ _ _ _ _ _ _ _ _ _ _ _ _ _ _ _ _ _ _ _ _ _ _ _ _ _ _ _ _ _ _ _ _ _ _ _ _ _ _ _ _ _ _ _ _ _ _ _ _ _ _ _ _ _ _ _ _ _ _ _ _ _ _ _ _ _ _ _ _ g7 g8 U21 (LA.trans U21L) (k6.later U21L) ks_g7 ks_g8
      · skip
        go_simp
        have b_g7 := Blk.new U0 26 #[.int .u64 0, .int .u64 0, .int .u64 0, .int .u64 0, .int .u64 0, .int .u64 0, .int .u64 0, .int .u64 0]
        have h_g7 : Va.heap.size ≤ U0.heap.size := L0.size
        have la := Lat.alloc U0 (.cells #[.int .u64 0, .int .u64 0, .int .u64 0, .int .u64 0, .int .u64 0, .int .u64 0, .int .u64 0, .int .u64 0] 26)
        obtain ⟨U1, hV⟩ : ∃ V, U0.alloc (.cells #[.int .u64 0, .int .u64 0, .int .u64 0, .int .u64 0, .int .u64 0, .int .u64 0, .int .u64 0, .int .u64 0] 26) = V := ⟨_, rfl⟩
        rw [hV] at b_g7 la ⊢
        clear hV
        generalize U0.heap.size = g7 at *
        have L1 := L0.trans la
        refine hK.out _ _ L1 (fun hHeld1 => ?_)
        clear hK K
        try simp only [Act.put, List.getElem_toArray, List.getElem_cons_succ, List.getElem_cons_zero, List.setIfInBounds_toArray, List.set_cons_zero, List.set_cons_succ]
        clear la
        refine wpAnyH_ready (rs := [1, 8]) (by kernel_rfl) (by simp) (AllReadyH.cons rfl (fun K hK => ?_) (AllReadyH.cons rfl (fun K hK => ?_) AllReadyH.nil))
        · skip
          go_simp
          refine (HO1 _).mono ?_
          rintro e U2 ⟨rfl, la⟩
          have b_g7 := b_g7.later la
          have L2 := L1.trans la
          refine hK.out _ _ L2 (fun hHeld2 => ?_)
          clear hK K
          try simp only [Act.put, List.getElem_toArray, List.getElem_cons_succ, List.getElem_cons_zero, List.setIfInBounds_toArray, List.set_cons_zero, List.set_cons_succ]
          clear la
          refine wpAnyH_ready (rs := [2, 8]) (by kernel_rfl) (by simp) (AllReadyH.cons rfl (fun K hK => ?_) (AllReadyH.cons rfl (fun K hK => ?_) AllReadyH.nil))
          · skip
            go_simp
            refine (HW1 _).mono ?_
            rintro e U3 ⟨rfl, la⟩
            have b_g7 := b_g7.later la
            have L3 := L2.trans la
            refine hK.out _ _ L3 (fun hHeld3 => ?_)
            clear hK K
            try simp only [Act.put, List.getElem_toArray, List.getElem_cons_succ, List.getElem_cons_zero, List.setIfInBounds_toArray, List.set_cons_zero, List.set_cons_succ]
            clear la
            refine wpAnyH_take (i := 3) (v := .tuple #[.agg #[.int .u64 o0.a0, .int .u64 o0.a1, .int .u64 o0.a2, .int .u64 o0.a3, .int .u64 o0.a4, .int .u64 o0.a5, .int .u64 o0.a6, .int .u64 o0.a7], .agg #[.int .u64 0], .int .i64 0]) rfl (by kernel_rfl) (by kernel_rfl) (by kernel_rfl) (fun _ _ _ h => h) (Or.inl ⟨by rfl, by intro w' hS; go_simp⟩) hHeld3 ?_
            simp only [Act.put, List.getElem_toArray, List.getElem_cons_succ, List.getElem_cons_zero, List.setIfInBounds_toArray, List.set_cons_zero, List.set_cons_succ]
            refine wpAnyH_take (i := 4) (v := .agg #[.int .u64 o0.a0, .int .u64 o0.a1, .int .u64 o0.a2, .int .u64 o0.a3, .int .u64 o0.a4, .int .u64 o0.a5, .int .u64 o0.a6, .int .u64 o0.a7]) rfl (by kernel_rfl) (by kernel_rfl) (by kernel_rfl) (fun _ _ _ h => h) (Or.inl ⟨by rfl, by intro w' hS; go_simp⟩) hHeld3 ?_
            simp only [Act.put, List.getElem_toArray, List.getElem_cons_succ, List.getElem_cons_zero, List.setIfInBounds_toArray, List.set_cons_zero, List.set_cons_succ]
            refine wpAnyH_take (i := 5) (v := .agg #[.int .u64 0]) rfl (by kernel_rfl) (by kernel_rfl) (by kernel_rfl) (fun _ _ _ h => h) (Or.inl ⟨by rfl, by intro w' hS; go_simp⟩) hHeld3 ?_
            simp only [Act.put, List.getElem_toArray, List.getElem_cons_succ, List.getElem_cons_zero, List.setIfInBounds_toArray, List.set_cons_zero, List.set_cons_succ]
            refine wpAnyH_take (i := 6) (v := .int .i64 0) rfl (by kernel_rfl) (by kernel_rfl) (by kernel_rfl) (fun _ _ _ h => h) (Or.inl ⟨by rfl, by intro w' hS; go_simp⟩) hHeld3 ?_
            simp only [Act.put, List.getElem_toArray, List.getElem_cons_succ, List.getElem_cons_zero, List.setIfInBounds_toArray, List.set_cons_zero, List.set_cons_succ]
            refine wpAnyH_ready (rs := [8]) (by kernel_rfl) (by simp) (AllReadyH.cons rfl (fun K hK => ?_) AllReadyH.nil)
            go_simp
            have b_g8 := Blk.new U3 24 #[.int .u64 0]
            have h_g8 : Va.heap.size ≤ U3.heap.size := L3.size
            have la := Lat.alloc U3 (.cells #[.int .u64 0] 24)
            obtain ⟨U4, hV⟩ : ∃ V, U3.alloc (.cells #[.int .u64 0] 24) = V := ⟨_, rfl⟩
            rw [hV] at b_g8 la ⊢
            clear hV
            have hne : g7 ≠ U3.heap.size := by have := b_g7.lt; omega
            generalize U3.heap.size = g8 at *
            have b_g7 := b_g7.later la
            have L4 := L3.trans la
            refine hK.out _ _ L4 (fun hHeld4 => ?_)
            clear hK K
            try simp only [Act.put, List.getElem_toArray, List.getElem_cons_succ, List.getElem_cons_zero, List.setIfInBounds_toArray, List.set_cons_zero, List.set_cons_succ]
            clear la
            refine wpAnyH_ready (rs := [9]) (by kernel_rfl) (by simp) (AllReadyH.cons rfl (fun K hK => ?_) AllReadyH.nil)
            rw [if_pos (by rfl)]
            refine wp_store_mid 26 (.tmp 7) (.tmp 40) rfl g7 0 #[.int .u64 o0.a0, .int .u64 o0.a1, .int .u64 o0.a2, .int .u64 o0.a3, .int .u64 o0.a4, .int .u64 o0.a5, .int .u64 o0.a6, .int .u64 o0.a7] rfl rfl (b_g7.thereAll _ rfl) (by kernel_rfl) (by simp [Value.oneCell']) ?_
            have ks_g7 := b_g7.setCells #[.int .u64 o0.a0, .int .u64 o0.a1, .int .u64 o0.a2, .int .u64 o0.a3, .int .u64 o0.a4, .int .u64 o0.a5, .int .u64 o0.a6, .int .u64 o0.a7] rfl
            have lpS : LatP (· = g7) U4 (U4.setCells g7 0 (#[.int .u64 o0.a0, .int .u64 o0.a1, .int .u64 o0.a2, .int .u64 o0.a3, .int .u64 o0.a4, .int .u64 o0.a5, .int .u64 o0.a6, .int .u64 o0.a7] : Array Value).toList) := LatP.setCells _ _ _
            have U20L : Lat Va (U4.setCells g7 0 (#[.int .u64 o0.a0, .int .u64 o0.a1, .int .u64 o0.a2, .int .u64 o0.a3, .int .u64 o0.a4, .int .u64 o0.a5, .int .u64 o0.a6, .int .u64 o0.a7] : Array Value).toList) := Lat.setCells h_g7 _ _ _ L4
            have ks_g8 := b_g8.keepP lpS (by omega)
            obtain ⟨U20, hV9⟩ : ∃ V, U4.setCells g7 0 (#[.int .u64 o0.a0, .int .u64 o0.a1, .int .u64 o0.a2, .int .u64 o0.a3, .int .u64 o0.a4, .int .u64 o0.a5, .int .u64 o0.a6, .int .u64 o0.a7] : Array Value).toList = V := ⟨_, rfl⟩
            rw [hV9] at ks_g7 ks_g8 U20L ⊢
            clear hV9 lpS
            refine hK.out _ _ U20L (fun hHeld5 => ?_)
            clear hK K
            try simp only [Act.put, List.getElem_toArray, List.getElem_cons_succ, List.getElem_cons_zero, List.setIfInBounds_toArray, List.set_cons_zero, List.set_cons_succ]
            refine wpAnyH_ready (rs := [10]) (by kernel_rfl) (by simp) (AllReadyH.cons rfl (fun K hK => ?_) AllReadyH.nil)
            rw [if_pos (by rfl)]
            refine wp_store_mid 24 (.tmp 8) (.tmp 41) rfl g8 0 #[.int .u64 0] rfl rfl (ks_g8.thereAll _ rfl) (by kernel_rfl) (by simp [Value.oneCell']) ?_
            have ks_g8 := ks_g8.setCells #[.int .u64 0] rfl
            have lpS : LatP (· = g8) U20 (U20.setCells g8 0 (#[.int .u64 0] : Array Value).toList) := LatP.setCells _ _ _
            have U21L : Lat Va (U20.setCells g8 0 (#[.int .u64 0] : Array Value).toList) := Lat.setCells h_g8 _ _ _ U20L
            have ks_g7 := ks_g7.keepP lpS (by omega)
            obtain ⟨U21, hV9⟩ : ∃ V, U20.setCells g8 0 (#[.int .u64 0] : Array Value).toList = V := ⟨_, rfl⟩
            rw [hV9] at ks_g7 ks_g8 U21L ⊢
            clear hV9 lpS
            refine hK.out _ _ U21L (fun hHeld6 => ?_)
            clear hK K
            try simp only [Act.put, List.getElem_toArray, List.getElem_cons_succ, List.getElem_cons_zero, List.setIfInBounds_toArray, List.set_cons_zero, List.set_cons_succ]
            refine wpAnyH_take (i := 11) (v := .int .i64 0) rfl (by kernel_rfl) (by kernel_rfl) (by kernel_rfl) (fun _ _ _ h => h) (Or.inl ⟨by rfl, by intro w' hS; go_simp⟩) hHeld6 ?_
            simp only [Act.put, List.getElem_toArray, List.getElem_cons_succ, List.getElem_cons_zero, List.setIfInBounds_toArray, List.set_cons_zero, List.set_cons_succ]
            refine wpAnyH_done (by kernel_rfl) ?_ _
            exact TAIL11 _ _ _ _ _ _ _ _ _ _ _ _ _ _ _ _ _ _ _ _ _ _ _ _ _ _ _ _ _ _ _ _ _ _ _ _ _ _ _ _ _ _ _ _ _ _ _ _ _ _ _ _ _ _ _ _ _ _ _ _ _ _ _ _ _ _ _ _ _ _ _ _ _ _ _ _ _ _ _ _ _ _ _ _ _ _ _ _ _ _ _ _ _ _ _ _ _ _ _ _ _ _ _ _ _ _ _ _ _ _ _ _ _ _ _ _ _ _ _ _ _ _ _ _ _ _ _ _ _ _ _ _ _ _ _ _ _ _ _ _ _ _ _ _ _ _ _ _ _ _ _ _ _ _ _ _ _ _ _ _ _ _ _ _ _ _ _ g7 g8 U21 (LA.trans U21L) (k6.later U21L) ks_g7 ks_g8
          · skip
            go_simp
            have b_g8 := Blk.new U2 24 #[.int .u64 0]
            have h_g8 : Va.heap.size ≤ U2.heap.size := L2.size
            have la := Lat.alloc U2 (.cells #[.int .u64 0] 24)
            obtain ⟨U3, hV⟩ : ∃ V, U2.alloc (.cells #[.int .u64 0] 24) = V := ⟨_, rfl⟩
            rw [hV] at b_g8 la ⊢
            clear hV
            have hne : g7 ≠ U2.heap.size := by have := b_g7.lt; omega
            generalize U2.heap.size = g8 at *
            have b_g7 := b_g7.later la
            have L3 := L2.trans la
            refine hK.out _ _ L3 (fun hHeld3 => ?_)
            clear hK K
            try simp only [Act.put, List.getElem_toArray, List.getElem_cons_succ, List.getElem_cons_zero, List.setIfInBounds_toArray, List.set_cons_zero, List.set_cons_succ]
            clear la
            refine wpAnyH_ready (rs := [2]) (by kernel_rfl) (by simp) (AllReadyH.cons rfl (fun K hK => ?_) AllReadyH.nil)
            go_simp
            refine (HW1 _).mono ?_
            rintro e U4 ⟨rfl, la⟩
            have b_g7 := b_g7.later la
            have b_g8 := b_g8.later la
            have L4 := L3.trans la
            refine hK.out _ _ L4 (fun hHeld4 => ?_)
            clear hK K
            try simp only [Act.put, List.getElem_toArray, List.getElem_cons_succ, List.getElem_cons_zero, List.setIfInBounds_toArray, List.set_cons_zero, List.set_cons_succ]
            clear la
            refine wpAnyH_take (i := 3) (v := .tuple #[.agg #[.int .u64 o0.a0, .int .u64 o0.a1, .int .u64 o0.a2, .int .u64 o0.a3, .int .u64 o0.a4, .int .u64 o0.a5, .int .u64 o0.a6, .int .u64 o0.a7], .agg #[.int .u64 0], .int .i64 0]) rfl (by kernel_rfl) (by kernel_rfl) (by kernel_rfl) (fun _ _ _ h => h) (Or.inl ⟨by rfl, by intro w' hS; go_simp⟩) hHeld4 ?_
            simp only [Act.put, List.getElem_toArray, List.getElem_cons_succ, List.getElem_cons_zero, List.setIfInBounds_toArray, List.set_cons_zero, List.set_cons_succ]
            refine wpAnyH_take (i := 4) (v := .agg #[.int .u64 o0.a0, .int .u64 o0.a1, .int .u64 o0.a2, .int .u64 o0.a3, .int .u64 o0.a4, .int .u64 o0.a5, .int .u64 o0.a6, .int .u64 o0.a7]) rfl (by kernel_rfl) (by kernel_rfl) (by kernel_rfl) (fun _ _ _ h => h) (Or.inl ⟨by rfl, by intro w' hS; go_simp⟩) hHeld4 ?_
            simp only [Act.put, List.getElem_toArray, List.getElem_cons_succ, List.getElem_cons_zero, List.setIfInBounds_toArray, List.set_cons_zero, List.set_cons_succ]
            refine wpAnyH_take (i := 5) (v := .agg #[.int .u64 0]) rfl (by kernel_rfl) (by kernel_rfl) (by kernel_rfl) (fun _ _ _ h => h) (Or.inl ⟨by rfl, by intro w' hS; go_simp⟩) hHeld4 ?_
            simp only [Act.put, List.getElem_toArray, List.getElem_cons_succ, List.getElem_cons_zero, List.setIfInBounds_toArray, List.set_cons_zero, List.set_cons_succ]
            refine wpAnyH_take (i := 6) (v := .int .i64 0) rfl (by kernel_rfl) (by kernel_rfl) (by kernel_rfl) (fun _ _ _ h => h) (Or.inl ⟨by rfl, by intro w' hS; go_simp⟩) hHeld4 ?_
            simp only [Act.put, List.getElem_toArray, List.getElem_cons_succ, List.getElem_cons_zero, List.setIfInBounds_toArray, List.set_cons_zero, List.set_cons_succ]
            refine wpAnyH_ready (rs := [9]) (by kernel_rfl) (by simp) (AllReadyH.cons rfl (fun K hK => ?_) AllReadyH.nil)
            rw [if_pos (by rfl)]
            refine wp_store_mid 26 (.tmp 7) (.tmp 40) rfl g7 0 #[.int .u64 o0.a0, .int .u64 o0.a1, .int .u64 o0.a2, .int .u64 o0.a3, .int .u64 o0.a4, .int .u64 o0.a5, .int .u64 o0.a6, .int .u64 o0.a7] rfl rfl (b_g7.thereAll _ rfl) (by kernel_rfl) (by simp [Value.oneCell']) ?_
            have ks_g7 := b_g7.setCells #[.int .u64 o0.a0, .int .u64 o0.a1, .int .u64 o0.a2, .int .u64 o0.a3, .int .u64 o0.a4, .int .u64 o0.a5, .int .u64 o0.a6, .int .u64 o0.a7] rfl
            have lpS : LatP (· = g7) U4 (U4.setCells g7 0 (#[.int .u64 o0.a0, .int .u64 o0.a1, .int .u64 o0.a2, .int .u64 o0.a3, .int .u64 o0.a4, .int .u64 o0.a5, .int .u64 o0.a6, .int .u64 o0.a7] : Array Value).toList) := LatP.setCells _ _ _
            have U20L : Lat Va (U4.setCells g7 0 (#[.int .u64 o0.a0, .int .u64 o0.a1, .int .u64 o0.a2, .int .u64 o0.a3, .int .u64 o0.a4, .int .u64 o0.a5, .int .u64 o0.a6, .int .u64 o0.a7] : Array Value).toList) := Lat.setCells h_g7 _ _ _ L4
            have ks_g8 := b_g8.keepP lpS (by omega)
            obtain ⟨U20, hV9⟩ : ∃ V, U4.setCells g7 0 (#[.int .u64 o0.a0, .int .u64 o0.a1, .int .u64 o0.a2, .int .u64 o0.a3, .int .u64 o0.a4, .int .u64 o0.a5, .int .u64 o0.a6, .int .u64 o0.a7] : Array Value).toList = V := ⟨_, rfl⟩
            rw [hV9] at ks_g7 ks_g8 U20L ⊢
            clear hV9 lpS
            refine hK.out _ _ U20L (fun hHeld5 => ?_)
            clear hK K
            try simp only [Act.put, List.getElem_toArray, List.getElem_cons_succ, List.getElem_cons_zero, List.setIfInBounds_toArray, List.set_cons_zero, List.set_cons_succ]
            refine wpAnyH_ready (rs := [10]) (by kernel_rfl) (by simp) (AllReadyH.cons rfl (fun K hK => ?_) AllReadyH.nil)
            rw [if_pos (by rfl)]
            refine wp_store_mid 24 (.tmp 8) (.tmp 41) rfl g8 0 #[.int .u64 0] rfl rfl (ks_g8.thereAll _ rfl) (by kernel_rfl) (by simp [Value.oneCell']) ?_
            have ks_g8 := ks_g8.setCells #[.int .u64 0] rfl
            have lpS : LatP (· = g8) U20 (U20.setCells g8 0 (#[.int .u64 0] : Array Value).toList) := LatP.setCells _ _ _
            have U21L : Lat Va (U20.setCells g8 0 (#[.int .u64 0] : Array Value).toList) := Lat.setCells h_g8 _ _ _ U20L
            have ks_g7 := ks_g7.keepP lpS (by omega)
            obtain ⟨U21, hV9⟩ : ∃ V, U20.setCells g8 0 (#[.int .u64 0] : Array Value).toList = V := ⟨_, rfl⟩
            rw [hV9] at ks_g7 ks_g8 U21L ⊢
            clear hV9 lpS
            refine hK.out _ _ U21L (fun hHeld6 => ?_)
            clear hK K
            try simp only [Act.put, List.getElem_toArray, List.getElem_cons_succ, List.getElem_cons_zero, List.setIfInBounds_toArray, List.set_cons_zero, List.set_cons_succ]
            refine wpAnyH_take (i := 11) (v := .int .i64 0) rfl (by kernel_rfl) (by kernel_rfl) (by kernel_rfl) (fun _ _ _ h => h) (Or.inl ⟨by rfl, by intro w' hS; go_simp⟩) hHeld6 ?_
            simp only [Act.put, List.getElem_toArray, List.getElem_cons_succ, List.getElem_cons_zero, List.setIfInBounds_toArray, List.set_cons_zero, List.set_cons_succ]
            refine wpAnyH_done (by kernel_rfl) ?_ _
            exact TAIL11 _ _ _ _ _ _ _ _ _ _ _ _ _ _ _ _ _ _ _ _ _ _ _ _ _ _ _ _ _ _ _ _ _ _ _ _ _ _ _ _ _ _ _ _ _ _ _ _ _ _ _ _ _ _ _ _ _ _ _ _ _ _ _ _ _ _ _ _ _ _ _ _ _ _ _ _ _ _ _ _ _ _ _ _ _ _ _ _ _ _ _ _ _ _ _ _ _ _ _ _ _ _ _ _ _ _ _ _ _ _ _ _ _ _ _ _ _ _ _ _ _ _ _ _ _ _ _ _ _ _ _ _ _ _ _ _ _ _ _ _ _ _ _ _ _ _ _ _ _ _ _ _ _ _ _ _ _ _ _ _ _ _ _ _ _ _ _ g7 g8 U21 (LA.trans U21L) (k6.later U21L) ks_g7 ks_g8
        · skip
          go_simp
          have b_g8 := Blk.new U1 24 #[.int .u64 0]
          have h_g8 : Va.heap.size ≤ U1.heap.size := L1.size
          have la := Lat.alloc U1 (.cells #[.int .u64 0] 24)
          obtain ⟨U2, hV⟩ : ∃ V, U1.alloc (.cells #[.int .u64 0] 24) = V := ⟨_, rfl⟩
          rw [hV] at b_g8 la ⊢
          clear hV
          have hne : g7 ≠ U1.heap.size := by have := b_g7.lt; omega
          generalize U1.heap.size = g8 at *
          have b_g7 := b_g7.later la
          have L2 := L1.trans la
          refine hK.out _ _ L2 (fun hHeld2 => ?_)
          clear hK K
          try simp only [Act.put, List.getElem_toArray, List.getElem_cons_succ, List.getElem_cons_zero, List.setIfInBounds_toArray, List.set_cons_zero, List.set_cons_succ]
          clear la
          refine wpAnyH_ready (rs := [1]) (by kernel_rfl) (by simp) (AllReadyH.cons rfl (fun K hK => ?_) AllReadyH.nil)
          go_simp
          refine (HO1 _).mono ?_
          rintro e U3 ⟨rfl, la⟩
          have b_g7 := b_g7.later la
          have b_g8 := b_g8.later la
          have L3 := L2.trans la
          refine hK.out _ _ L3 (fun hHeld3 => ?_)
          clear hK K
          try simp only [Act.put, List.getElem_toArray, List.getElem_cons_succ, List.getElem_cons_zero, List.setIfInBounds_toArray, List.set_cons_zero, List.set_cons_succ]
          clear la
          refine wpAnyH_ready (rs := [2]) (by kernel_rfl) (by simp) (AllReadyH.cons rfl (fun K hK => ?_) AllReadyH.nil)
          go_simp
          refine (HW1 _).mono ?_
          rintro e U4 ⟨rfl, la⟩
          have b_g7 := b_g7.later la
          have b_g8 := b_g8.later la
          have L4 := L3.trans la
          refine hK.out _ _ L4 (fun hHeld4 => ?_)
          clear hK K
          try simp only [Act.put, List.getElem_toArray, List.getElem_cons_succ, List.getElem_cons_zero, List.setIfInBounds_toArray, List.set_cons_zero, List.set_cons_succ]
          clear la
          refine wpAnyH_take (i := 3) (v := .tuple #[.agg #[.int .u64 o0.a0, .int .u64 o0.a1, .int .u64 o0.a2, .int .u64 o0.a3, .int .u64 o0.a4, .int .u64 o0.a5, .int .u64 o0.a6, .int .u64 o0.a7], .agg #[.int .u64 0], .int .i64 0]) rfl (by kernel_rfl) (by kernel_rfl) (by kernel_rfl) (fun _ _ _ h => h) (Or.inl ⟨by rfl, by intro w' hS; go_simp⟩) hHeld4 ?_
          simp only [Act.put, List.getElem_toArray, List.getElem_cons_succ, List.getElem_cons_zero, List.setIfInBounds_toArray, List.set_cons_zero, List.set_cons_succ]
          refine wpAnyH_take (i := 4) (v := .agg #[.int .u64 o0.a0, .int .u64 o0.a1, .int .u64 o0.a2, .int .u64 o0.a3, .int .u64 o0.a4, .int .u64 o0.a5, .int .u64 o0.a6, .int .u64 o0.a7]) rfl (by kernel_rfl) (by kernel_rfl) (by kernel_rfl) (fun _ _ _ h => h) (Or.inl ⟨by rfl, by intro w' hS; go_simp⟩) hHeld4 ?_
          simp only [Act.put, List.getElem_toArray, List.getElem_cons_succ, List.getElem_cons_zero, List.setIfInBounds_toArray, List.set_cons_zero, List.set_cons_succ]
          refine wpAnyH_take (i := 5) (v := .agg #[.int .u64 0]) rfl (by kernel_rfl) (by kernel_rfl) (by kernel_rfl) (fun _ _ _ h => h) (Or.inl ⟨by rfl, by intro w' hS; go_simp⟩) hHeld4 ?_
          simp only [Act.put, List.getElem_toArray, List.getElem_cons_succ, List.getElem_cons_zero, List.setIfInBounds_toArray, List.set_cons_zero, List.set_cons_succ]
          refine wpAnyH_take (i := 6) (v := .int .i64 0) rfl (by kernel_rfl) (by kernel_rfl) (by kernel_rfl) (fun _ _ _ h => h) (Or.inl ⟨by rfl, by intro w' hS; go_simp⟩) hHeld4 ?_
          simp only [Act.put, List.getElem_toArray, List.getElem_cons_succ, List.getElem_cons_zero, List.setIfInBounds_toArray, List.set_cons_zero, List.set_cons_succ]
          refine wpAnyH_ready (rs := [9]) (by kernel_rfl) (by simp) (AllReadyH.cons rfl (fun K hK => ?_) AllReadyH.nil)
          rw [if_pos (by rfl)]
          refine wp_store_mid 26 (.tmp 7) (.tmp 40) rfl g7 0 #[.int .u64 o0.a0, .int .u64 o0.a1, .int .u64 o0.a2, .int .u64 o0.a3, .int .u64 o0.a4, .int .u64 o0.a5, .int .u64 o0.a6, .int .u64 o0.a7] rfl rfl (b_g7.thereAll _ rfl) (by kernel_rfl) (by simp [Value.oneCell']) ?_
          have ks_g7 := b_g7.setCells #[.int .u64 o0.a0, .int .u64 o0.a1, .int .u64 o0.a2, .int .u64 o0.a3, .int .u64 o0.a4, .int .u64 o0.a5, .int .u64 o0.a6, .int .u64 o0.a7] rfl
          have lpS : LatP (· = g7) U4 (U4.setCells g7 0 (#[.int .u64 o0.a0, .int .u64 o0.a1, .int .u64 o0.a2, .int .u64 o0.a3, .int .u64 o0.a4, .int .u64 o0.a5, .int .u64 o0.a6, .int .u64 o0.a7] : Array Value).toList) := LatP.setCells _ _ _
          have U20L : Lat Va (U4.setCells g7 0 (#[.int .u64 o0.a0, .int .u64 o0.a1, .int .u64 o0.a2, .int .u64 o0.a3, .int .u64 o0.a4, .int .u64 o0.a5, .int .u64 o0.a6, .int .u64 o0.a7] : Array Value).toList) := Lat.setCells h_g7 _ _ _ L4
          have ks_g8 := b_g8.keepP lpS (by omega)
          obtain ⟨U20, hV9⟩ : ∃ V, U4.setCells g7 0 (#[.int .u64 o0.a0, .int .u64 o0.a1, .int .u64 o0.a2, .int .u64 o0.a3, .int .u64 o0.a4, .int .u64 o0.a5, .int .u64 o0.a6, .int .u64 o0.a7] : Array Value).toList = V := ⟨_, rfl⟩
          rw [hV9] at ks_g7 ks_g8 U20L ⊢
          clear hV9 lpS
          refine hK.out _ _ U20L (fun hHeld5 => ?_)
          clear hK K
          try simp only [Act.put, List.getElem_toArray, List.getElem_cons_succ, List.getElem_cons_zero, List.setIfInBounds_toArray, List.set_cons_zero, List.set_cons_succ]
          refine wpAnyH_ready (rs := [10]) (by kernel_rfl) (by simp) (AllReadyH.cons rfl (fun K hK => ?_) AllReadyH.nil)
          rw [if_pos (by rfl)]
          refine wp_store_mid 24 (.tmp 8) (.tmp 41) rfl g8 0 #[.int .u64 0] rfl rfl (ks_g8.thereAll _ rfl) (by kernel_rfl) (by simp [Value.oneCell']) ?_
          have ks_g8 := ks_g8.setCells #[.int .u64 0] rfl
          have lpS : LatP (· = g8) U20 (U20.setCells g8 0 (#[.int .u64 0] : Array Value).toList) := LatP.setCells _ _ _
          have U21L : Lat Va (U20.setCells g8 0 (#[.int .u64 0] : Array Value).toList) := Lat.setCells h_g8 _ _ _ U20L
          have ks_g7 := ks_g7.keepP lpS (by omega)
          obtain ⟨U21, hV9⟩ : ∃ V, U20.setCells g8 0 (#[.int .u64 0] : Array Value).toList = V := ⟨_, rfl⟩
          rw [hV9] at ks_g7 ks_g8 U21L ⊢
          clear hV9 lpS
          refine hK.out _ _ U21L (fun hHeld6 => ?_)
          clear hK K
          try simp only [Act.put, List.getElem_toArray, List.getElem_cons_succ, List.getElem_cons_zero, List.setIfInBounds_toArray, List.set_cons_zero, List.set_cons_succ]
          refine wpAnyH_take (i := 11) (v := .int .i64 0) rfl (by kernel_rfl) (by kernel_rfl) (by kernel_rfl) (fun _ _ _ h => h) (Or.inl ⟨by rfl, by intro w' hS; go_simp⟩) hHeld6 ?_
          simp only [Act.put, List.getElem_toArray, List.getElem_cons_succ, List.getElem_cons_zero, List.setIfInBounds_toArray, List.set_cons_zero, List.set_cons_succ]
          refine wpAnyH_done (by kernel_rfl) ?_ _
          exact TAIL11 _ _ _ _ _ _ _ _ _ _ _ _ _ _ _ _ _ _ _ _ _ _ _ _ _ _ _ _ _ _ _ _ _ _ _ _ _ _ _ _ _ _ _ _ _ _ _ _ _ _ _ _ _ _ _ _ _ _ _ _ _ _ _ _ _ _ _ _ _ _ _ _ _ _ _ _ _ _ _ _ _ _ _ _ _ _ _ _ _ _ _ _ _ _ _ _ _ _ _ _ _ _ _ _ _ _ _ _ _ _ _ _ _ _ _ _ _ _ _ _ _ _ _ _ _ _ _ _ _ _ _ _ _ _ _ _ _ _ _ _ _ _ _ _ _ _ _ _ _ _ _ _ _ _ _ _ _ _ _ _ _ _ _ _ _ _ _ g7 g8 U21 (LA.trans U21L) (k6.later U21L) ks_g7 ks_g8
      · skip
        go_simp
        have b_g8 := Blk.new U0 24 #[.int .u64 0]
        have h_g8 : Va.heap.size ≤ U0.heap.size := L0.size
        have la := Lat.alloc U0 (.cells #[.int .u64 0] 24)
        obtain ⟨U1, hV⟩ : ∃ V, U0.alloc (.cells #[.int .u64 0] 24) = V := ⟨_, rfl⟩
        rw [hV] at b_g8 la ⊢
        clear hV
        generalize U0.heap.size = g8 at *
        have L1 := L0.trans la
        refine hK.out _ _ L1 (fun hHeld1 => ?_)
        clear hK K
        try simp only [Act.put, List.getElem_toArray, List.getElem_cons_succ, List.getElem_cons_zero, List.setIfInBounds_toArray, List.set_cons_zero, List.set_cons_succ]
        clear la
        refine wpAnyH_ready (rs := [1, 7]) (by kernel_rfl) (by simp) (AllReadyH.cons rfl (fun K hK => ?_) (AllReadyH.cons rfl (fun K hK => ?_) AllReadyH.nil))
        · skip
          go_simp
          refine (HO1 _).mono ?_
          rintro e U2 ⟨rfl, la⟩
          have b_g8 := b_g8.later la
          have L2 := L1.trans la
          refine hK.out _ _ L2 (fun hHeld2 => ?_)
          clear hK K
          try simp only [Act.put, List.getElem_toArray, List.getElem_cons_succ, List.getElem_cons_zero, List.setIfInBounds_toArray, List.set_cons_zero, List.set_cons_succ]
          clear la
          refine wpAnyH_ready (rs := [2, 7]) (by kernel_rfl) (by simp) (AllReadyH.cons rfl (fun K hK => ?_) (AllReadyH.cons rfl (fun K hK => ?_) AllReadyH.nil))
          · skip
            go_simp
            refine (HW1 _).mono ?_
            rintro e U3 ⟨rfl, la⟩
            have b_g8 := b_g8.later la
            have L3 := L2.trans la
            refine hK.out _ _ L3 (fun hHeld3 => ?_)
            clear hK K
            try simp only [Act.put, List.getElem_toArray, List.getElem_cons_succ, List.getElem_cons_zero, List.setIfInBounds_toArray, List.set_cons_zero, List.set_cons_succ]
            clear la
            refine wpAnyH_take (i := 3) (v := .tuple #[.agg #[.int .u64 o0.a0, .int .u64 o0.a1, .int .u64 o0.a2, .int .u64 o0.a3, .int .u64 o0.a4, .int .u64 o0.a5, .int .u64 o0.a6, .int .u64 o0.a7], .agg #[.int .u64 0], .int .i64 0]) rfl (by kernel_rfl) (by kernel_rfl) (by kernel_rfl) (fun _ _ _ h => h) (Or.inl ⟨by rfl, by intro w' hS; go_simp⟩) hHeld3 ?_
            simp only [Act.put, List.getElem_toArray, List.getElem_cons_succ, List.getElem_cons_zero, List.setIfInBounds_toArray, List.set_cons_zero, List.set_cons_succ]
            refine wpAnyH_take (i := 4) (v := .agg #[.int .u64 o0.a0, .int .u64 o0.a1, .int .u64 o0.a2, .int .u64 o0.a3, .int .u64 o0.a4, .int .u64 o0.a5, .int .u64 o0.a6, .int .u64 o0.a7]) rfl (by kernel_rfl) (by kernel_rfl) (by kernel_rfl) (fun _ _ _ h => h) (Or.inl ⟨by rfl, by intro w' hS; go_simp⟩) hHeld3 ?_
            simp only [Act.put, List.getElem_toArray, List.getElem_cons_succ, List.getElem_cons_zero, List.setIfInBounds_toArray, List.set_cons_zero, List.set_cons_succ]
            refine wpAnyH_take (i := 5) (v := .agg #[.int .u64 0]) rfl (by kernel_rfl) (by kernel_rfl) (by kernel_rfl) (fun _ _ _ h => h) (Or.inl ⟨by rfl, by intro w' hS; go_simp⟩) hHeld3 ?_
            simp only [Act.put, List.getElem_toArray, List.getElem_cons_succ, List.getElem_cons_zero, List.setIfInBounds_toArray, List.set_cons_zero, List.set_cons_succ]
            refine wpAnyH_take (i := 6) (v := .int .i64 0) rfl (by kernel_rfl) (by kernel_rfl) (by kernel_rfl) (fun _ _ _ h => h) (Or.inl ⟨by rfl, by intro w' hS; go_simp⟩) hHeld3 ?_
            simp only [Act.put, List.getElem_toArray, List.getElem_cons_succ, List.getElem_cons_zero, List.setIfInBounds_toArray, List.set_cons_zero, List.set_cons_succ]
            refine wpAnyH_ready (rs := [7]) (by kernel_rfl) (by simp) (AllReadyH.cons rfl (fun K hK => ?_) AllReadyH.nil)
            go_simp
            have b_g7 := Blk.new U3 26 #[.int .u64 0, .int .u64 0, .int .u64 0, .int .u64 0, .int .u64 0, .int .u64 0, .int .u64 0, .int .u64 0]
            have h_g7 : Va.heap.size ≤ U3.heap.size := L3.size
            have la := Lat.alloc U3 (.cells #[.int .u64 0, .int .u64 0, .int .u64 0, .int .u64 0, .int .u64 0, .int .u64 0, .int .u64 0, .int .u64 0] 26)
            obtain ⟨U4, hV⟩ : ∃ V, U3.alloc (.cells #[.int .u64 0, .int .u64 0, .int .u64 0, .int .u64 0, .int .u64 0, .int .u64 0, .int .u64 0, .int .u64 0] 26) = V := ⟨_, rfl⟩
            rw [hV] at b_g7 la ⊢
            clear hV
            have hne : g8 ≠ U3.heap.size := by have := b_g8.lt; omega
            generalize U3.heap.size = g7 at *
            have b_g8 := b_g8.later la
            have L4 := L3.trans la
            refine hK.out _ _ L4 (fun hHeld4 => ?_)
            clear hK K
            try simp only [Act.put, List.getElem_toArray, List.getElem_cons_succ, List.getElem_cons_zero, List.setIfInBounds_toArray, List.set_cons_zero, List.set_cons_succ]
            clear la
            refine wpAnyH_ready (rs := [9]) (by kernel_rfl) (by simp) (AllReadyH.cons rfl (fun K hK => ?_) AllReadyH.nil)
            rw [if_pos (by rfl)]
            refine wp_store_mid 26 (.tmp 7) (.tmp 40) rfl g7 0 #[.int .u64 o0.a0, .int .u64 o0.a1, .int .u64 o0.a2, .int .u64 o0.a3, .int .u64 o0.a4, .int .u64 o0.a5, .int .u64 o0.a6, .int .u64 o0.a7] rfl rfl (b_g7.thereAll _ rfl) (by kernel_rfl) (by simp [Value.oneCell']) ?_
            have ks_g7 := b_g7.setCells #[.int .u64 o0.a0, .int .u64 o0.a1, .int .u64 o0.a2, .int .u64 o0.a3, .int .u64 o0.a4, .int .u64 o0.a5, .int .u64 o0.a6, .int .u64 o0.a7] rfl
            have lpS : LatP (· = g7) U4 (U4.setCells g7 0 (#[.int .u64 o0.a0, .int .u64 o0.a1, .int .u64 o0.a2, .int .u64 o0.a3, .int .u64 o0.a4, .int .u64 o0.a5, .int .u64 o0.a6, .int .u64 o0.a7] : Array Value).toList) := LatP.setCells _ _ _
            have U20L : Lat Va (U4.setCells g7 0 (#[.int .u64 o0.a0, .int .u64 o0.a1, .int .u64 o0.a2, .int .u64 o0.a3, .int .u64 o0.a4, .int .u64 o0.a5, .int .u64 o0.a6, .int .u64 o0.a7] : Array Value).toList) := Lat.setCells h_g7 _ _ _ L4
            have ks_g8 := b_g8.keepP lpS (by omega)
            obtain ⟨U20, hV9⟩ : ∃ V, U4.setCells g7 0 (#[.int .u64 o0.a0, .int .u64 o0.a1, .int .u64 o0.a2, .int .u64 o0.a3, .int .u64 o0.a4, .int .u64 o0.a5, .int .u64 o0.a6, .int .u64 o0.a7] : Array Value).toList = V := ⟨_, rfl⟩
            rw [hV9] at ks_g8 ks_g7 U20L ⊢
            clear hV9 lpS
            refine hK.out _ _ U20L (fun hHeld5 => ?_)
            clear hK K
            try simp only [Act.put, List.getElem_toArray, List.getElem_cons_succ, List.getElem_cons_zero, List.setIfInBounds_toArray, List.set_cons_zero, List.set_cons_succ]
            refine wpAnyH_ready (rs := [10]) (by kernel_rfl) (by simp) (AllReadyH.cons rfl (fun K hK => ?_) AllReadyH.nil)
            rw [if_pos (by rfl)]
            refine wp_store_mid 24 (.tmp 8) (.tmp 41) rfl g8 0 #[.int .u64 0] rfl rfl (ks_g8.thereAll _ rfl) (by kernel_rfl) (by simp [Value.oneCell']) ?_
            have ks_g8 := ks_g8.setCells #[.int .u64 0] rfl
            have lpS : LatP (· = g8) U20 (U20.setCells g8 0 (#[.int .u64 0] : Array Value).toList) := LatP.setCells _ _ _
            have U21L : Lat Va (U20.setCells g8 0 (#[.int .u64 0] : Array Value).toList) := Lat.setCells h_g8 _ _ _ U20L
            have ks_g7 := ks_g7.keepP lpS (by omega)
            obtain ⟨U21, hV9⟩ : ∃ V, U20.setCells g8 0 (#[.int .u64 0] : Array Value).toList = V := ⟨_, rfl⟩
            rw [hV9] at ks_g8 ks_g7 U21L ⊢
            clear hV9 lpS
            refine hK.out _ _ U21L (fun hHeld6 => ?_)
            clear hK K
            try simp only [Act.put, List.getElem_toArray, List.getElem_cons_succ, List.getElem_cons_zero, List.setIfInBounds_toArray, List.set_cons_zero, List.set_cons_succ]
            refine wpAnyH_take (i := 11) (v := .int .i64 0) rfl (by kernel_rfl) (by kernel_rfl) (by kernel_rfl) (fun _ _ _ h => h) (Or.inl ⟨by rfl, by intro w' hS; go_simp⟩) hHeld6 ?_
            simp only [Act.put, List.getElem_toArray, List.getElem_cons_succ, List.getElem_cons_zero, List.setIfInBounds_toArray, List.set_cons_zero, List.set_cons_succ]
            refine wpAnyH_done (by kernel_rfl) ?_ _
            exact TAIL11 _ _ _ _ _ _ _ _ _ _ _ _ _ _ _ _ _ _ _ _ _ _ _ _ _ _ _ _ _ _ _ _ _ _ _ _ _ _ _ _ _ _ _ _ _ _ _ _ _ _ _ _ _ _ _ _ _ _ _ _ _ _ _ _ _ _ _ _ _ _ _ _ _ _ _ _ _ _ _ _ _ _ _ _ _ _ _ _ _ _ _ _ _ _ _ _ _ _ _ _ _ _ _ _ _ _ _ _ _ _ _ _ _ _ _ _ _ _ _ _ _ _ _ _ _ _ _ _ _ _ _ _ _ _ _ _ _ _ _ _ _ _ _ _ _ _ _ _ _ _ _ _ _ _ _ _ _ _ _ _ _ _ _ _ _ _ _ g7 g8 U21 (LA.trans U21L) (k6.later U21L) ks_g7 ks_g8
          · skip
            go_simp
            have b_g7 := Blk.new U2 26 #[.int .u64 0, .int .u64 0, .int .u64 0, .int .u64 0, .int .u64 0, .int .u64 0, .int .u64 0, .int .u64 0]
            have h_g7 : Va.heap.size ≤ U2.heap.size := L2.size
            have la := Lat.alloc U2 (.cells #[.int .u64 0, .int .u64 0, .int .u64 0, .int .u64 0, .int .u64 0, .int .u64 0, .int .u64 0, .int .u64 0] 26)
            obtain ⟨U3, hV⟩ : ∃ V, U2.alloc (.cells #[.int .u64 0, .int .u64 0, .int .u64 0, .int .u64 0, .int .u64 0, .int .u64 0, .int .u64 0, .int .u64 0] 26) = V := ⟨_, rfl⟩
            rw [hV] at b_g7 la ⊢
            clear hV
            have hne : g8 ≠ U2.heap.size := by have := b_g8.lt; omega
            generalize U2.heap.size = g7 at *
            have b_g8 := b_g8.later la
            have L3 := L2.trans la
            refine hK.out _ _ L3 (fun hHeld3 => ?_)
            clear hK K
            try simp only [Act.put, List.getElem_toArray, List.getElem_cons_succ, List.getElem_cons_zero, List.setIfInBounds_toArray, List.set_cons_zero, List.set_cons_succ]
            clear la
            refine wpAnyH_ready (rs := [2]) (by kernel_rfl) (by simp) (AllReadyH.cons rfl (fun K hK => ?_) AllReadyH.nil)
            go_simp
            refine (HW1 _).mono ?_
            rintro e U4 ⟨rfl, la⟩
            have b_g8 := b_g8.later la
            have b_g7 := b_g7.later la
            have L4 := L3.trans la
            refine hK.out _ _ L4 (fun hHeld4 => ?_)
            clear hK K
            try simp only [Act.put, List.getElem_toArray, List.getElem_cons_succ, List.getElem_cons_zero, List.setIfInBounds_toArray, List.set_cons_zero, List.set_cons_succ]
            clear la
            refine wpAnyH_take (i := 3) (v := .tuple #[.agg #[.int .u64 o0.a0, .int .u64 o0.a1, .int .u64 o0.a2, .int .u64 o0.a3, .int .u64 o0.a4, .int .u64 o0.a5, .int .u64 o0.a6, .int .u64 o0.a7], .agg #[.int .u64 0], .int .i64 0]) rfl (by kernel_rfl) (by kernel_rfl) (by kernel_rfl) (fun _ _ _ h => h) (Or.inl ⟨by rfl, by intro w' hS; go_simp⟩) hHeld4 ?_
            simp only [Act.put, List.getElem_toArray, List.getElem_cons_succ, List.getElem_cons_zero, List.setIfInBounds_toArray, List.set_cons_zero, List.set_cons_succ]
            refine wpAnyH_take (i := 4) (v := .agg #[.int .u64 o0.a0, .int .u64 o0.a1, .int .u64 o0.a2, .int .u64 o0.a3, .int .u64 o0.a4, .int .u64 o0.a5, .int .u64 o0.a6, .int .u64 o0.a7]) rfl (by kernel_rfl) (by kernel_rfl) (by kernel_rfl) (fun _ _ _ h => h) (Or.inl ⟨by rfl, by intro w' hS; go_simp⟩) hHeld4 ?_
            simp only [Act.put, List.getElem_toArray, List.getElem_cons_succ, List.getElem_cons_zero, List.setIfInBounds_toArray, List.set_cons_zero, List.set_cons_succ]
            refine wpAnyH_take (i := 5) (v := .agg #[.int .u64 0]) rfl (by kernel_rfl) (by kernel_rfl) (by kernel_rfl) (fun _ _ _ h => h) (Or.inl ⟨by rfl, by intro w' hS; go_simp⟩) hHeld4 ?_
            simp only [Act.put, List.getElem_toArray, List.getElem_cons_succ, List.getElem_cons_zero, List.setIfInBounds_toArray, List.set_cons_zero, List.set_cons_succ]
            refine wpAnyH_take (i := 6) (v := .int .i64 0) rfl (by kernel_rfl) (by kernel_rfl) (by kernel_rfl) (fun _ _ _ h => h) (Or.inl ⟨by rfl, by intro w' hS; go_simp⟩) hHeld4 ?_
            simp only [Act.put, List.getElem_toArray, List.getElem_cons_succ, List.getElem_cons_zero, List.setIfInBounds_toArray, List.set_cons_zero, List.set_cons_succ]
            refine wpAnyH_ready (rs := [9]) (by kernel_rfl) (by simp) (AllReadyH.cons rfl (fun K hK => ?_) AllReadyH.nil)
            rw [if_pos (by rfl)]
            refine wp_store_mid 26 (.tmp 7) (.tmp 40) rfl g7 0 #[.int .u64 o0.a0, .int .u64 o0.a1, .int .u64 o0.a2, .int .u64 o0.a3, .int .u64 o0.a4, .int .u64 o0.a5, .int .u64 o0.a6, .int .u64 o0.a7] rfl rfl (b_g7.thereAll _ rfl) (by kernel_rfl) (by simp [Value.oneCell']) ?_
            have ks_g7 := b_g7.setCells #[.int .u64 o0.a0, .int .u64 o0.a1, .int .u64 o0.a2, .int .u64 o0.a3, .int .u64 o0.a4, .int .u64 o0.a5, .int .u64 o0.a6, .int .u64 o0.a7] rfl
            have lpS : LatP (· = g7) U4 (U4.setCells g7 0 (#[.int .u64 o0.a0, .int .u64 o0.a1, .int .u64 o0.a2, .int .u64 o0.a3, .int .u64 o0.a4, .int .u64 o0.a5, .int .u64 o0.a6, .int .u64 o0.a7] : Array Value).toList) := LatP.setCells _ _ _
            have U20L : Lat Va (U4.setCells g7 0 (#[.int .u64 o0.a0, .int .u64 o0.a1, .int .u64 o0.a2, .int .u64 o0.a3, .int .u64 o0.a4, .int .u64 o0.a5, .int .u64 o0.a6, .int .u64 o0.a7] : Array Value).toList) := Lat.setCells h_g7 _ _ _ L4
            have ks_g8 := b_g8.keepP lpS (by omega)
            obtain ⟨U20, hV9⟩ : ∃ V, U4.setCells g7 0 (#[.int .u64 o0.a0, .int .u64 o0.a1, .int .u64 o0.a2, .int .u64 o0.a3, .int .u64 o0.a4, .int .u64 o0.a5, .int .u64 o0.a6, .int .u64 o0.a7] : Array Value).toList = V := ⟨_, rfl⟩
            rw [hV9] at ks_g8 ks_g7 U20L ⊢
            clear hV9 lpS
            refine hK.out _ _ U20L (fun hHeld5 => ?_)
            clear hK K
            try simp only [Act.put, List.getElem_toArray, List.getElem_cons_succ, List.getElem_cons_zero, List.setIfInBounds_toArray, List.set_cons_zero, List.set_cons_succ]
            refine wpAnyH_ready (rs := [10]) (by kernel_rfl) (by simp) (AllReadyH.cons rfl (fun K hK => ?_) AllReadyH.nil)
            rw [if_pos (by rfl)]
            refine wp_store_mid 24 (.tmp 8) (.tmp 41) rfl g8 0 #[.int .u64 0] rfl rfl (ks_g8.thereAll _ rfl) (by kernel_rfl) (by simp [Value.oneCell']) ?_
            have ks_g8 := ks_g8.setCells #[.int .u64 0] rfl
            have lpS : LatP (· = g8) U20 (U20.setCells g8 0 (#[.int .u64 0] : Array Value).toList) := LatP.setCells _ _ _
            have U21L : Lat Va (U20.setCells g8 0 (#[.int .u64 0] : Array Value).toList) := Lat.setCells h_g8 _ _ _ U20L
            have ks_g7 := ks_g7.keepP lpS (by omega)
            obtain ⟨U21, hV9⟩ : ∃ V, U20.setCells g8 0 (#[.int .u64 0] : Array Value).toList = V := ⟨_, rfl⟩
            rw [hV9] at ks_g8 ks_g7 U21L ⊢
            clear hV9 lpS
            refine hK.out _ _ U21L (fun hHeld6 => ?_)
            clear hK K
            try simp only [Act.put, List.getElem_toArray, List.getElem_cons_succ, List.getElem_cons_zero, List.setIfInBounds_toArray, List.set_cons_zero, List.set_cons_succ]
            refine wpAnyH_take (i := 11) (v := .int .i64 0) rfl (by kernel_rfl) (by kernel_rfl) (by kernel_rfl) (fun _ _ _ h => h) (Or.inl ⟨by rfl, by intro w' hS; go_simp⟩) hHeld6 ?_
            simp only [Act.put, List.getElem_toArray, List.getElem_cons_succ, List.getElem_cons_zero, List.setIfInBounds_toArray, List.set_cons_zero, List.set_cons_succ]
            refine wpAnyH_done (by kernel_rfl) ?_ _
            exact TAIL11 _ _ _ _ _ _ _ _ _ _ _ _ _ _ _ _ _ _ _ _ _ _ _ _ _ _ _ _ _ _ _ _ _ _ _ _ _ _ _ _ _ _ _ _ _ _ _ _ _ _ _ _ _ _ _ _ _ _ _ _ _ _ _ _ _ _ _ _ _ _ _ _ _ _ _ _ _ _ _ _ _ _ _ _ _ _ _ _ _ _ _ _ _ _ _ _ _ _ _ _ _ _ _ _ _ _ _ _ _ _ _ _ _ _ _ _ _ _ _ _ _ _ _ _ _ _ _ _ _ _ _ _ _ _ _ _ _ _ _ _ _ _ _ _ _ _ _ _ _ _ _ _ _ _ _ _ _ _ _ _ _ _ _ _ _ _ _ g7 g8 U21 (LA.trans U21L) (k6.later U21L) ks_g7 ks_g8
        · skip
          go_simp
          have b_g7 := Blk.new U1 26 #[.int .u64 0, .int .u64 0, .int .u64 0, .int .u64 0, .int .u64 0, .int .u64 0, .int .u64 0, .int .u64 0]
          have h_g7 : Va.heap.size ≤ U1.heap.size := L1.size
          have la := Lat.alloc U1 (.cells #[.int .u64 0, .int .u64 0, .int .u64 0, .int .u64 0, .int .u64 0, .int .u64 0, .int .u64 0, .int .u64 0] 26)
          obtain ⟨U2, hV⟩ : ∃ V, U1.alloc (.cells #[.int .u64 0, .int .u64 0, .int .u64 0, .int .u64 0, .int .u64 0, .int .u64 0, .int .u64 0, .int .u64 0] 26) = V := ⟨_, rfl⟩
          rw [hV] at b_g7 la ⊢
          clear hV
          have hne : g8 ≠ U1.heap.size := by have := b_g8.lt; omega
          generalize U1.heap.size = g7 at *
          have b_g8 := b_g8.later la
          have L2 := L1.trans la
          refine hK.out _ _ L2 (fun hHeld2 => ?_)
          clear hK K
          try simp only [Act.put, List.getElem_toArray, List.getElem_cons_succ, List.getElem_cons_zero, List.setIfInBounds_toArray, List.set_cons_zero, List.set_cons_succ]
          clear la
          refine wpAnyH_ready (rs := [1]) (by kernel_rfl) (by simp) (AllReadyH.cons rfl (fun K hK => ?_) AllReadyH.nil)
          go_simp
          refine (HO1 _).mono ?_
          rintro e U3 ⟨rfl, la⟩
          have b_g8 := b_g8.later la
          have b_g7 := b_g7.later la
          have L3 := L2.trans la
          refine hK.out _ _ L3 (fun hHeld3 => ?_)
          clear hK K
          try simp only [Act.put, List.getElem_toArray, List.getElem_cons_succ, List.getElem_cons_zero, List.setIfInBounds_toArray, List.set_cons_zero, List.set_cons_succ]
          clear la
          refine wpAnyH_ready (rs := [2]) (by kernel_rfl) (by simp) (AllReadyH.cons rfl (fun K hK => ?_) AllReadyH.nil)
          go_simp
          refine (HW1 _).mono ?_
          rintro e U4 ⟨rfl, la⟩
          have b_g8 := b_g8.later la
          have b_g7 := b_g7.later la
          have L4 := L3.trans la
          refine hK.out _ _ L4 (fun hHeld4 => ?_)
          clear hK K
          try simp only [Act.put, List.getElem_toArray, List.getElem_cons_succ, List.getElem_cons_zero, List.setIfInBounds_toArray, List.set_cons_zero, List.set_cons_succ]
          clear la
          refine wpAnyH_take (i := 3) (v := .tuple #[.agg #[.int .u64 o0.a0, .int .u64 o0.a1, .int .u64 o0.a2, .int .u64 o0.a3, .int .u64 o0.a4, .int .u64 o0.a5, .int .u64 o0.a6, .int .u64 o0.a7], .agg #[.int .u64 0], .int .i64 0]) rfl (by kernel_rfl) (by kernel_rfl) (by kernel_rfl) (fun _ _ _ h => h) (Or.inl ⟨by rfl, by intro w' hS; go_simp⟩) hHeld4 ?_
          simp only [Act.put, List.getElem_toArray, List.getElem_cons_succ, List.getElem_cons_zero, List.setIfInBounds_toArray, List.set_cons_zero, List.set_cons_succ]
          refine wpAnyH_take (i := 4) (v := .agg #[.int .u64 o0.a0, .int .u64 o0.a1, .int .u64 o0.a2, .int .u64 o0.a3, .int .u64 o0.a4, .int .u64 o0.a5, .int .u64 o0.a6, .int .u64 o0.a7]) rfl (by kernel_rfl) (by kernel_rfl) (by kernel_rfl) (fun _ _ _ h => h) (Or.inl ⟨by rfl, by intro w' hS; go_simp⟩) hHeld4 ?_
          simp only [Act.put, List.getElem_toArray, List.getElem_cons_succ, List.getElem_cons_zero, List.setIfInBounds_toArray, List.set_cons_zero, List.set_cons_succ]
          refine wpAnyH_take (i := 5) (v := .agg #[.int .u64 0]) rfl (by kernel_rfl) (by kernel_rfl) (by kernel_rfl) (fun _ _ _ h => h) (Or.inl ⟨by rfl, by intro w' hS; go_simp⟩) hHeld4 ?_
          simp only [Act.put, List.getElem_toArray, List.getElem_cons_succ, List.getElem_cons_zero, List.setIfInBounds_toArray, List.set_cons_zero, List.set_cons_succ]
          refine wpAnyH_take (i := 6) (v := .int .i64 0) rfl (by kernel_rfl) (by kernel_rfl) (by kernel_rfl) (fun _ _ _ h => h) (Or.inl ⟨by rfl, by intro w' hS; go_simp⟩) hHeld4 ?_
          simp only [Act.put, List.getElem_toArray, List.getElem_cons_succ, List.getElem_cons_zero, List.setIfInBounds_toArray, List.set_cons_zero, List.set_cons_succ]
          refine wpAnyH_ready (rs := [9]) (by kernel_rfl) (by simp) (AllReadyH.cons rfl (fun K hK => ?_) AllReadyH.nil)
          rw [if_pos (by rfl)]
          refine wp_store_mid 26 (.tmp 7) (.tmp 40) rfl g7 0 #[.int .u64 o0.a0, .int .u64 o0.a1, .int .u64 o0.a2, .int .u64 o0.a3, .int .u64 o0.a4, .int .u64 o0.a5, .int .u64 o0.a6, .int .u64 o0.a7] rfl rfl (b_g7.thereAll _ rfl) (by kernel_rfl) (by simp [Value.oneCell']) ?_
          have ks_g7 := b_g7.setCells #[.int .u64 o0.a0, .int .u64 o0.a1, .int .u64 o0.a2, .int .u64 o0.a3, .int .u64 o0.a4, .int .u64 o0.a5, .int .u64 o0.a6, .int .u64 o0.a7] rfl
          have lpS : LatP (· = g7) U4 (U4.setCells g7 0 (#[.int .u64 o0.a0, .int .u64 o0.a1, .int .u64 o0.a2, .int .u64 o0.a3, .int .u64 o0.a4, .int .u64 o0.a5, .int .u64 o0.a6, .int .u64 o0.a7] : Array Value).toList) := LatP.setCells _ _ _
          have U20L : Lat Va (U4.setCells g7 0 (#[.int .u64 o0.a0, .int .u64 o0.a1, .int .u64 o0.a2, .int .u64 o0.a3, .int .u64 o0.a4, .int .u64 o0.a5, .int .u64 o0.a6, .int .u64 o0.a7] : Array Value).toList) := Lat.setCells h_g7 _ _ _ L4
          have ks_g8 := b_g8.keepP lpS (by omega)
          obtain ⟨U20, hV9⟩ : ∃ V, U4.setCells g7 0 (#[.int .u64 o0.a0, .int .u64 o0.a1, .int .u64 o0.a2, .int .u64 o0.a3, .int .u64 o0.a4, .int .u64 o0.a5, .int .u64 o0.a6, .int .u64 o0.a7] : Array Value).toList = V := ⟨_, rfl⟩
          rw [hV9] at ks_g8 ks_g7 U20L ⊢
          clear hV9 lpS
          refine hK.out _ _ U20L (fun hHeld5 => ?_)
          clear hK K
          try simp only [Act.put, List.getElem_toArray, List.getElem_cons_succ, List.getElem_cons_zero, List.setIfInBounds_toArray, List.set_cons_zero, List.set_cons_succ]
          refine wpAnyH_ready (rs := [10]) (by kernel_rfl) (by simp) (AllReadyH.cons rfl (fun K hK => ?_) AllReadyH.nil)
          rw [if_pos (by rfl)]
          refine wp_store_mid 24 (.tmp 8) (.tmp 41) rfl g8 0 #[.int .u64 0] rfl rfl (ks_g8.thereAll _ rfl) (by kernel_rfl) (by simp [Value.oneCell']) ?_
          have ks_g8 := ks_g8.setCells #[.int .u64 0] rfl
          have lpS : LatP (· = g8) U20 (U20.setCells g8 0 (#[.int .u64 0] : Array Value).toList) := LatP.setCells _ _ _
          have U21L : Lat Va (U20.setCells g8 0 (#[.int .u64 0] : Array Value).toList) := Lat.setCells h_g8 _ _ _ U20L
          have ks_g7 := ks_g7.keepP lpS (by omega)
          obtain ⟨U21, hV9⟩ : ∃ V, U20.setCells g8 0 (#[.int .u64 0] : Array Value).toList = V := ⟨_, rfl⟩
          rw [hV9] at ks_g8 ks_g7 U21L ⊢
          clear hV9 lpS
          refine hK.out _ _ U21L (fun hHeld6 => ?_)
          clear hK K
          try simp only [Act.put, List.getElem_toArray, List.getElem_cons_succ, List.getElem_cons_zero, List.setIfInBounds_toArray, List.set_cons_zero, List.set_cons_succ]
          refine wpAnyH_take (i := 11) (v := .int .i64 0) rfl (by kernel_rfl) (by kernel_rfl) (by kernel_rfl) (fun _ _ _ h => h) (Or.inl ⟨by rfl, by intro w' hS; go_simp⟩) hHeld6 ?_
          simp only [Act.put, List.getElem_toArray, List.getElem_cons_succ, List.getElem_cons_zero, List.setIfInBounds_toArray, List.set_cons_zero, List.set_cons_succ]
          refine wpAnyH_done (by kernel_rfl) ?_ _
          exact TAIL11 _ _ _ _ _ _ _ _ _ _ _ _ _ _ _ _ _ _ _ _ _ _ _ _ _ _ _ _ _ _ _ _ _ _ _ _ _ _ _ _ _ _ _ _ _ _ _ _ _ _ _ _ _ _ _ _ _ _ _ _ _ _ _ _ _ _ _ _ _ _ _ _ _ _ _ _ _ _ _ _ _ _ _ _ _ _ _ _ _ _ _ _ _ _ _ _ _ _ _ _ _ _ _ _ _ _ _ _ _ _ _ _ _ _ _ _ _ _ _ _ _ _ _ _ _ _ _ _ _ _ _ _ _ _ _ _ _ _ _ _ _ _ _ _ _ _ _ _ _ _ _ _ _ _ _ _ _ _ _ _ _ _ _ _ _ _ _ g7 g8 U21 (LA.trans U21L) (k6.later U21L) ks_g7 ks_g8
end Go.Proofs.YtogkkhaepfablaaGreat
