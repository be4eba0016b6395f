/- Several texts in one: FkB. -/
import Derived.Test.YtkjnjooggicgiaaGreatF07

/- FairKnown answers true, whatever the world. -/
namespace Go.Proofs.YtkjnjooggicgiaaGreat
open Go.RowKit Go.Shelf
set_option linter.unusedSimpArgs false
set_option maxRecDepth 100000 in
set_option maxHeartbeats 8000000 in
theorem fKnown_law (w : World) : Calls Tryz.prog 3 #[] w (Yes9 w) := by
  go_enter Tryz.func3, Tryz.ntmps3
  go_wp2_with fail
  refine (wakes9_any w).mono ?_
  rintro e w1 ⟨rfl, l1⟩
  go_wp2_with fail
  refine name10 (Q := fun W => Code.wp _ _ _ _ W) ?_
  intro W1 L1 hs1 k0 k1 k2 k3 k4 k5 k6 k7 k8 k9
  have p1 : ∀ w', Lat W1 w' → Sl w' .i64 (some ⟨w1.heap.size, 0, none⟩) 3 [9, 5, 3] := fun w' h => Sl.of_blk' (t := 3) (k0.later h) rfl
  have hcase : ∀ j, j < 8 → ∃ A n c P A' n' c' S er, (#[(.slice none 0 0 : Value), .slice none 0 0, .int .i64 60, .slice (some ⟨w1.heap.size + 1, 0, none⟩) 1 1, .slice (some ⟨w1.heap.size + 1 + 1, 0, none⟩) 1 1, .int .i64 60, .slice (some ⟨w1.heap.size, 0, none⟩) 3 3, .slice (some ⟨w1.heap.size + 1 + 1 + 1, 0, none⟩) 2 2, .int .i64 2, .slice (some ⟨w1.heap.size, 0, none⟩) 3 3, .slice (some ⟨w1.heap.size + 1 + 1 + 1 + 1, 0, none⟩) 4 4, .int .i64 2, .slice (some ⟨w1.heap.size, 0, none⟩) 3 3, .slice (some ⟨w1.heap.size + 1 + 1 + 1 + 1 + 1, 0, none⟩) 3 3, .int .i64 2, .slice (some ⟨w1.heap.size, 0, none⟩) 3 3, .slice (some ⟨w1.heap.size + 1 + 1 + 1 + 1 + 1 + 1, 0, none⟩) 3 3, .int .i64 2, .slice (some ⟨w1.heap.size, 0, none⟩) 3 3, .slice (some ⟨w1.heap.size + 1 + 1 + 1 + 1 + 1 + 1 + 1, 0, none⟩) 3 3, .int .i64 2, .slice (some ⟨w1.heap.size, 0, none⟩) 3 3, .slice (some ⟨w1.heap.size + 1 + 1 + 1 + 1 + 1 + 1 + 1 + 1, 0, none⟩) 3 3, .int .i64 2] : Array Value)[j * 3]? = some (.slice A n c) ∧ (#[(.slice none 0 0 : Value), .slice none 0 0, .int .i64 60, .slice (some ⟨w1.heap.size + 1, 0, none⟩) 1 1, .slice (some ⟨w1.heap.size + 1 + 1, 0, none⟩) 1 1, .int .i64 60, .slice (some ⟨w1.heap.size, 0, none⟩) 3 3, .slice (some ⟨w1.heap.size + 1 + 1 + 1, 0, none⟩) 2 2, .int .i64 2, .slice (some ⟨w1.heap.size, 0, none⟩) 3 3, .slice (some ⟨w1.heap.size + 1 + 1 + 1 + 1, 0, none⟩) 4 4, .int .i64 2, .slice (some ⟨w1.heap.size, 0, none⟩) 3 3, .slice (some ⟨w1.heap.size + 1 + 1 + 1 + 1 + 1, 0, none⟩) 3 3, .int .i64 2, .slice (some ⟨w1.heap.size, 0, none⟩) 3 3, .slice (some ⟨w1.heap.size + 1 + 1 + 1 + 1 + 1 + 1, 0, none⟩) 3 3, .int .i64 2, .slice (some ⟨w1.heap.size, 0, none⟩) 3 3, .slice (some ⟨w1.heap.size + 1 + 1 + 1 + 1 + 1 + 1 + 1, 0, none⟩) 3 3, .int .i64 2, .slice (some ⟨w1.heap.size, 0, none⟩) 3 3, .slice (some ⟨w1.heap.size + 1 + 1 + 1 + 1 + 1 + 1 + 1 + 1, 0, none⟩) 3 3, .int .i64 2] : Array Value)[j * 3 + 1]? = some (.slice A' n' c') ∧ (#[(.slice none 0 0 : Value), .slice none 0 0, .int .i64 60, .slice (some ⟨w1.heap.size + 1, 0, none⟩) 1 1, .slice (some ⟨w1.heap.size + 1 + 1, 0, none⟩) 1 1, .int .i64 60, .slice (some ⟨w1.heap.size, 0, none⟩) 3 3, .slice (some ⟨w1.heap.size + 1 + 1 + 1, 0, none⟩) 2 2, .int .i64 2, .slice (some ⟨w1.heap.size, 0, none⟩) 3 3, .slice (some ⟨w1.heap.size + 1 + 1 + 1 + 1, 0, none⟩) 4 4, .int .i64 2, .slice (some ⟨w1.heap.size, 0, none⟩) 3 3, .slice (some ⟨w1.heap.size + 1 + 1 + 1 + 1 + 1, 0, none⟩) 3 3, .int .i64 2, .slice (some ⟨w1.heap.size, 0, none⟩) 3 3, .slice (some ⟨w1.heap.size + 1 + 1 + 1 + 1 + 1 + 1, 0, none⟩) 3 3, .int .i64 2, .slice (some ⟨w1.heap.size, 0, none⟩) 3 3, .slice (some ⟨w1.heap.size + 1 + 1 + 1 + 1 + 1 + 1 + 1, 0, none⟩) 3 3, .int .i64 2, .slice (some ⟨w1.heap.size, 0, none⟩) 3 3, .slice (some ⟨w1.heap.size + 1 + 1 + 1 + 1 + 1 + 1 + 1 + 1, 0, none⟩) 3 3, .int .i64 2] : Array Value)[j * 3 + 2]? = some (.int .i64 er) ∧ Sl W1 .i64 A n P ∧ Sl W1 .i64 A' n' S ∧ hallE P S = er ∧ er ≠ 0 ∧ n ≤ 100 ∧ n' ≤ 100 ∧ P.length < 20 := by
    intro j hj
    match j, hj with
    | 0, _ => exact ⟨_, _, _, [], _, _, _, [], 60, rfl, rfl, rfl, Sl.nil _ _ _, Sl.nil _ _ _, kf_h0, by decide, by decide, by decide, by decide⟩
    | 1, _ => exact ⟨_, _, _, [0], _, _, _, [-1], 60, rfl, rfl, rfl, Sl.of_blk' (t := 3) k1 rfl, Sl.of_blk' (t := 3) k2 rfl, kf_h1, by decide, by decide, by decide, by decide⟩
    | 2, _ => exact ⟨_, _, _, [9, 5, 3], _, _, _, [1, 1], 2, rfl, rfl, rfl, Sl.of_blk' (t := 3) k0 rfl, Sl.of_blk' (t := 3) k3 rfl, kf_h2, by decide, by decide, by decide, by decide⟩
    | 3, _ => exact ⟨_, _, _, [9, 5, 3], _, _, _, [1, 1, 1, 1], 2, rfl, rfl, rfl, Sl.of_blk' (t := 3) k0 rfl, Sl.of_blk' (t := 3) k4 rfl, kf_h3, by decide, by decide, by decide, by decide⟩
    | 4, _ => exact ⟨_, _, _, [9, 5, 3], _, _, _, [0, 0, 0], 2, rfl, rfl, rfl, Sl.of_blk' (t := 3) k0 rfl, Sl.of_blk' (t := 3) k5 rfl, kf_h4, by decide, by decide, by decide, by decide⟩
    | 5, _ => exact ⟨_, _, _, [9, 5, 3], _, _, _, [-1, 1, 1], 2, rfl, rfl, rfl, Sl.of_blk' (t := 3) k0 rfl, Sl.of_blk' (t := 3) k6 rfl, kf_h5, by decide, by decide, by decide, by decide⟩
    | 6, _ => exact ⟨_, _, _, [9, 5, 3], _, _, _, [1000, 1, 0], 2, rfl, rfl, rfl, Sl.of_blk' (t := 3) k0 rfl, Sl.of_blk' (t := 3) k7 rfl, kf_h6, by decide, by decide, by decide, by decide⟩
    | 7, _ => exact ⟨_, _, _, [9, 5, 3], _, _, _, [1001, 0, 0], 2, rfl, rfl, rfl, Sl.of_blk' (t := 3) k0 rfl, Sl.of_blk' (t := 3) k8 rfl, kf_h7, by decide, by decide, by decide, by decide⟩
  have HC := Lib.hid hcase
  clear hcase k0 k1 k2 k3 k4 k5 k6 k7 k8 hs1
  go_loopw [67] (fun i wr => ∃ j : Nat, j ≤ 8 ∧ i = .int .i64 j ∧ Lat W1 wr) (fun i _ => 8 - (intOf i).toNat)
  case atStart => exact ⟨0, by omega, rfl, Lat.refl _⟩
  case round =>
    obtain ⟨j, hj, rfl, hl⟩ := hrel
    by_cases hlt : j < 8
    · obtain ⟨A, n, c, P, A', n', c', S, er, d0, d1, d2, sp, ss, hE, hne, hn, hn', hf⟩ := HC.out j hlt
      have hr := row3 (k9.later hl) d0 d1 d2
      have hltI : (j : Int) < 8 := by omega
      have HB := fun c c' w (h : Sl w .i64 A n P) (h' : Sl w .i64 A' n' S) => breaks_no hE hne A n c A' n' c' w h h' (by omega) (by omega)
      have HU := fun c c' w (h : Sl w .i64 A n P) (h' : Sl w .i64 A' n' S) => unst_no (unstE_no 0 hE hne) hne A n c A' n' c' w h h' (by omega) (by omega)
      obtain ⟨X, G, HBi0⟩ := bias_lit (biasE_no 0 hE hne) hf
      have HBi := fun c c' w (h : Sl w .i64 A n P) (h' : Sl w .i64 A' n' S) => HBi0 A n c A' n' c' w h h' (by omega) (by omega)
      have i1 := Lib.hid G.info
      have z1 := Lib.hid G.1
      have e1 := Lib.hid G.2.1
      clear G d0 d1 d2 HBi0 hE hne hf hn hn' hj
      go_wp2_with (refine wpList_load_mid (by rfl) 25 (.tmp 69) (by rfl) (w1.heap.size + 1 + 1 + 1 + 1 + 1 + 1 + 1 + 1 + 1) (j * 3) (by rfl) [.slice A n c, .slice A' n' c', .int .i64 er] _ hr Tryz.underlying25 rfl str3 ?_)
      refine name1 (Q := fun W => Calls _ _ _ W _) ?_
      intro W2 L2 hs2 b
      refine (HB _ _ W2 (sp.later (hl.trans L2)) (ss.later (hl.trans L2))).mono ?_
      rintro e V1 ⟨rfl, lv⟩
      have b1 := b.later lv
      have q0 := b1.cell 0
      have q1 := b1.cell 1
      have LV := (hl.trans L2).trans lv
      clear HB lv L2 hs2 b hr
      go_wp2_with fail
      refine (HU _ _ V1 (sp.later LV) (ss.later LV)).mono ?_
      rintro e V2 ⟨rfl, lv⟩
      have b2 := b1.later lv
      have LV := LV.trans lv
      clear q0 q1 b1 lv HU
      have q0 := b2.cell 0
      have q1 := b2.cell 1
      go_wp2_with fail
      refine (HBi _ _ V2 (sp.later LV) (ss.later LV)).mono ?_
      rintro e V3 ⟨rfl, lv⟩
      have K0 := Blk.new V3 35 #[.int .u64 W8.zero.a0, .int .u64 W8.zero.a1, .int .u64 W8.zero.a2, .int .u64 W8.zero.a3, .int .u64 W8.zero.a4, .int .u64 W8.zero.a5, .int .u64 W8.zero.a6, .int .u64 W8.zero.a7, .int .u64 W8.zero.a0, .int .u64 W8.zero.a1, .int .u64 W8.zero.a2, .int .u64 W8.zero.a3, .int .u64 W8.zero.a4, .int .u64 W8.zero.a5, .int .u64 W8.zero.a6, .int .u64 W8.zero.a7]
      clear q0 q1
      go_wp2_with (refine wpList_put rfl 35 (.tmp 8) (.tmp 93) (by rfl) (by rfl) V3.heap.size (by rfl) X (by rfl) K0 (by rw [z1.out]; rfl) i1.out e1.out ?_; intro U1 hput; have m1 := hput.lat V2 (lv.trans (Lat.alloc _ _)) (by have := lv.size; omega); have b3 := b2.later m1; have q2 := b3.cell 2)
      have LV := LV.trans m1
      clear K0 hput lv m1 HBi b2 b3 q2
      go_roundw
      case rel => exact ⟨j + 1, by omega, by go_num, LV⟩
      case measure => simp [intOf]; omega
    · obtain rfl : j = 8 := by omega
      clear hj hlt HC k9
      go_wp2_with fail
      refine name1 (Q := fun W => Code.wp _ _ _ _ W) ?_
      intro Z1 M1 hz1 b1
      clear hz1
      generalize wr.heap.size = b9 at b1 ⊢
      have hM := hl.trans M1
      clear M1 hl
      go_loopw [122] (fun i wr => ∃ j : Nat, j ≤ 8 ∧ i = .int .i64 j ∧ Lat Z1 wr) (fun i _ => 8 - (intOf i).toNat)
      case atStart => exact ⟨0, by omega, rfl, Lat.refl _⟩
      case round =>
        obtain ⟨j, hj, rfl, hl2⟩ := hrel
        by_cases hlt : j < 8
        · obtain ⟨m, p, s, q, t, d0, d1, d2, d3, d4, hm1, hm2⟩ := kf_x j hlt
          have hr := row5 (b1.later hl2) d0 d1 d2 d3 d4
          have hltI : (j : Int) < 8 := by omega
          have HM := fun w => fMeasure_any m p s q t w
          have HH := fun w => fHelps_any m p s q t w
          rw [hm1] at HM
          rw [hm2] at HH
          generalize mvH m p s q t = hb at HH
          have G := mX_good m p s q t
          generalize mX m p s q t = X at HM G
          have i1 := Lib.hid G.info
          have z1 := Lib.hid G.1
          have e1 := Lib.hid G.2.1
          clear G d0 d1 d2 d3 d4 hm1 hm2 hj
          go_wp2_with (refine wpList_load_mid (by rfl) 38 (.tmp 124) (by rfl) b9 (j * 5) (by rfl) [.int .i64 m, .int .i64 p, .int .i64 s, .int .i64 q, .int .i64 t] _ hr Tryz.underlying38 rfl arr5 ?_)
          refine name1 (Q := fun W => Calls _ _ _ W _) ?_
          intro W2 L2 hs2 b
          refine (HM W2).mono ?_
          rintro e V1 ⟨rfl, lv⟩
          have K0 := Blk.new V1 35 #[.int .u64 W8.zero.a0, .int .u64 W8.zero.a1, .int .u64 W8.zero.a2, .int .u64 W8.zero.a3, .int .u64 W8.zero.a4, .int .u64 W8.zero.a5, .int .u64 W8.zero.a6, .int .u64 W8.zero.a7, .int .u64 W8.zero.a0, .int .u64 W8.zero.a1, .int .u64 W8.zero.a2, .int .u64 W8.zero.a3, .int .u64 W8.zero.a4, .int .u64 W8.zero.a5, .int .u64 W8.zero.a6, .int .u64 W8.zero.a7]
          go_wp2_with (refine wpList_put rfl 35 (.tmp 12) (.tmp 138) (by rfl) (by rfl) V1.heap.size (by rfl) X (by rfl) K0 (by rw [z1.out]; rfl) i1.out e1.out ?_; intro U1 hput; have m1 := hput.lat W2 (lv.trans (Lat.alloc _ _)) (by have := lv.size; omega); have b3 := b.later m1; have q0 := b3.cell 0; have q1 := b3.cell 1; have q2 := b3.cell 2; have q3 := b3.cell 3; have q4 := b3.cell 4)
          have LV := (hl2.trans L2).trans m1
          clear K0 hput lv m1 HM b b3 hr L2 hs2
          refine (HH U1).mono ?_
          rintro e V2 ⟨rfl, lv⟩
          have LV := LV.trans lv
          clear q0 q1 q2 q3 q4 lv HH
          go_wp2
          go_roundw
          case rel => exact ⟨_, _, _, _, _, _, _, _, _, _, _, _, _, _, _, _, _, _, _, _, _, _, _, _, _, _, _, _, _, _, _, _, _, _, _, _, _, _, _, _, _, _, _, _, _, ⟨j + 1, by omega, by go_num, LV⟩, rfl⟩
          case measure => simp [intOf]; omega
        · obtain rfl : j = 8 := by omega
          clear hj hlt b1
          have p1 : ∀ w', Lat wr w' → Sl w' .i64 (some ⟨w1.heap.size, 0, none⟩) 3 [9, 5, 3] := fun w' h => p1 w' (hM.trans (hl2.trans h))
          have HA := fun w => fHelps_any 14 1 0 1 1 w
          have HBb := fun w => fHelps_any 14 1 1 1 1000 w
          have HI := fun w => fHelps_any 12 4 1 5 0 w
          have HJ := fun w => fHelps_any 13 4 2 5 0 w
          rw [kf_a] at HA
          rw [kf_b] at HBb
          rw [kf_i.1, kf_i.2] at HI
          rw [kf_j.1, kf_j.2] at HJ
          generalize mvH 14 1 0 1 1 = hb1 at HA
          generalize mvH 14 1 1 1 1000 = hb2 at HBb
          have HD := fun (A B : Option Addr) (c c' : Nat) w (h : Sl w .i64 A 3 [9, 5, 3]) (h' : Sl w .i64 B 3 [1, 1, 1]) => unst_no kf_d (by decide) A 3 c B 3 c' w h h' (by decide) (by decide)
          have HK := fun (A B : Option Addr) (c c' : Nat) w (h : Sl w .i64 A 3 [9, 5, 3]) (h' : Sl w .i64 B 3 [1000, 0, 0]) => breaks_lit (P := [9, 5, 3]) (S := [1000, 0, 0]) (xs := [(0, 1), (1, -1), (2, -1)]) (by decide +kernel) (by decide +kernel) A 3 c B 3 c' w h h' (by decide) (by decide)
          have HL := fun w => fMeasure_any 15 1 1000 1000000000 0 w
          rw [kf_l.1, kf_l.2] at HL
          have HF := fun w => l9_of 1000000000000 1 w (by decide) (by decide) (by decide) (by decide)
          have GL := shA_good 1000000000000 1
          obtain ⟨XL, hXL⟩ : ∃ X, shA 1000000000000 1 = X := ⟨_, rfl⟩
          rw [hXL] at HL HF GL
          clear hXL
          have iL := Lib.hid GL.info
          have zL := Lib.hid GL.1
          have cL := Lib.hid GL.2.1
          have E1 := fun w => GL.eql w
          have hgd := Lib.hid shGuard
          clear GL
          obtain ⟨XE, GE, HE⟩ := bias_lit kf_e (by decide)
          have iE := Lib.hid GE.info
          have zE := Lib.hid GE.1
          have cE := Lib.hid GE.2.1
          clear GE
          obtain ⟨XF, GF, HF⟩ := bias_lit kf_f (by decide)
          have iF := Lib.hid GF.info
          have zF := Lib.hid GF.1
          have cF := Lib.hid GF.2.1
          clear GF
          obtain ⟨XG, GG, HG⟩ := bias_lit kf_g (by decide)
          have iG := Lib.hid GG.info
          have zG := Lib.hid GG.1
          have cG := Lib.hid GG.2.1
          clear GG
          obtain ⟨XH, GH, HH⟩ := bias_lit kf_h (by decide)
          have iH := Lib.hid GH.info
          have zH := Lib.hid GH.1
          have cH := Lib.hid GH.2.1
          clear GH
          go_wp2_with fail
          have LL := Lat.refl wr
          refine (HA wr).mono ?_
          rintro e V0 ⟨rfl, lv⟩
          have LL := LL.trans lv
          clear lv HA
          go_wp2_with fail
          refine (HBb V0).mono ?_
          rintro e V1 ⟨rfl, lv⟩
          have LL := LL.trans lv
          clear lv HBb
          go_wp2_with fail
          refine name1 (Q := fun W => Calls _ _ _ W _) ?_
          intro Q1 N1 hq1 b
          have LL := LL.trans N1
          refine (HD _ _ _ _ Q1 (p1 _ LL) (Sl.of_blk' (t := 3) b rfl)).mono ?_
          rintro e V2 ⟨rfl, lv⟩
          have LL := LL.trans lv
          clear lv HD N1 hq1 b
          go_wp2_with fail
          refine name1 (Q := fun W => Calls _ _ _ W _) ?_
          intro QE NE hqE b
          have LL := LL.trans NE
          refine (HE _ _ _ _ _ _ QE (p1 _ LL) (Sl.of_blk' (t := 3) b rfl) (by decide) (by decide)).mono ?_
          rintro e VE ⟨rfl, lv⟩
          have K0 := Blk.new VE 35 #[.int .u64 W8.zero.a0, .int .u64 W8.zero.a1, .int .u64 W8.zero.a2, .int .u64 W8.zero.a3, .int .u64 W8.zero.a4, .int .u64 W8.zero.a5, .int .u64 W8.zero.a6, .int .u64 W8.zero.a7, .int .u64 W8.zero.a0, .int .u64 W8.zero.a1, .int .u64 W8.zero.a2, .int .u64 W8.zero.a3, .int .u64 W8.zero.a4, .int .u64 W8.zero.a5, .int .u64 W8.zero.a6, .int .u64 W8.zero.a7]
          clear b NE hqE HE
          go_wp2_with (refine wpList_put rfl 35 (.tmp 22) (.tmp 179) (by rfl) (by rfl) VE.heap.size (by rfl) XE (by rfl) K0 (by rw [zE.out]; rfl) iE.out cE.out ?_; intro UE hput; have m1 := hput.lat QE (lv.trans (Lat.alloc _ _)) (by have := lv.size; omega))
          have LL := LL.trans m1
          clear K0 hput lv m1 iE zE cE
          refine name1 (Q := fun W => Calls _ _ _ W _) ?_
          intro QF NF hqF b
          have LL := LL.trans NF
          refine (HF _ _ _ _ _ _ QF (p1 _ LL) (Sl.of_blk' (t := 3) b rfl) (by decide) (by decide)).mono ?_
          rintro e VF ⟨rfl, lv⟩
          have K0 := Blk.new VF 35 #[.int .u64 W8.zero.a0, .int .u64 W8.zero.a1, .int .u64 W8.zero.a2, .int .u64 W8.zero.a3, .int .u64 W8.zero.a4, .int .u64 W8.zero.a5, .int .u64 W8.zero.a6, .int .u64 W8.zero.a7, .int .u64 W8.zero.a0, .int .u64 W8.zero.a1, .int .u64 W8.zero.a2, .int .u64 W8.zero.a3, .int .u64 W8.zero.a4, .int .u64 W8.zero.a5, .int .u64 W8.zero.a6, .int .u64 W8.zero.a7]
          clear b NF hqF HF
          go_wp2_with (refine wpList_put rfl 35 (.tmp 24) (.tmp 185) (by rfl) (by rfl) VF.heap.size (by rfl) XF (by rfl) K0 (by rw [zF.out]; rfl) iF.out cF.out ?_; intro UF hput; have m1 := hput.lat QF (lv.trans (Lat.alloc _ _)) (by have := lv.size; omega))
          have LL := LL.trans m1
          clear K0 hput lv m1 iF zF cF
          refine name1 (Q := fun W => Calls _ _ _ W _) ?_
          intro QG NG hqG b
          have LL := LL.trans NG
          refine (HG _ _ _ _ _ _ QG (p1 _ LL) (Sl.of_blk' (t := 3) b rfl) (by decide) (by decide)).mono ?_
          rintro e VG ⟨rfl, lv⟩
          have K0 := Blk.new VG 35 #[.int .u64 W8.zero.a0, .int .u64 W8.zero.a1, .int .u64 W8.zero.a2, .int .u64 W8.zero.a3, .int .u64 W8.zero.a4, .int .u64 W8.zero.a5, .int .u64 W8.zero.a6, .int .u64 W8.zero.a7, .int .u64 W8.zero.a0, .int .u64 W8.zero.a1, .int .u64 W8.zero.a2, .int .u64 W8.zero.a3, .int .u64 W8.zero.a4, .int .u64 W8.zero.a5, .int .u64 W8.zero.a6, .int .u64 W8.zero.a7]
          clear b NG hqG HG
          go_wp2_with (refine wpList_put rfl 35 (.tmp 26) (.tmp 191) (by rfl) (by rfl) VG.heap.size (by rfl) XG (by rfl) K0 (by rw [zG.out]; rfl) iG.out cG.out ?_; intro UG hput; have m1 := hput.lat QG (lv.trans (Lat.alloc _ _)) (by have := lv.size; omega))
          have LL := LL.trans m1
          clear K0 hput lv m1 iG zG cG
          refine name2 (Q := fun W => Calls _ _ _ W _) ?_
          intro QH NH hqH b' b
          have LL := LL.trans NH
          refine (HH _ _ _ _ _ _ QH (Sl.of_blk' (t := 3) b' rfl) (Sl.of_blk' (t := 3) b rfl) (by decide) (by decide)).mono ?_
          rintro e VH ⟨rfl, lv⟩
          have K0 := Blk.new VH 35 #[.int .u64 W8.zero.a0, .int .u64 W8.zero.a1, .int .u64 W8.zero.a2, .int .u64 W8.zero.a3, .int .u64 W8.zero.a4, .int .u64 W8.zero.a5, .int .u64 W8.zero.a6, .int .u64 W8.zero.a7, .int .u64 W8.zero.a0, .int .u64 W8.zero.a1, .int .u64 W8.zero.a2, .int .u64 W8.zero.a3, .int .u64 W8.zero.a4, .int .u64 W8.zero.a5, .int .u64 W8.zero.a6, .int .u64 W8.zero.a7]
          clear b NH hqH HH
          go_wp2_with (refine wpList_put rfl 35 (.tmp 28) (.tmp 197) (by rfl) (by rfl) VH.heap.size (by rfl) XH (by rfl) K0 (by rw [zH.out]; rfl) iH.out cH.out ?_; intro UH hput; have m1 := hput.lat QH (lv.trans (Lat.alloc _ _)) (by have := lv.size; omega))
          have LL := LL.trans m1
          clear K0 hput lv m1 iH zH cH
          clear b'
          refine (HI UH).mono ?_
          rintro e V3 ⟨rfl, lv⟩
          have LL := LL.trans lv
          clear lv HI
          go_wp2_with fail
          refine (HJ V3).mono ?_
          rintro e V4 ⟨rfl, lv⟩
          have LL := LL.trans lv
          clear lv HJ
          go_wp2_with fail
          refine name1 (Q := fun W => Calls _ _ _ W _) ?_
          intro Q5 N5 hq5 b
          have LL := LL.trans N5
          refine (HK _ _ _ _ Q5 (p1 _ LL) (Sl.of_blk' (t := 3) b rfl)).mono ?_
          rintro e V5 ⟨A1, c1, rfl, r1, lv⟩
          have LL := LL.trans lv
          clear lv HK N5 hq5 b p1
          go_wp2_with fail
          refine (HL V5).mono ?_
          rintro e V6 ⟨rfl, lv⟩
          have K0 := Blk.new V6 35 #[.int .u64 W8.zero.a0, .int .u64 W8.zero.a1, .int .u64 W8.zero.a2, .int .u64 W8.zero.a3, .int .u64 W8.zero.a4, .int .u64 W8.zero.a5, .int .u64 W8.zero.a6, .int .u64 W8.zero.a7, .int .u64 W8.zero.a0, .int .u64 W8.zero.a1, .int .u64 W8.zero.a2, .int .u64 W8.zero.a3, .int .u64 W8.zero.a4, .int .u64 W8.zero.a5, .int .u64 W8.zero.a6, .int .u64 W8.zero.a7]
          go_wp2_with (refine wpList_put rfl 35 (.tmp 36) (.tmp 215) (by rfl) (by rfl) V6.heap.size (by rfl) XL (by rfl) K0 (by rw [zL.out]; rfl) iL.out cL.out ?_; intro U7 hput; have B1 := hput.blk; have m1 := hput.lat V5 (lv.trans (Lat.alloc _ _)) (by have := lv.size; omega))
          have r1 := r1.later m1
          have LL := LL.trans m1
          clear K0 hput lv m1 HL
          rename_i KN hKN
          obtain ⟨Y, rfl⟩ : ∃ Y : List Value, XL = Y.toArray := ⟨XL.toList, by simp⟩
          have R36 : ∀ w', Lat U7 w' → w'.rangeAt V6.heap.size 0 Y := fun w' hl => (B1.later hl).rangeAll
          have J : (Tryz.prog.info? 35).map (·.size) = some Y.length := by have := iL.out; simpa using this
          clear B1 iL zL cL
          refine wp_region_slots (fk3_rows Y A1 c1) (fk3_base V6.heap.size A1 c1) 282 66 [[], [0], [1], [2], [3, 2], [2, 4], [5, 2], [6], [7, 6], [6, 8], [9, 6], [10], [11, 10], [10, 12], [13, 10], [14], [15, 14], [14, 16], [17, 14], [18], [19, 18], [18, 20], [21, 18], [22], [23, 22], [22, 24], [25, 22], [26], [27, 26], [26, 28], [29, 26], [30], [31, 30], [30, 32], [33, 30], [34], [34, 35], [36, 34], [37], [38, 37], [37, 39], [40, 37], [41], [41], [41], [41], [43, 44, 45, 41], [42, 46, 41, 41], [41, 47], [48, 47], [49], [50, 49], [49, 51], [52, 49], [53], [53, 53], [54, 55, 53], [53, 56], [57, 55], [58], [59, 58], [58, 60], [61, 58], [62, 62], [62, 63], [64, 63, 0, 1, 2, 3, 4, 5, 6, 7, 8, 9, 10, 11, 12, 13, 14, 15, 16, 17, 18, 19, 20, 21, 22, 23, 24, 25, 26, 27, 28, 29, 30, 31, 32, 33, 34, 35, 36, 37, 38, 39, 40, 41, 42, 43, 44, 45, 46, 47, 48, 49, 50, 51, 52, 53, 54, 55, 56, 57, 58, 59, 60, 61, 62, 63, 64]] (by kernel_rfl) (by kernel_rfl) (by kernel_rfl) (by kernel_rfl) (by kernel_rfl) (by kernel_rfl) (by rfl) rfl ?_ ?_ ?_
          · exact base_of (base_cons (by rfl) (base_cons (by rfl) (base_cons (by rfl) (base_cons (by rfl) (base_cons (by rfl) (base_cons (by rfl) (base_cons (by rfl) (base_cons (by rfl) (base_cons (by rfl) (base_cons (by rfl) (base_cons (by rfl) (base_cons (by rfl) (base_cons (by rfl) (base_cons (by rfl) (base_cons (by rfl) (base_nil _))))))))))))))))
          · refine AllSteps.next (fun _ _ _ h _ => h) (fun j b h => by cases h) (fun a w hl hb hd o ho => by have e1 := hb 17 _ rfl; exact Runs.val (yv_move (S := fun _ => True) e1 o w ho trivial) ⟨Lat.refl _, fun _ => rfl⟩) ?_
            refine AllSteps.next (fun _ _ _ h _ => h) (fun j b h => by cases h) (fun a w hl hb hd o ho => by obtain ⟨v1, e1, q1⟩ := hd 0 _ _ (by simp) rfl rfl; subst q1; exact Runs.val (S_eql24 e1 o w ho (by decide)) ⟨Lat.refl _, fun _ => rfl⟩) ?_
            refine AllSteps.next (fun _ _ _ h _ => h) (fun j b h => by cases h) (fun a w hl hb hd o ho => by obtain ⟨v1, e1, q1⟩ := hd 1 _ _ (by simp) rfl rfl; subst q1; exact Runs.val (yv_move (S := fun _ => True) e1 o w ho trivial) ⟨Lat.refl _, fun _ => rfl⟩) ?_
            refine AllSteps.next (fun _ _ _ h _ => h) (fun j b h => by cases h; exact ⟨_, rfl, ⟨_, rfl⟩, by simp, fun _ _ h => h⟩) (fun a w hl hb hd o ho => by have e1 := hb 19 _ rfl; exact Runs.val (yv_move (S := fun _ => True) e1 o w ho trivial) ⟨Lat.refl _, fun _ => rfl⟩) ?_
            refine AllSteps.next (fun _ _ _ h _ => h) (fun j b h => by cases h; exact ⟨_, rfl, ⟨_, rfl⟩, by simp, fun _ _ h => h⟩) (fun a w hl hb hd o ho => by obtain ⟨v1, e1, q1⟩ := hd 3 _ _ (by simp) rfl rfl; subst q1; exact Runs.val (S_eql24 e1 o w ho (by decide)) ⟨Lat.refl _, fun _ => rfl⟩) ?_
            refine AllSteps.next (fun _ _ _ h _ => h) (fun j b h => by cases h) (fun a w hl hb hd o ho => by obtain ⟨v1, e1, q1⟩ := hd 2 _ _ (by simp) rfl rfl; obtain ⟨v2, e2, q2⟩ := hd 4 _ _ (by simp) rfl rfl; subst q1; subst q2; exact Runs.val (yv_pick (S := fun _ => True) e1 e2 o w ho trivial) ⟨Lat.refl _, fun _ => rfl⟩) ?_
            refine AllSteps.next (fun _ _ _ h _ => h) (fun j b h => by cases h) (fun a w hl hb hd o ho => by obtain ⟨v1, e1, q1⟩ := hd 5 _ _ (by simp) rfl rfl; subst q1; exact Runs.val (yv_move (S := fun _ => True) e1 o w ho trivial) ⟨Lat.refl _, fun _ => rfl⟩) ?_
            refine AllSteps.next (fun _ _ _ h _ => h) (fun j b h => by cases h; exact ⟨_, rfl, ⟨_, rfl⟩, by simp, fun _ _ h => h⟩) (fun a w hl hb hd o ho => by have e1 := hb 21 _ rfl; exact Runs.val (yv_move (S := fun _ => True) e1 o w ho trivial) ⟨Lat.refl _, fun _ => rfl⟩) ?_
            refine AllSteps.next (fun _ _ _ h _ => h) (fun j b h => by cases h; exact ⟨_, rfl, ⟨_, rfl⟩, by simp, fun _ _ h => h⟩) (fun a w hl hb hd o ho => by obtain ⟨v1, e1, q1⟩ := hd 7 _ _ (by simp) rfl rfl; subst q1; exact Runs.val (S_eql24 e1 o w ho (by decide)) ⟨Lat.refl _, fun _ => rfl⟩) ?_
            refine AllSteps.next (fun _ _ _ h _ => h) (fun j b h => by cases h) (fun a w hl hb hd o ho => by obtain ⟨v1, e1, q1⟩ := hd 6 _ _ (by simp) rfl rfl; obtain ⟨v2, e2, q2⟩ := hd 8 _ _ (by simp) rfl rfl; subst q1; subst q2; exact Runs.val (yv_pick (S := fun _ => True) e1 e2 o w ho trivial) ⟨Lat.refl _, fun _ => rfl⟩) ?_
            refine AllSteps.next (fun _ _ _ h _ => h) (fun j b h => by cases h) (fun a w hl hb hd o ho => by obtain ⟨v1, e1, q1⟩ := hd 9 _ _ (by simp) rfl rfl; subst q1; exact Runs.val (yv_move (S := fun _ => True) e1 o w ho trivial) ⟨Lat.refl _, fun _ => rfl⟩) ?_
            refine AllSteps.next (fun _ _ _ h _ => h) (fun j b h => by cases h; exact ⟨_, rfl, ⟨_, rfl⟩, by simp, fun _ _ h => h⟩) (fun a w hl hb hd o ho => by have e1 := hb 23 _ rfl; exact Runs.val (yv_move (S := fun _ => True) e1 o w ho trivial) ⟨Lat.refl _, fun _ => rfl⟩) ?_
            refine AllSteps.next (fun _ _ _ h _ => h) (fun j b h => by cases h; exact ⟨_, rfl, ⟨_, rfl⟩, by simp, fun _ _ h => h⟩) (fun a w hl hb hd o ho => by obtain ⟨v1, e1, q1⟩ := hd 11 _ _ (by simp) rfl rfl; subst q1; exact Runs.val (S_eql24 e1 o w ho (by decide)) ⟨Lat.refl _, fun _ => rfl⟩) ?_
            refine AllSteps.next (fun _ _ _ h _ => h) (fun j b h => by cases h) (fun a w hl hb hd o ho => by obtain ⟨v1, e1, q1⟩ := hd 10 _ _ (by simp) rfl rfl; obtain ⟨v2, e2, q2⟩ := hd 12 _ _ (by simp) rfl rfl; subst q1; subst q2; exact Runs.val (yv_pick (S := fun _ => True) e1 e2 o w ho trivial) ⟨Lat.refl _, fun _ => rfl⟩) ?_
            refine AllSteps.next (fun _ _ _ h _ => h) (fun j b h => by cases h) (fun a w hl hb hd o ho => by obtain ⟨v1, e1, q1⟩ := hd 13 _ _ (by simp) rfl rfl; subst q1; exact Runs.val (yv_move (S := fun _ => True) e1 o w ho trivial) ⟨Lat.refl _, fun _ => rfl⟩) ?_
            refine AllSteps.next (fun _ _ _ h _ => h) (fun j b h => by cases h; exact ⟨_, rfl, ⟨_, rfl⟩, by simp, fun _ _ h => h⟩) (fun a w hl hb hd o ho => by have e1 := hb 25 _ rfl; exact Runs.val (yv_move (S := fun _ => True) e1 o w ho trivial) ⟨Lat.refl _, fun _ => rfl⟩) ?_
            refine AllSteps.next (fun _ _ _ h _ => h) (fun j b h => by cases h; exact ⟨_, rfl, ⟨_, rfl⟩, by simp, fun _ _ h => h⟩) (fun a w hl hb hd o ho => by obtain ⟨v1, e1, q1⟩ := hd 15 _ _ (by simp) rfl rfl; subst q1; exact Runs.val (S_eql24 e1 o w ho (by decide)) ⟨Lat.refl _, fun _ => rfl⟩) ?_
            refine AllSteps.next (fun _ _ _ h _ => h) (fun j b h => by cases h) (fun a w hl hb hd o ho => by obtain ⟨v1, e1, q1⟩ := hd 14 _ _ (by simp) rfl rfl; obtain ⟨v2, e2, q2⟩ := hd 16 _ _ (by simp) rfl rfl; subst q1; subst q2; exact Runs.val (yv_pick (S := fun _ => True) e1 e2 o w ho trivial) ⟨Lat.refl _, fun _ => rfl⟩) ?_
            refine AllSteps.next (fun _ _ _ h _ => h) (fun j b h => by cases h) (fun a w hl hb hd o ho => by obtain ⟨v1, e1, q1⟩ := hd 17 _ _ (by simp) rfl rfl; subst q1; exact Runs.val (yv_move (S := fun _ => True) e1 o w ho trivial) ⟨Lat.refl _, fun _ => rfl⟩) ?_
            refine AllSteps.next (fun _ _ _ h _ => h) (fun j b h => by cases h; exact ⟨_, rfl, ⟨_, rfl⟩, by simp, fun _ _ h => h⟩) (fun a w hl hb hd o ho => by have e1 := hb 27 _ rfl; exact Runs.val (yv_move (S := fun _ => True) e1 o w ho trivial) ⟨Lat.refl _, fun _ => rfl⟩) ?_
            refine AllSteps.next (fun _ _ _ h _ => h) (fun j b h => by cases h; exact ⟨_, rfl, ⟨_, rfl⟩, by simp, fun _ _ h => h⟩) (fun a w hl hb hd o ho => by obtain ⟨v1, e1, q1⟩ := hd 19 _ _ (by simp) rfl rfl; subst q1; exact Runs.val (S_eql24 e1 o w ho (by decide)) ⟨Lat.refl _, fun _ => rfl⟩) ?_
            refine AllSteps.next (fun _ _ _ h _ => h) (fun j b h => by cases h) (fun a w hl hb hd o ho => by obtain ⟨v1, e1, q1⟩ := hd 18 _ _ (by simp) rfl rfl; obtain ⟨v2, e2, q2⟩ := hd 20 _ _ (by simp) rfl rfl; subst q1; subst q2; exact Runs.val (yv_pick (S := fun _ => True) e1 e2 o w ho trivial) ⟨Lat.refl _, fun _ => rfl⟩) ?_
            refine AllSteps.next (fun _ _ _ h _ => h) (fun j b h => by cases h) (fun a w hl hb hd o ho => by obtain ⟨v1, e1, q1⟩ := hd 21 _ _ (by simp) rfl rfl; subst q1; exact Runs.val (yv_move (S := fun _ => True) e1 o w ho trivial) ⟨Lat.refl _, fun _ => rfl⟩) ?_
            refine AllSteps.next (fun _ _ _ h _ => h) (fun j b h => by cases h; exact ⟨_, rfl, ⟨_, rfl⟩, by simp, fun _ _ h => h⟩) (fun a w hl hb hd o ho => by have e1 := hb 29 _ rfl; exact Runs.val (yv_move (S := fun _ => True) e1 o w ho trivial) ⟨Lat.refl _, fun _ => rfl⟩) ?_
            refine AllSteps.next (fun _ _ _ h _ => h) (fun j b h => by cases h; exact ⟨_, rfl, ⟨_, rfl⟩, by simp, fun _ _ h => h⟩) (fun a w hl hb hd o ho => by obtain ⟨v1, e1, q1⟩ := hd 23 _ _ (by simp) rfl rfl; subst q1; exact Runs.val (S_eql24 e1 o w ho (by decide)) ⟨Lat.refl _, fun _ => rfl⟩) ?_
            refine AllSteps.next (fun _ _ _ h _ => h) (fun j b h => by cases h) (fun a w hl hb hd o ho => by obtain ⟨v1, e1, q1⟩ := hd 22 _ _ (by simp) rfl rfl; obtain ⟨v2, e2, q2⟩ := hd 24 _ _ (by simp) rfl rfl; subst q1; subst q2; exact Runs.val (yv_pick (S := fun _ => True) e1 e2 o w ho trivial) ⟨Lat.refl _, fun _ => rfl⟩) ?_
            refine AllSteps.next (fun _ _ _ h _ => h) (fun j b h => by cases h) (fun a w hl hb hd o ho => by obtain ⟨v1, e1, q1⟩ := hd 25 _ _ (by simp) rfl rfl; subst q1; exact Runs.val (yv_move (S := fun _ => True) e1 o w ho trivial) ⟨Lat.refl _, fun _ => rfl⟩) ?_
            refine AllSteps.next (fun _ _ _ h _ => h) (fun j b h => by cases h; exact ⟨_, rfl, ⟨_, rfl⟩, by simp, fun _ _ h => h⟩) (fun a w hl hb hd o ho => by have e1 := hb 30 _ rfl; exact Runs.val (yv_move (S := fun _ => True) e1 o w ho trivial) ⟨Lat.refl _, fun _ => rfl⟩) ?_
            refine AllSteps.next (fun _ _ _ h _ => h) (fun j b h => by cases h; exact ⟨_, rfl, ⟨_, rfl⟩, by simp, fun _ _ h => h⟩) (fun a w hl hb hd o ho => by obtain ⟨v1, e1, q1⟩ := hd 27 _ _ (by simp) rfl rfl; subst q1; obtain ⟨d, op, ty, p, af, g⟩ := o; simp only at ho; subst ho; exact Runs.val (by unfold execOp; simp only [e1]; go_simp) ⟨Lat.refl _, fun _ => rfl⟩) ?_
            refine AllSteps.next (fun _ _ _ h _ => h) (fun j b h => by cases h) (fun a w hl hb hd o ho => by obtain ⟨v1, e1, q1⟩ := hd 26 _ _ (by simp) rfl rfl; obtain ⟨v2, e2, q2⟩ := hd 28 _ _ (by simp) rfl rfl; subst q1; subst q2; exact Runs.val (yv_pick (S := fun _ => True) e1 e2 o w ho trivial) ⟨Lat.refl _, fun _ => rfl⟩) ?_
            refine AllSteps.next (fun _ _ _ h _ => h) (fun j b h => by cases h) (fun a w hl hb hd o ho => by obtain ⟨v1, e1, q1⟩ := hd 29 _ _ (by simp) rfl rfl; subst q1; exact Runs.val (yv_move (S := fun _ => True) e1 o w ho trivial) ⟨Lat.refl _, fun _ => rfl⟩) ?_
            refine AllSteps.next (fun _ _ _ h _ => h) (fun j b h => by cases h; exact ⟨_, rfl, ⟨_, rfl⟩, by simp, fun _ _ h => h⟩) (fun a w hl hb hd o ho => by have e1 := hb 31 _ rfl; exact Runs.val (yv_move (S := fun _ => True) e1 o w ho trivial) ⟨Lat.refl _, fun _ => rfl⟩) ?_
            refine AllSteps.next (fun _ _ _ h _ => h) (fun j b h => by cases h; exact ⟨_, rfl, ⟨_, rfl⟩, by simp, fun _ _ h => h⟩) (fun a w hl hb hd o ho => by obtain ⟨v1, e1, q1⟩ := hd 31 _ _ (by simp) rfl rfl; subst q1; exact Runs.val (S_eql24 e1 o w ho (by decide)) ⟨Lat.refl _, fun _ => rfl⟩) ?_
            refine AllSteps.next (fun _ _ _ h _ => h) (fun j b h => by cases h) (fun a w hl hb hd o ho => by obtain ⟨v1, e1, q1⟩ := hd 30 _ _ (by simp) rfl rfl; obtain ⟨v2, e2, q2⟩ := hd 32 _ _ (by simp) rfl rfl; subst q1; subst q2; exact Runs.val (yv_pick (S := fun _ => True) e1 e2 o w ho trivial) ⟨Lat.refl _, fun _ => rfl⟩) ?_
            refine AllSteps.next (fun _ _ _ h _ => h) (fun j b h => by cases h) (fun a w hl hb hd o ho => by obtain ⟨v1, e1, q1⟩ := hd 33 _ _ (by simp) rfl rfl; subst q1; exact Runs.val (yv_move (S := fun _ => True) e1 o w ho trivial) ⟨Lat.refl _, fun _ => rfl⟩) ?_
            refine AllSteps.next (fun _ _ _ h _ => h) (fun j b h => by cases h; exact ⟨_, rfl, ⟨_, rfl⟩, by simp, fun _ _ h => h⟩) (fun a w hl hb hd o ho => by have e1 := hb 32 _ rfl; exact Runs.val (yv_move (S := fun _ => True) e1 o w ho trivial) ⟨Lat.refl _, fun _ => rfl⟩) ?_
            refine AllSteps.next (fun _ _ _ h _ => h) (fun j b h => by cases h) (fun a w hl hb hd o ho => by obtain ⟨v1, e1, q1⟩ := hd 34 _ _ (by simp) rfl rfl; obtain ⟨v2, e2, q2⟩ := hd 35 _ _ (by simp) rfl rfl; subst q1; subst q2; exact Runs.val (yv_pick (S := fun _ => True) e1 e2 o w ho trivial) ⟨Lat.refl _, fun _ => rfl⟩) ?_
            refine AllSteps.next (fun _ _ _ h _ => h) (fun j b h => by cases h) (fun a w hl hb hd o ho => by obtain ⟨v1, e1, q1⟩ := hd 36 _ _ (by simp) rfl rfl; subst q1; exact Runs.val (yv_move (S := fun _ => True) e1 o w ho trivial) ⟨Lat.refl _, fun _ => rfl⟩) ?_
            refine AllSteps.next (fun _ _ _ h _ => h) (fun j b h => by cases h; exact ⟨_, rfl, ⟨_, rfl⟩, by simp, fun _ _ h => h⟩) (fun a w hl hb hd o ho => by have e1 := hb 33 _ rfl; exact Runs.val (yv_move (S := fun _ => True) e1 o w ho trivial) ⟨Lat.refl _, fun _ => rfl⟩) ?_
            refine AllSteps.next (fun _ _ _ h _ => h) (fun j b h => by cases h; exact ⟨_, rfl, ⟨_, rfl⟩, by simp, fun _ _ h => h⟩) (fun a w hl hb hd o ho => by obtain ⟨v1, e1, q1⟩ := hd 38 _ _ (by simp) rfl rfl; subst q1; exact Runs.val (S_eql24 e1 o w ho (by decide)) ⟨Lat.refl _, fun _ => rfl⟩) ?_
            refine AllSteps.next (fun _ _ _ h _ => h) (fun j b h => by cases h) (fun a w hl hb hd o ho => by obtain ⟨v1, e1, q1⟩ := hd 37 _ _ (by simp) rfl rfl; obtain ⟨v2, e2, q2⟩ := hd 39 _ _ (by simp) rfl rfl; subst q1; subst q2; exact Runs.val (yv_pick (S := fun _ => True) e1 e2 o w ho trivial) ⟨Lat.refl _, fun _ => rfl⟩) ?_
            refine AllSteps.next (fun _ _ _ h _ => h) (fun j b h => by cases h) (fun a w hl hb hd o ho => by obtain ⟨v1, e1, q1⟩ := hd 40 _ _ (by simp) rfl rfl; subst q1; exact Runs.val (yv_move (S := fun _ => True) e1 o w ho trivial) ⟨Lat.refl _, fun _ => rfl⟩) ?_
            refine AllSteps.next (fun _ _ _ h _ => h) (fun j b h => by cases h; exact ⟨_, rfl, ⟨_, rfl⟩, by simp, fun _ _ h => h⟩) (fun a w hl hb hd o ho => by have e1 := hb 34 _ rfl; exact Runs.val (yv_move (S := fun _ => True) e1 o w ho trivial) ⟨Lat.refl _, fun _ => rfl⟩) ?_
            refine AllSteps.next (fun _ _ _ h _ => h) (fun j b h => by cases h; exact ⟨_, rfl, ⟨_, rfl⟩, by simp, fun _ _ h => h⟩) (fun a w hl hb hd o ho => by obtain ⟨d, op, ty, p, af, g⟩ := o; simp only at ho; subst ho; exact Runs.val (by unfold execOp; simp only [eval_const]; go_simp) ⟨Lat.refl _, fun _ => rfl⟩) ?_
            refine AllSteps.next (fun _ _ _ h _ => h) (fun j b h => by cases h; exact ⟨_, rfl, ⟨_, rfl⟩, by simp, fun _ _ h => h⟩) (fun a w hl hb hd o ho => by obtain ⟨d, op, ty, p, af, g⟩ := o; simp only at ho; subst ho; exact Runs.val (by unfold execOp; simp only [eval_const]; go_simp) ⟨Lat.refl _, fun _ => rfl⟩) ?_
            refine AllSteps.next (fun _ _ _ h _ => h) (fun j b h => by cases h; exact ⟨_, rfl, ⟨_, rfl⟩, by simp, fun _ _ h => h⟩) (fun a w hl hb hd o ho => by obtain ⟨d, op, ty, p, af, g⟩ := o; simp only at ho; subst ho; exact Runs.val (by unfold execOp; simp only [eval_const]; go_simp) ⟨Lat.refl _, fun _ => rfl⟩) ?_
            refine AllSteps.next (fun v w w' h l => by obtain ⟨g, h1, h2⟩ := h; exact ⟨g, h1, h2.later l⟩) (fun j b h => by cases h; exact ⟨_, rfl, ⟨_, rfl⟩, by simp, fun _ _ h => h⟩) (fun a w hl hb hd o ho => by obtain ⟨v1, e1, q1⟩ := hd 43 _ _ (by simp) rfl rfl; subst q1; obtain ⟨v2, e2, q2⟩ := hd 44 _ _ (by simp) rfl rfl; subst q2; obtain ⟨v3, e3, q3⟩ := hd 45 _ _ (by simp) rfl rfl; subst q3; obtain ⟨d, op, ty, p, af, g⟩ := o; simp only at ho; subst ho; exact Runs.new (w' := w.alloc (.cells #[.int .i64 0, .int .i64 1, .int .i64 1, .int .i64 (-1), .int .i64 2, .int .i64 (-1)] 44)) (by unfold execOp; generalize a.eval = ev at e1 e2 e3 ⊢; first | (simp only [e1, e2, e3]; go_simp; done) | (go_simp; simp only [e1, e2, e3]; go_simp; try rfl)) ⟨Lat.alloc _ _, fun _ => ⟨_, rfl, Blk.new _ _ _⟩⟩) ?_
            refine AllSteps.next (fun _ _ _ h _ => h) (fun j b h => by cases h; exact ⟨_, rfl, ⟨_, rfl⟩, by simp, fun _ _ h => h⟩) (fun a w hl hb hd o ho => by obtain ⟨v1, e1, q1⟩ := hd 42 _ _ (by simp) rfl rfl; subst q1; obtain ⟨v2, e2, q2⟩ := hd 46 _ _ (by simp) rfl rfl; obtain ⟨g2, rfl, b2⟩ := q2; exact Runs.call (yv_call (f := 10) (fun _ => by go_simp) o ho (by simp only [List.map_toArray, List.map_cons, List.map_nil, e1, e2])) ((equal22_yes A1 3 c1 [(0, 1), (1, -1), (2, -1)] (some ⟨g2, 0, none⟩) 3 w (r1.later hl) (rowB_lit (xs := [(0, 1), (1, -1), (2, -1)]) b2).row (by decide)).mono fun e w' h => ⟨_, h.1, h.2, fun _ => rfl⟩)) ?_
            refine AllSteps.next (fun _ _ _ h _ => h) (fun j b h => by cases h) (fun a w hl hb hd o ho => by obtain ⟨v1, e1, q1⟩ := hd 41 _ _ (by simp) rfl rfl; obtain ⟨v2, e2, q2⟩ := hd 47 _ _ (by simp) rfl rfl; subst q1; subst q2; exact Runs.val (yv_pick (S := fun _ => True) e1 e2 o w ho trivial) ⟨Lat.refl _, fun _ => rfl⟩) ?_
            refine AllSteps.next (fun _ _ _ h _ => h) (fun j b h => by cases h) (fun a w hl hb hd o ho => by obtain ⟨v1, e1, q1⟩ := hd 48 _ _ (by simp) rfl rfl; subst q1; exact Runs.val (yv_move (S := fun _ => True) e1 o w ho trivial) ⟨Lat.refl _, fun _ => rfl⟩) ?_
            refine AllSteps.next (fun _ _ _ h _ => h) (fun j b h => by cases h; exact ⟨_, rfl, ⟨_, rfl⟩, by simp, fun _ _ h => h⟩) (fun a w hl hb hd o ho => by have e1 := hb 35 _ rfl; exact Runs.val (yv_move (S := fun _ => True) e1 o w ho trivial) ⟨Lat.refl _, fun _ => rfl⟩) ?_
            refine AllSteps.next (fun _ _ _ h _ => h) (fun j b h => by cases h; exact ⟨_, rfl, ⟨_, rfl⟩, by simp, fun _ _ h => h⟩) (fun a w hl hb hd o ho => by obtain ⟨v1, e1, q1⟩ := hd 50 _ _ (by simp) rfl rfl; subst q1; exact Runs.val (S_eql24 e1 o w ho (by decide)) ⟨Lat.refl _, fun _ => rfl⟩) ?_
            refine AllSteps.next (fun _ _ _ h _ => h) (fun j b h => by cases h) (fun a w hl hb hd o ho => by obtain ⟨v1, e1, q1⟩ := hd 49 _ _ (by simp) rfl rfl; obtain ⟨v2, e2, q2⟩ := hd 51 _ _ (by simp) rfl rfl; subst q1; subst q2; exact Runs.val (yv_pick (S := fun _ => True) e1 e2 o w ho trivial) ⟨Lat.refl _, fun _ => rfl⟩) ?_
            refine AllSteps.next (fun _ _ _ h _ => h) (fun j b h => by cases h) (fun a w hl hb hd o ho => by obtain ⟨v1, e1, q1⟩ := hd 52 _ _ (by simp) rfl rfl; subst q1; exact Runs.val (yv_move (S := fun _ => True) e1 o w ho trivial) ⟨Lat.refl _, fun _ => rfl⟩) ?_
            refine AllSteps.next (fun _ _ _ h _ => h) (fun j b h => by cases h; exact ⟨_, rfl, ⟨_, rfl⟩, by simp, fun _ _ h => h⟩) (fun a w hl hb hd o ho => by have e1 := hb 36 _ rfl; exact Runs.val (yv_load (S := Lat U7) e1 R36 Tryz.underlying35 rfl J o w ho hl) ⟨Lat.refl _, fun _ => rfl⟩) ?_
            refine AllSteps.next (fun _ _ _ h _ => h) (fun j b h => by cases h; exact ⟨_, rfl, ⟨_, rfl⟩, by simp, fun _ _ h => h⟩) (fun a w hl hb hd o ho => by exact Runs.call (yv_call (f := 11) (fun _ => by go_simp) o ho (by simp only [List.map_toArray, List.map_cons, List.map_nil, eval_const])) ((HF w).mono fun e w' h => ⟨_, h.1, h.2, fun _ => rfl⟩)) ?_
            refine AllSteps.next (fun _ _ _ h _ => h) (fun j b h => by cases h; exact ⟨_, rfl, ⟨_, rfl⟩, by simp, fun _ _ h => h⟩) (fun a w hl hb hd o ho => by obtain ⟨v1, e1, q1⟩ := hd 54 _ _ (by simp) rfl rfl; obtain ⟨v2, e2, q2⟩ := hd 55 _ _ (by simp) rfl rfl; subst q1; subst q2; exact Runs.val (yv_bin (S := fun _ => True) e1 e2 hgd.out E1 o w ho trivial) ⟨Lat.refl _, fun _ => rfl⟩) ?_
            refine AllSteps.next (fun _ _ _ h _ => h) (fun j b h => by cases h) (fun a w hl hb hd o ho => by obtain ⟨v1, e1, q1⟩ := hd 53 _ _ (by simp) rfl rfl; obtain ⟨v2, e2, q2⟩ := hd 56 _ _ (by simp) rfl rfl; subst q1; subst q2; exact Runs.val (yv_pick (S := fun _ => True) e1 e2 o w ho trivial) ⟨Lat.refl _, fun _ => rfl⟩) ?_
            refine AllSteps.next (fun _ _ _ h _ => h) (fun j b h => by cases h) (fun a w hl hb hd o ho => by obtain ⟨v1, e1, q1⟩ := hd 57 _ _ (by simp) rfl rfl; subst q1; exact Runs.val (yv_move (S := fun _ => True) e1 o w ho trivial) ⟨Lat.refl _, fun _ => rfl⟩) ?_
            refine AllSteps.next (fun _ _ _ h _ => h) (fun j b h => by cases h; exact ⟨_, rfl, ⟨_, rfl⟩, by simp, fun _ _ h => h⟩) (fun a w hl hb hd o ho => by have e1 := hb 37 _ rfl; exact Runs.val (yv_move (S := fun _ => True) e1 o w ho trivial) ⟨Lat.refl _, fun _ => rfl⟩) ?_
            refine AllSteps.next (fun _ _ _ h _ => h) (fun j b h => by cases h; exact ⟨_, rfl, ⟨_, rfl⟩, by simp, fun _ _ h => h⟩) (fun a w hl hb hd o ho => by obtain ⟨v1, e1, q1⟩ := hd 59 _ _ (by simp) rfl rfl; subst q1; exact Runs.val (S_eql24 e1 o w ho (by decide)) ⟨Lat.refl _, fun _ => rfl⟩) ?_
            refine AllSteps.next (fun _ _ _ h _ => h) (fun j b h => by cases h) (fun a w hl hb hd o ho => by obtain ⟨v1, e1, q1⟩ := hd 58 _ _ (by simp) rfl rfl; obtain ⟨v2, e2, q2⟩ := hd 60 _ _ (by simp) rfl rfl; subst q1; subst q2; exact Runs.val (yv_pick (S := fun _ => True) e1 e2 o w ho trivial) ⟨Lat.refl _, fun _ => rfl⟩) ?_
            refine AllSteps.next (fun _ _ _ h _ => h) (fun j b h => by cases h) (fun a w hl hb hd o ho => by obtain ⟨v1, e1, q1⟩ := hd 61 _ _ (by simp) rfl rfl; subst q1; exact Runs.val (yv_move (S := fun _ => True) e1 o w ho trivial) ⟨Lat.refl _, fun _ => rfl⟩) ?_
            refine AllSteps.next (fun _ _ _ h _ => h) (fun j b h => by cases h; exact ⟨_, rfl, ⟨_, rfl⟩, by simp, fun _ _ h => h⟩) (fun a w hl hb hd o ho => by exact Runs.call (yv_call (f := 12) (fun _ => by go_simp) o ho (by simp only [List.map_toArray, List.map_cons, List.map_nil, eval_const])) ((lm_11_7_0_5_0_0_1 w).mono fun e w' h => ⟨_, h.1, h.2, fun _ => rfl⟩)) ?_
            refine AllSteps.next (fun _ _ _ h _ => h) (fun j b h => by cases h) (fun a w hl hb hd o ho => by obtain ⟨v1, e1, q1⟩ := hd 62 _ _ (by simp) rfl rfl; obtain ⟨v2, e2, q2⟩ := hd 63 _ _ (by simp) rfl rfl; subst q1; subst q2; exact Runs.val (yv_pick (S := fun _ => True) e1 e2 o w ho trivial) ⟨Lat.refl _, fun _ => rfl⟩) ?_
            refine AllSteps.next (fun _ _ _ h _ => h) (fun j b h => by cases h) (fun a w hl hb hd o ho => by obtain ⟨v1, e1, q1⟩ := hd 64 _ _ (by simp) rfl rfl; subst q1; exact Runs.val (yv_assignS (S := fun _ => True) e1 o w ho trivial) ⟨Lat.refl _, fun _ => rfl⟩) ?_
            exact AllSteps.none
          · intro a W hsz hdf hL _ hsl
            obtain ⟨v, h0, hv⟩ := hsl 65 _ _ rfl rfl
            have hv' : v = .bool true := hv
            subst hv'
            unfold Slot at h0
            refine hKN _ _ (wp_ret ?_)
            refine bodyPost_ret (v := .bool true) (by simp [results, Tryz.results3, go_sem, h0]) hdf ?_
            exact ⟨rfl, l1.trans (L1.trans (hM.trans (hl2.trans (LL.trans hL))))⟩
end Go.Proofs.YtkjnjooggicgiaaGreat
