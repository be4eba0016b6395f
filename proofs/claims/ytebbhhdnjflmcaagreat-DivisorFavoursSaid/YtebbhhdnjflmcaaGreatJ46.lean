/- Several texts in one: DPosts. -/
import Derived.Test.YtebbhhdnjflmcaaGreatJ45

/- DivisorPosts: the walk. -/
namespace Go.Proofs.YtebbhhdnjflmcaaGreat
open Go.RowKit Go.Shelf
set_option linter.unusedSimpArgs false

/-- An operation whose run is known. -/
theorem wpList_val {P : Program} {ops : Array Oper} {rest : List Oper} {o : Oper} {a : Act} {w : World} {Q : Exit → Act → World → Prop} (hgd : o.guard = none) (V : Value) (hrun : (execOp a.eval o).run P w = .ok (.value V) w)
    (h : wpList P ops Q rest (a.put o.dst V) w) : wpList P ops Q (o :: rest) a w := by
  refine wpList_plain hgd fun K hK => ?_
  unfold Oper.wp
  rw [hrun, Oper.upon_value]
  exact hK _ _ h
theorem idx26 (m : Int) (k : Nat) (hk : k < 6) : ∀ (o : Oper) (ev : Operand → Value) (w : World) (x y : Operand), o.op = .index 26 x y → ev x = .agg #[.int .i64 11, .int .i64 12, .int .i64 13, .int .i64 14, .int .i64 15, .int .i64 m] → ev y = .int .i64 k →
    (execOp ev o).run Tryz.prog w = .ok (.value (.int .i64 (([11, 12, 13, 14, 15, m] : List Int).getD k 0))) w := by
  match k, hk with
  | 0, _ | 1, _ | 2, _ | 3, _ | 4, _ | 5, _ =>
    intro o ev w x y ho hx hy
    obtain ⟨d, op, ty, p, af, g⟩ := o
    simp only at ho
    subst ho
    unfold execOp
    simp only [hx, hy]
    go_simp
    unfold Instr.index
    go_simp
theorem idx27 (a0 a1 a2 a3 b0 b1 b2 b3 c0 c1 c2 c3 : Int) (k : Nat) (hk : k < 3) : ∀ (o : Oper) (ev : Operand → Value) (w : World) (x y : Operand), o.op = .index 27 x y → ev x = .agg #[.int .i64 a0, .int .i64 a1, .int .i64 a2, .int .i64 a3, .int .i64 b0, .int .i64 b1, .int .i64 b2, .int .i64 b3, .int .i64 c0, .int .i64 c1, .int .i64 c2, .int .i64 c3] → ev y = .int .i64 k →
    (execOp ev o).run Tryz.prog w = .ok (.value (.agg #[.int .i64 (([a0, a1, a2, a3, b0, b1, b2, b3, c0, c1, c2, c3] : List Int).getD (4 * k + 0) 0), .int .i64 (([a0, a1, a2, a3, b0, b1, b2, b3, c0, c1, c2, c3] : List Int).getD (4 * k + 1) 0), .int .i64 (([a0, a1, a2, a3, b0, b1, b2, b3, c0, c1, c2, c3] : List Int).getD (4 * k + 2) 0), .int .i64 (([a0, a1, a2, a3, b0, b1, b2, b3, c0, c1, c2, c3] : List Int).getD (4 * k + 3) 0)])) w := by
  match k, hk with
  | 0, _ | 1, _ | 2, _ =>
    intro o ev w x y ho hx hy
    obtain ⟨d, op, ty, p, af, g⟩ := o
    simp only at ho
    subst ho
    unfold execOp
    simp only [hx, hy]
    go_simp
    unfold Instr.index
    go_simp
theorem row4Info : (Tryz.prog.info? 22).map (·.size) = some 4 := by kernel_rfl

set_option maxRecDepth 100000 in
set_option maxHeartbeats 8000000 in
theorem dPosts_any (m l0 l1 l2 l3 p q s t : Int) (w : World) (hp : 0 ≤ p) (hp' : p < 4294967296) (hq : 0 ≤ q) (hq' : q < 4294967296) (hs : 0 ≤ s) (hs' : s < 65536) (ht : 0 ≤ t) (ht' : t < 65536) :
    Calls Tryz.prog 3 #[.int .i64 m, .agg #[.int .i64 l0, .int .i64 l1, .int .i64 l2, .int .i64 l3], .int .u32 p, .int .u32 q, .int .u16 s, .int .u16 t] w (Yes w) := by
  have i4 := Lib.hid row4Info
  have hgd := Lib.hid shGuard
  go_enter Tryz.func3, Tryz.ntmps3
  go_wp2_with fail
  refine name1 (Q := fun W => Calls _ _ _ W _) ?_
  intro W1 L1 hs1 k1
  refine (wakes_any W1).mono ?_
  rintro e W2 ⟨rfl, l1⟩
  have L2 := L1.trans l1
  have k2 := k1.later l1
  clear l1 k1
  go_wp2_with fail
  generalize p % 1000000001 = a
  generalize s % 1002 = b
  generalize q % 1000000001 = c
  generalize t % 1002 = d
  clear hp hp' hq hq' hs hs' ht ht'
  go_loopw [49] (fun i wr => ∃ k : Nat, k ≤ 6 ∧ i = .int .i64 k ∧ Lat W2 wr) (fun i _ => 6 - (intOf i).toNat)
  case atStart => exact ⟨0, by omega, rfl, Lat.refl _⟩
  case round =>
    obtain ⟨k, hk, rfl, hlr⟩ := hrel
    by_cases hlt : k < 6
    · have hx := idx26 m k hlt
      obtain ⟨mk, hmk⟩ : ∃ v, ([11, 12, 13, 14, 15, m] : List Int).getD k 0 = v := ⟨_, rfl⟩
      rw [hmk] at hx
      clear hmk
      have k3 := k2.later hlr
      have c0 := k3.cell 0
      have c1 := k3.cell 1
      have c2 := k3.cell 2
      have c3 := k3.cell 3
      go_wp2_with (refine wpList_val rfl (.int .i64 mk) (hx _ _ _ _ _ (by rfl) (by rfl) (by rfl)) ?_)
      obtain ⟨wo, rfl⟩ : ∃ wo : World, wo = wr := ⟨_, rfl⟩
      go_loopw [66] (fun i wr => ∃ j : Nat, j ≤ 3 ∧ i = .int .i64 j ∧ Lat wo wr) (fun i _ => 3 - (intOf i).toNat)
      case atStart => exact ⟨0, by omega, rfl, Lat.refl _⟩
      case round =>
        clear c0 c1 c2 c3
        obtain ⟨j, hj, rfl, hlw⟩ := hrel
        by_cases hlt2 : j < 3
        · have hy := idx27 a b c d l0 l1 l2 l3 l0 b c l1 j hlt2
          generalize ([a, b, c, d, l0, l1, l2, l3, l0, b, c, l1] : List Int).getD (4 * j + 0) 0 = x0 at hy
          generalize ([a, b, c, d, l0, l1, l2, l3, l0, b, c, l1] : List Int).getD (4 * j + 1) 0 = x1 at hy
          generalize ([a, b, c, d, l0, l1, l2, l3, l0, b, c, l1] : List Int).getD (4 * j + 2) 0 = x2 at hy
          generalize ([a, b, c, d, l0, l1, l2, l3, l0, b, c, l1] : List Int).getD (4 * j + 3) 0 = x3 at hy
          obtain ⟨P, hP⟩ : ∃ P, postX mk x1 = P := ⟨_, rfl⟩
          obtain ⟨R, hR⟩ : ∃ R, rankX mk x0 x1 = R := ⟨_, rfl⟩
          have GP := postX_good mk x1
          have GR := rankX_good mk x0 x1
          rw [hP] at GP
          rw [hR] at GR
          have H1 := fun w => dPostX mk x1 w
          have H2 := fun w => rPostX mk x1 w
          have H3 := fun w => dRankX mk x0 x1 w
          have H4 := fun w => rRankX mk x0 x1 w
          have H5 := fun w => dAboveX mk x0 x1 x2 x3 w
          have H6 := fun w => rAboveX mk x0 x1 x2 x3 w
          rw [hP] at H1 H2
          rw [hR] at H3 H4
          generalize postE mk x1 = e1 at H1 H2
          generalize rankE mk x0 x1 = e2 at H3 H4
          generalize aboveV mk x0 x1 x2 x3 = v3 at H5 H6
          generalize aboveE mk x0 x1 x2 x3 = e3 at H5 H6
          have NP := fun w => GP.neq w
          have NR := fun w => GR.neq w
          have zP := Lib.hid GP.1
          have zR := Lib.hid GR.1
          have cP := Lib.hid GP.2.1
          have cR := Lib.hid GR.2.1
          have iP : Hid ((Tryz.prog.info? 32).map (·.size) = some P.size) := by show _ = _; rw [GP.1]; exact shareInfo16
          have iR : Hid ((Tryz.prog.info? 32).map (·.size) = some R.size) := by show _ = _; rw [GR.1]; exact shareInfo16
          clear GP GR hP hR
          go_wp2_with (refine wpList_val rfl (.agg #[.int .i64 x0, .int .i64 x1, .int .i64 x2, .int .i64 x3]) (hy _ _ _ _ _ (by rfl) (by rfl) (by rfl)) ?_)
          go_wp2_with fail
          refine name1 (Q := fun W => Calls _ _ _ W _) ?_
          intro u0 la hsa kb0
          have LA := hlw.trans la
          clear la hsa
          refine (H1 u0).mono ?_
          rintro e v0 ⟨rfl, l0⟩
          have K0 := Blk.new v0 32 #[.int .u64 W8.zero.a0, .int .u64 W8.zero.a1, .int .u64 W8.zero.a2, .int .u64 W8.zero.a3, .int .u64 W8.zero.a4, .int .u64 W8.zero.a5, .int .u64 W8.zero.a6, .int .u64 W8.zero.a7, .int .u64 W8.zero.a0, .int .u64 W8.zero.a1, .int .u64 W8.zero.a2, .int .u64 W8.zero.a3, .int .u64 W8.zero.a4, .int .u64 W8.zero.a5, .int .u64 W8.zero.a6, .int .u64 W8.zero.a7]
          clear H1
          go_wp2_with (refine wpList_put rfl 32 (.tmp 21) (.tmp 74) (by rfl) (by rfl) v0.heap.size (by rfl) P (by rfl) K0 (by rw [zP.out]; rfl) iP.out cP.out ?_; intro u1 hput; have B1 := hput.blk; have m0 := hput.lat u0 (l0.trans (Lat.alloc _ _)) (by have := l0.size; omega); have kb1 := kb0.later m0; have g0 := kb1.cell 0; have g1 := kb1.cell 1; have g2 := kb1.cell 2; have g3 := kb1.cell 3)
          have LA := LA.trans m0
          clear K0 hput l0 m0 kb0
          refine (H2 u1).mono ?_
          rintro e v1 ⟨rfl, l1⟩
          have K0 := Blk.new v1 32 #[.int .u64 W8.zero.a0, .int .u64 W8.zero.a1, .int .u64 W8.zero.a2, .int .u64 W8.zero.a3, .int .u64 W8.zero.a4, .int .u64 W8.zero.a5, .int .u64 W8.zero.a6, .int .u64 W8.zero.a7, .int .u64 W8.zero.a0, .int .u64 W8.zero.a1, .int .u64 W8.zero.a2, .int .u64 W8.zero.a3, .int .u64 W8.zero.a4, .int .u64 W8.zero.a5, .int .u64 W8.zero.a6, .int .u64 W8.zero.a7]
          clear H2 g0 g1 g2 g3
          go_wp2_with (refine wpList_put rfl 32 (.tmp 23) (.tmp 81) (by rfl) (by rfl) v1.heap.size (by rfl) P (by rfl) K0 (by rw [zP.out]; rfl) iP.out cP.out ?_; intro u2 hput; have B2 := hput.blk; have m1 := hput.lat u1 (l1.trans (Lat.alloc _ _)) (by have := l1.size; omega); have kb2 := kb1.later m1; have g0 := kb2.cell 0; have g1 := kb2.cell 1; have g2 := kb2.cell 2; have g3 := kb2.cell 3)
          have LA := LA.trans m1
          have B1 := B1.later m1
          clear K0 hput l1 m1 kb1
          refine (H3 u2).mono ?_
          rintro e v2 ⟨rfl, l2⟩
          have K0 := Blk.new v2 32 #[.int .u64 W8.zero.a0, .int .u64 W8.zero.a1, .int .u64 W8.zero.a2, .int .u64 W8.zero.a3, .int .u64 W8.zero.a4, .int .u64 W8.zero.a5, .int .u64 W8.zero.a6, .int .u64 W8.zero.a7, .int .u64 W8.zero.a0, .int .u64 W8.zero.a1, .int .u64 W8.zero.a2, .int .u64 W8.zero.a3, .int .u64 W8.zero.a4, .int .u64 W8.zero.a5, .int .u64 W8.zero.a6, .int .u64 W8.zero.a7]
          clear H3 g0 g1 g2 g3
          go_wp2_with (refine wpList_put rfl 32 (.tmp 25) (.tmp 90) (by rfl) (by rfl) v2.heap.size (by rfl) R (by rfl) K0 (by rw [zR.out]; rfl) iR.out cR.out ?_; intro u3 hput; have B3 := hput.blk; have m2 := hput.lat u2 (l2.trans (Lat.alloc _ _)) (by have := l2.size; omega); have kb3 := kb2.later m2; have g0 := kb3.cell 0; have g1 := kb3.cell 1; have g2 := kb3.cell 2; have g3 := kb3.cell 3)
          have LA := LA.trans m2
          have B1 := B1.later m2
          have B2 := B2.later m2
          clear K0 hput l2 m2 kb2
          refine (H4 u3).mono ?_
          rintro e v3 ⟨rfl, l3⟩
          have K0 := Blk.new v3 32 #[.int .u64 W8.zero.a0, .int .u64 W8.zero.a1, .int .u64 W8.zero.a2, .int .u64 W8.zero.a3, .int .u64 W8.zero.a4, .int .u64 W8.zero.a5, .int .u64 W8.zero.a6, .int .u64 W8.zero.a7, .int .u64 W8.zero.a0, .int .u64 W8.zero.a1, .int .u64 W8.zero.a2, .int .u64 W8.zero.a3, .int .u64 W8.zero.a4, .int .u64 W8.zero.a5, .int .u64 W8.zero.a6, .int .u64 W8.zero.a7]
          clear H4 g0 g1 g2 g3
          go_wp2_with (refine wpList_put rfl 32 (.tmp 27) (.tmp 99) (by rfl) (by rfl) v3.heap.size (by rfl) R (by rfl) K0 (by rw [zR.out]; rfl) iR.out cR.out ?_; intro u4 hput; have B4 := hput.blk; have m3 := hput.lat u3 (l3.trans (Lat.alloc _ _)) (by have := l3.size; omega); have kb4 := kb3.later m3; have g0 := kb4.cell 0; have g1 := kb4.cell 1; have g2 := kb4.cell 2; have g3 := kb4.cell 3)
          have LA := LA.trans m3
          have B1 := B1.later m3
          have B2 := B2.later m3
          have B3 := B3.later m3
          clear K0 hput l3 m3 kb3
          refine (H5 u4).mono ?_
          rintro e u5 ⟨rfl, l4⟩
          clear H5 g0 g1 g2 g3
          have LA := LA.trans l4
          have B1 := B1.later l4
          have B2 := B2.later l4
          have B3 := B3.later l4
          have B4 := B4.later l4
          have kb5 := kb4.later l4
          have g0 := kb5.cell 0
          have g1 := kb5.cell 1
          have g2 := kb5.cell 2
          have g3 := kb5.cell 3
          clear kb4 l4
          go_wp2_with fail
          refine (H6 u5).mono ?_
          rintro e u6 ⟨rfl, l5⟩
          clear H6 g0 g1 g2 g3
          have LA := LA.trans l5
          have B1 := B1.later l5
          have B2 := B2.later l5
          have B3 := B3.later l5
          have B4 := B4.later l5
          clear l5 kb5
          go_wp2_with (first
            | (refine wpList_get (by rfl) 32 (.tmp 21) (by rfl) _ (by rfl) B1 _ Tryz.underlying32 rfl iP.out ?_)
            | (refine wpList_get (by rfl) 32 (.tmp 23) (by rfl) _ (by rfl) B2 _ Tryz.underlying32 rfl iP.out ?_)
            | (refine wpList_getG (by rfl) 32 (.tmp 25) (by rfl) _ (by rfl) B3 _ Tryz.underlying32 rfl iR.out ?_)
            | (refine wpList_getG (by rfl) 32 (.tmp 27) (by rfl) _ (by rfl) B4 _ Tryz.underlying32 rfl iR.out ?_)
            | (refine wpList_bin rfl .neq 32 32 (.tmp 127) (.tmp 128) (by rfl) P P (.bool false) (by rfl) (by rfl) hgd.out (NP _) ?_)
            | (refine wpList_binG (by rfl) .neq 32 32 (.tmp 136) (.tmp 137) (by rfl) R R (.bool false) (by rfl) (by rfl) hgd.out (NR _) ?_))
          go_roundw
          case rel => exact ⟨j + 1, by omega, by go_num, LA⟩
          case measure => simp [intOf]; omega
        · go_wp2
          go_roundw
          case rel => exact ⟨k + 1, by omega, by go_num, hlr.trans hlw⟩
          case measure => simp [intOf]; omega
    · go_wp2
      go_ret
      exact ⟨rfl, L2.trans hlr⟩
end Go.Proofs.YtebbhhdnjflmcaaGreat
