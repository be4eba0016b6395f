/- Several texts in one: ShareH, ShareI. -/
import Derived.Test.YteocdndanehpnaaGreatH12
import Derived.DeepKeys
import Derived.ChangeKeysEq
import Derived.Laws.StructEq
namespace Go.Proofs.YteocdndanehpnaaGreat
open Go.RowKit
theorem eq_words (u v : W8) (h : u.a0 ≠ v.a0) (w : World) : (Op.equalIn 10000 97 (.agg #[.int .u64 u.a0, .int .u64 u.a1, .int .u64 u.a2, .int .u64 u.a3, .int .u64 u.a4, .int .u64 u.a5, .int .u64 u.a6, .int .u64 u.a7]) (.agg #[.int .u64 v.a0, .int .u64 v.a1, .int .u64 v.a2, .int .u64 v.a3, .int .u64 v.a4, .int .u64 v.a5, .int .u64 v.a6, .int .u64 v.a7])).run Tryz.prog w = .ok false w := by
 obtain ⟨i0, hi0, hz0, hz1, hz2⟩ := info_parts infoU64
 have hd : (u.a0 == v.a0) = false := beq_eq_false_iff_ne.mpr h
 have hc : Tryz.prog.cellsOf 95 = 1 := by kernel_rfl
 rw [run_equalIn_array w 9999 _ _ Tryz.underlying97 hi0, hc]
 rw [show List.range 8 = [0, 1, 2, 3, 4, 5, 6, 7] from rfl]
 have hp : Tryz.prog.plainKey 95 = true := by kernel_rfl
 have p1 : (part 95 #[.int .u64 u.a0, .int .u64 u.a1, .int .u64 u.a2, .int .u64 u.a3, .int .u64 u.a4, .int .u64 u.a5, .int .u64 u.a6, .int .u64 u.a7] 0).run Tryz.prog w = .ok (.int .u64 u.a0) w := run_part_plain w hp rfl
 have p2 : (part 95 #[.int .u64 v.a0, .int .u64 v.a1, .int .u64 v.a2, .int .u64 v.a3, .int .u64 v.a4, .int .u64 v.a5, .int .u64 v.a6, .int .u64 v.a7] 0).run Tryz.prog w = .ok (.int .u64 v.a0) w := run_part_plain w hp rfl
 have p3 : (Op.equalIn 9999 95 (.int .u64 u.a0) (.int .u64 v.a0)).run Tryz.prog w = .ok (u.a0 == v.a0) w := run_equalIn_int w 9998 95 .u64 .u64 _ _ Tryz.underlying95
 rw [Op.eqItems]
 simp only [Nat.zero_mul, Sem.run_bind, p1, p2, p3, Result.andThen_ok, hd]
 simp
set_option maxRecDepth 100000 in
set_option maxHeartbeats 4000000 in
theorem shMake_ok (u v : W8) (hu : u.ok) (hv : v.ok) (h0 : v.a0 ≠ 0) (hz : v.toInt ≠ 0) (w : World) :
  Calls Tryz.prog 93 #[.agg #[.int .u64 u.a0, .int .u64 u.a1, .int .u64 u.a2, .int .u64 u.a3, .int .u64 u.a4, .int .u64 u.a5, .int .u64 u.a6, .int .u64 u.a7], .agg #[.int .u64 v.a0, .int .u64 v.a1, .int .u64 v.a2, .int .u64 v.a3, .int .u64 v.a4, .int .u64 v.a5, .int .u64 v.a6, .int .u64 v.a7]] w (SharePost w (lowN u.toInt v.toInt) (lowD u.toInt v.toInt)) := by
 have hd : ∀ w, (Op.equalIn 10000 97 (.agg #[.int .u64 v.a0, .int .u64 v.a1, .int .u64 v.a2, .int .u64 v.a3, .int .u64 v.a4, .int .u64 v.a5, .int .u64 v.a6, .int .u64 v.a7]) (.agg #[.int .u64 0, .int .u64 0, .int .u64 0, .int .u64 0, .int .u64 0, .int .u64 0, .int .u64 0, .int .u64 0])).run Tryz.prog w = .ok false w := fun w => eq_words v W8.zero h0 w
 have HX := longer_any u hu
 have HY := longer_any v hv
 have HZ := Lib.hid hz
 clear hu hv h0 hz
 go_enter Tryz.func93, Tryz.ntmps93
 go_wp2
 refine name3 (Q := fun W => Code.wp _ _ _ _ W) ?_
 intro W hl hs k1 k2 k3
 have hne1 : w.heap.size ∉ [w.heap.size + 1 + 1] := by simp; omega
 have hne2 : w.heap.size + 1 ∉ [w.heap.size + 1 + 1] := by simp
 have a0 := k1.evS hne1 0 rfl
 have a1 := k1.evS hne1 1 rfl
 have a2 := k1.evS hne1 2 rfl
 have a3 := k1.evS hne1 3 rfl
 have a4 := k1.evS hne1 4 rfl
 have a5 := k1.evS hne1 5 rfl
 have a6 := k1.evS hne1 6 rfl
 have a7 := k1.evS hne1 7 rfl
 have d0 := k2.evS hne2 0 rfl
 have d1 := k2.evS hne2 1 rfl
 have d2 := k2.evS hne2 2 rfl
 have d3 := k2.evS hne2 3 rfl
 have d4 := k2.evS hne2 4 rfl
 have d5 := k2.evS hne2 5 rfl
 have d6 := k2.evS hne2 6 rfl
 have d7 := k2.evS hne2 7 rfl
 have L0 := Lat.drew W
 have M0 := L0.s [w.heap.size + 1 + 1]
 go_region_held3 (fun w' => LatS W [w.heap.size + 1 + 1] w') (first | (with_reducible assumption) | ((iterate 16 (refine LatS.set ?_ (by simp) _)); with_reducible assumption))
  (first
    | (have _h := HX; go_at_call 114; (with_reducible refine (HX _).mono ?_); rintro e w2 ⟨b1, A1, n1, c1, rfl, q1, q2, q3⟩; have L2 := L0.trans q3; have M2 := L2.s [w.heap.size + 1 + 1]; clear HX _h)
    | (have _h := HY; go_at_call 114; (with_reducible refine (HY _).mono ?_); rintro e w3 ⟨b3, A3, n3, c3, rfl, r1, r2, r3⟩; have L3 := L2.trans r3; have M3 := L3.s [w.heap.size + 1 + 1]; clear HY _h)
    | (go_at_call 113; refine (lowest_any b1 A1 n1 c1 _ b3 A3 n3 c3 _ _ (q1.later r3) r1 HZ.out (by omega) (by omega)).mono ?_; rintro e w4 ⟨b, A, n, c, b', A', n', c', rfl, s1, s2, s3, s4, s5⟩; have L4 := L3.trans s5; have M4 := L4.s [w.heap.size + 1 + 1])
    | (go_at_call 115; refine (ratTold_any b A n c _ b' A' n' c' _ _ s1 s3 (by omega) (by omega)).mono ?_; rintro e w5 ⟨x, y, r, rfl, t1, t2⟩; have L5 := L4.trans t2; have M5 := L5.s [w.heap.size + 1 + 1]; have T1 := Lib.hid t1; clear t1; have K5 := k3.later L5
       have e0 := K5.cell 0
       have e1 := K5.cell 1
       have e2 := K5.cell 2
       have e3 := K5.cell 3
       have e4 := K5.cell 4
       have e5 := K5.cell 5
       have e6 := K5.cell 6
       have e7 := K5.cell 7
       have e8 := K5.cell 8
       have e9 := K5.cell 9
       have e10 := K5.cell 10
       have e11 := K5.cell 11
       have e12 := K5.cell 12
       have e13 := K5.cell 13
       have e14 := K5.cell 14
       have e15 := K5.cell 15
       have f0 := K5.frozen 0
       have f1 := K5.frozen 1
       have f2 := K5.frozen 2
       have f3 := K5.frozen 3
       have f4 := K5.frozen 4
       have f5 := K5.frozen 5
       have f6 := K5.frozen 6
       have f7 := K5.frozen 7
       have f8 := K5.frozen 8
       have f9 := K5.frozen 9
       have f10 := K5.frozen 10
       have f11 := K5.frozen 11
       have f12 := K5.frozen 12
       have f13 := K5.frozen 13
       have f14 := K5.frozen 14
       have f15 := K5.frozen 15
       have _u := True.intro))
 go_wp2
 refine bodyPost_ret (v := .tuple #[.agg #[.int .u64 x.a0, .int .u64 x.a1, .int .u64 x.a2, .int .u64 x.a3, .int .u64 x.a4, .int .u64 x.a5, .int .u64 x.a6, .int .u64 x.a7, .int .u64 y.a0, .int .u64 y.a1, .int .u64 y.a2, .int .u64 y.a3, .int .u64 y.a4, .int .u64 y.a5, .int .u64 y.a6, .int .u64 y.a7], .int .i64 r]) (by simp [results, Tryz.results93, go_sem, e0, e1, e2, e3, e4, e5, e6, e7, e8, e9, e10, e11, e12, e13, e14, e15]) rfl ?_
 refine ⟨x, y, r, rfl, T1.out, ?_⟩
 iterate 16 (refine Lat.setCell ?_ (by simp; try omega) _)
 exact hl.trans L5
end Go.Proofs.YteocdndanehpnaaGreat
namespace Go.Proofs.YteocdndanehpnaaGreat
open Go.RowKit
theorem of_a0 {d : Int} (h0 : d ≠ 0) (h1 : -9223372036854775808 ≤ d) (h2 : d < 9223372036854775808) : (W8.of d).a0 ≠ 0 := by
 intro h
 have e : (d % P512) % W64 = 0 := h
 unfold P512 W64 at e
 omega
set_option maxRecDepth 100000 in
set_option maxHeartbeats 4000000 in
theorem shOf_ok (n d : Int) (h0 : d ≠ 0) (n1 : -9223372036854775808 ≤ n) (n2 : n < 9223372036854775808) (h1 : -9223372036854775808 ≤ d) (h2 : d < 9223372036854775808) (w : World) :
  Calls Tryz.prog 64 #[.int .i64 n, .int .i64 d] w (SharePost w (lowN n d) (lowD n d)) := by
 have HM := shMake_ok (W8.of n) (W8.of d) (W8.of_ok n) (W8.of_ok d) (of_a0 h0 h1 h2)
 rw [W8.of_toInt (z := n) (by unfold P511; omega) (by unfold P511; omega), W8.of_toInt (z := d) (by unfold P511; omega) (by unfold P511; omega)] at HM
 have HX := of_any n n1 n2
 have HY := of_any d h1 h2
 have HH := fun w => HM h0 w
 obtain ⟨u, hu⟩ : ∃ u, u = W8.of n := ⟨_, rfl⟩
 obtain ⟨v, hv⟩ : ∃ v, v = W8.of d := ⟨_, rfl⟩
 rw [← hu] at HX
 rw [← hv] at HY
 rw [← hu, ← hv] at HH
 clear HM hu hv h0 h1 h2 n1 n2
 go_enter Tryz.func64, Tryz.ntmps64
 go_wp2_with fail
 refine name1 (Q := fun W => Calls _ _ _ W _) ?_
 intro W hl hs k1
 refine (HX W).mono ?_
 rintro e w1 ⟨rfl, l1⟩
 go_wp2_with fail
 refine (HY w1).mono ?_
 rintro e w2 ⟨rfl, l2⟩
 go_wp2_with fail
 refine (HH w2).mono ?_
 rintro e w3 ⟨x, y, r, rfl, q1, l3⟩
 have L := ((hl.trans l1).trans l2).trans l3
 have K := k1.later ((l1.trans l2).trans l3)
 have Q := Lib.hid q1
 clear q1 k1
 have e0 := K.cell 0
 have e1 := K.cell 1
 have e2 := K.cell 2
 have e3 := K.cell 3
 have e4 := K.cell 4
 have e5 := K.cell 5
 have e6 := K.cell 6
 have e7 := K.cell 7
 have e8 := K.cell 8
 have e9 := K.cell 9
 have e10 := K.cell 10
 have e11 := K.cell 11
 have e12 := K.cell 12
 have e13 := K.cell 13
 have e14 := K.cell 14
 have e15 := K.cell 15
 have f0 := K.frozen 0
 have f1 := K.frozen 1
 have f2 := K.frozen 2
 have f3 := K.frozen 3
 have f4 := K.frozen 4
 have f5 := K.frozen 5
 have f6 := K.frozen 6
 have f7 := K.frozen 7
 have f8 := K.frozen 8
 have f9 := K.frozen 9
 have f10 := K.frozen 10
 have f11 := K.frozen 11
 have f12 := K.frozen 12
 have f13 := K.frozen 13
 have f14 := K.frozen 14
 have f15 := K.frozen 15
 go_wp2
 refine bodyPost_ret (v := .tuple #[.agg #[.int .u64 x.a0, .int .u64 x.a1, .int .u64 x.a2, .int .u64 x.a3, .int .u64 x.a4, .int .u64 x.a5, .int .u64 x.a6, .int .u64 x.a7, .int .u64 y.a0, .int .u64 y.a1, .int .u64 y.a2, .int .u64 y.a3, .int .u64 y.a4, .int .u64 y.a5, .int .u64 y.a6, .int .u64 y.a7], .int .i64 r]) (by simp [results, Tryz.results64, go_sem, e0, e1, e2, e3, e4, e5, e6, e7, e8, e9, e10, e11, e12, e13, e14, e15]) rfl ?_
 refine ⟨x, y, r, rfl, Q.out, ?_⟩
 iterate 16 (refine Lat.setCell ?_ (by simp; try omega) _)
 exact L
end Go.Proofs.YteocdndanehpnaaGreat
