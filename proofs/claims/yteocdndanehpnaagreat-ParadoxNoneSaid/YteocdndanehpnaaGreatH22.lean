/- Several texts in one: DivD. -/
import Derived.Test.YteocdndanehpnaaGreatH20
import Derived.Test.YteocdndanehpnaaGreatH17
namespace Go.Proofs.YteocdndanehpnaaGreat
open Go.RowKit
def topOf (m p : Int) : Int := if m = 13 then p * p else p
theorem topOf_range {m p : Int} (h0 : 0 ≤ p) (h1 : p ≤ 1000000000) : 0 ≤ topOf m p ∧ topOf m p ≤ 1000000000000000000 := by
 unfold topOf
 split
 ·refine ⟨Int.mul_nonneg h0 h0, ?_⟩
  have := Int.mul_le_mul_of_nonneg_left h1 h0
  omega
 ·omega
def RankV (m p s : Int) (b : Bool) (u v : W8) : Prop := (postN m s = 0 ∧ b = true ∧ ShV u v p 1) ∨ (0 < postN m s ∧ b = false ∧ ShV u v (topOf m p * postD m s) (postN m s))
def RankPost (w : World) (m p s : Int) (e : Ending) (w' : World) : Prop := ∃ (b : Bool) (u v : W8), e = .returned (.agg #[.bool b, .int .u64 u.a0, .int .u64 u.a1, .int .u64 u.a2, .int .u64 u.a3, .int .u64 u.a4, .int .u64 u.a5, .int .u64 u.a6, .int .u64 u.a7, .int .u64 v.a0, .int .u64 v.a1, .int .u64 v.a2, .int .u64 v.a3, .int .u64 v.a4, .int .u64 v.a5, .int .u64 v.a6, .int .u64 v.a7]) ∧ RankV m p s b u v ∧ Lat w w'
theorem rank_fits {m p s : Int} (h0 : 0 ≤ p) (h1 : p ≤ 1000000000) (h2 : 0 ≤ s) (h3 : s ≤ 1000) (hn : 0 < postN m s) : Fits (topOf m p * postD m s) (postN m s) := by
 have ht := topOf_range (m := m) h0 h1
 have hd := postD_range (m := m) h2 h3
 have hN := postN_range (m := m) h2 h3
 have a1 := Int.mul_nonneg ht.1 (show 0 ≤ postD m s by omega)
 have a2 := Int.mul_le_mul_of_nonneg_left hd.2 ht.1
 have : (2001000000000000000000 : Int) < P511 := by decide
 have : (0 : Int) < P511 := P511_pos
 exact ⟨hn, by omega, by omega, by omega⟩
theorem shMul_v {u1 v1 u2 v2 : W8} {a b c d N D : Int} (h1 : ShV u1 v1 a b) (f1 : Fits a b) (h2 : ShV u2 v2 c d) (f2 : Fits c d) (fN : Fits N D) (he : (a * c) * D = N * (b * d)) (w : World) :
  Calls Tryz.prog 80 #[.agg #[.int .u64 u1.a0, .int .u64 u1.a1, .int .u64 u1.a2, .int .u64 u1.a3, .int .u64 u1.a4, .int .u64 u1.a5, .int .u64 u1.a6, .int .u64 u1.a7, .int .u64 v1.a0, .int .u64 v1.a1, .int .u64 v1.a2, .int .u64 v1.a3, .int .u64 v1.a4, .int .u64 v1.a5, .int .u64 v1.a6, .int .u64 v1.a7], .agg #[.int .u64 u2.a0, .int .u64 u2.a1, .int .u64 u2.a2, .int .u64 u2.a3, .int .u64 u2.a4, .int .u64 u2.a5, .int .u64 u2.a6, .int .u64 u2.a7, .int .u64 v2.a0, .int .u64 v2.a1, .int .u64 v2.a2, .int .u64 v2.a3, .int .u64 v2.a4, .int .u64 v2.a5, .int .u64 v2.a6, .int .u64 v2.a7]] w (ShPost w N D) := by
 obtain ⟨o1, o2, i1, i2, k1⟩ := h1.facts f1
 obtain ⟨o3, o4, i3, i4, k2⟩ := h2.facts f2
 refine (shMul_ok u1 v1 u2 v2 o1 o2 o3 o4 k1 k2 w).mono fun e w' h => ?_
 have hb := lowD_pos (x := a) f1.1
 have hd := lowD_pos (x := c) f2.1
 have hpos : 0 < v1.toInt * v2.toInt := by rw [i2, i4]; exact Int.mul_pos hb hd
 have hcross : (u1.toInt * u2.toInt) * D = N * (v1.toInt * v2.toInt) := by
  have c1 := low_cross (x := a) f1.1
  have c2 := low_cross (x := c) f2.1
  rw [i1, i2, i3, i4]
  have hbd : b * d ≠ 0 := by have := Int.mul_pos f1.1 f2.1; omega
  refine Int.eq_of_mul_eq_mul_right hbd ?_
  have e1 : lowN a b * lowN c d * D * (b * d) = (lowN a b * b) * (lowN c d * d) * D := by grind
  have e2 : N * (lowD a b * lowD c d) * (b * d) = (N * (b * d)) * (lowD a b * lowD c d) := by grind
  rw [e1, e2, c1, c2, ← he]
  grind
 obtain ⟨l1, l2⟩ := low_congr hpos fN.1 hcross
 rw [l1, l2] at h
 exact h.fits fN
theorem rankInfo : (Tryz.prog.info? 124).map (·.size) = some 17 := by kernel_rfl
theorem shareInfo' : (Tryz.prog.info? 99).map (·.size) = some 16 := by kernel_rfl
set_option maxRecDepth 100000 in
set_option maxHeartbeats 4000000 in
theorem ranked_zero (m p s : Int) (w : World) (h0 : 11 ≤ m) (h1 : m ≤ 15) (h2 : 0 ≤ s) (h3 : s ≤ 1000) (p0 : 0 ≤ p) (p1 : p ≤ 1000000000) (hz : postN m s = 0) :
  Calls Tryz.prog 57 #[.int .i64 m, .int .i64 p, .int .i64 s] w (RankPost w m p s) := by
 have HP := fun w => pPost m s w h0 h1 h2 h3
 have HO := fun w => (shOf_ok p 1 (by omega) (by omega) (by omega) (by omega) (by omega) w).mono fun e w' h => h.fits (fits_small (by omega) (by omega) (by omega) (by omega))
 have HZ := Lib.hid hz
 obtain ⟨D, eD⟩ : ∃ D, postD m s = D := ⟨_, rfl⟩
 rw [hz, eD] at HP
 clear hz eD h0 h1 h2 h3 p0 p1
 go_enter Tryz.func57, Tryz.ntmps57
 go_wp2_with fail
 refine name1 (Q := fun W => Calls _ _ _ W _) ?_
 intro W hl hs k1
 refine (HP W).mono ?_
 rintro e w1 ⟨rfl, l1⟩
 go_wp2_with fail
 refine (HO w1).mono ?_
 rintro e w2 ⟨u, v, rfl, q1, l2⟩
 have K := k1.later (l1.trans l2)
 have L := (hl.trans l1).trans l2
 have Q := Lib.hid q1
 have K3 := K.later (Lat.alloc w2 (.cells #[.int .u64 u.a0, .int .u64 u.a1, .int .u64 u.a2, .int .u64 u.a3, .int .u64 u.a4, .int .u64 u.a5, .int .u64 u.a6, .int .u64 u.a7, .int .u64 v.a0, .int .u64 v.a1, .int .u64 v.a2, .int .u64 v.a3, .int .u64 v.a4, .int .u64 v.a5, .int .u64 v.a6, .int .u64 v.a7] 99))
 have L3 := L.trans (Lat.alloc w2 (.cells #[.int .u64 u.a0, .int .u64 u.a1, .int .u64 u.a2, .int .u64 u.a3, .int .u64 u.a4, .int .u64 u.a5, .int .u64 u.a6, .int .u64 u.a7, .int .u64 v.a0, .int .u64 v.a1, .int .u64 v.a2, .int .u64 v.a3, .int .u64 v.a4, .int .u64 v.a5, .int .u64 v.a6, .int .u64 v.a7] 99))
 clear q1 k1 l1 l2 hl HP HO K L
 go_wp2_with (refine wpList_put rfl 124 (.tmp 6) (.tmp 32) (by rfl) (by rfl) w.heap.size (by rfl) #[.bool true, .int .u64 u.a0, .int .u64 u.a1, .int .u64 u.a2, .int .u64 u.a3, .int .u64 u.a4, .int .u64 u.a5, .int .u64 u.a6, .int .u64 u.a7, .int .u64 v.a0, .int .u64 v.a1, .int .u64 v.a2, .int .u64 v.a3, .int .u64 v.a4, .int .u64 v.a5, .int .u64 v.a6, .int .u64 v.a7] (by rfl) K3 (by rfl) rankInfo (by simp [Value.oneCell']) ?_; intro w9 hput)
 have K9 := hput.blk
 have L9 := hput.lat w L3 (Nat.le_refl _)
 clear hput K3 L3
 have e0 := K9.cell 0
 have e1 := K9.cell 1
 have e2 := K9.cell 2
 have e3 := K9.cell 3
 have e4 := K9.cell 4
 have e5 := K9.cell 5
 have e6 := K9.cell 6
 have e7 := K9.cell 7
 have e8 := K9.cell 8
 have e9 := K9.cell 9
 have e10 := K9.cell 10
 have e11 := K9.cell 11
 have e12 := K9.cell 12
 have e13 := K9.cell 13
 have e14 := K9.cell 14
 have e15 := K9.cell 15
 have e16 := K9.cell 16
 go_wp2
 refine bodyPost_ret (v := .agg #[.bool true, .int .u64 u.a0, .int .u64 u.a1, .int .u64 u.a2, .int .u64 u.a3, .int .u64 u.a4, .int .u64 u.a5, .int .u64 u.a6, .int .u64 u.a7, .int .u64 v.a0, .int .u64 v.a1, .int .u64 v.a2, .int .u64 v.a3, .int .u64 v.a4, .int .u64 v.a5, .int .u64 v.a6, .int .u64 v.a7]) (by simp [results, Tryz.results57, go_sem, e0, e1, e2, e3, e4, e5, e6, e7, e8, e9, e10, e11, e12, e13, e14, e15, e16]) rfl ?_
 exact ⟨true, u, v, rfl, .inl ⟨HZ.out, rfl, Q.out⟩, L9⟩
set_option maxRecDepth 100000 in
set_option maxHeartbeats 4000000 in
theorem ranked_hill (p s : Int) (N D T : Int) (HP : ∀ w, Calls Tryz.prog 79 #[.int .i64 s, .int .i64 13] w (fun e w' => e = .returned (.tuple #[.int .i64 N, .int .i64 D]) ∧ Lat w w'))
  (HO1 : ∀ w, Calls Tryz.prog 64 #[.int .i64 T, .int .i64 N] w (ShPost w T N)) (HO2 : ∀ w, Calls Tryz.prog 64 #[.int .i64 D, .int .i64 1] w (ShPost w D 1))
  (HM : ∀ u1 v1 u2 v2, ShV u1 v1 T N → ShV u2 v2 D 1 → ∀ w, Calls Tryz.prog 80 #[.agg #[.int .u64 u1.a0, .int .u64 u1.a1, .int .u64 u1.a2, .int .u64 u1.a3, .int .u64 u1.a4, .int .u64 u1.a5, .int .u64 u1.a6, .int .u64 u1.a7, .int .u64 v1.a0, .int .u64 v1.a1, .int .u64 v1.a2, .int .u64 v1.a3, .int .u64 v1.a4, .int .u64 v1.a5, .int .u64 v1.a6, .int .u64 v1.a7], .agg #[.int .u64 u2.a0, .int .u64 u2.a1, .int .u64 u2.a2, .int .u64 u2.a3, .int .u64 u2.a4, .int .u64 u2.a5, .int .u64 u2.a6, .int .u64 u2.a7, .int .u64 v2.a0, .int .u64 v2.a1, .int .u64 v2.a2, .int .u64 v2.a3, .int .u64 v2.a4, .int .u64 v2.a5, .int .u64 v2.a6, .int .u64 v2.a7]] w (ShPost w (T * D) N)) (hn0 : ((N : Int) == 0) = false) (et2 : wrap64 (p * p) = T) (w : World) :
  Calls Tryz.prog 57 #[.int .i64 13, .int .i64 p, .int .i64 s] w (fun e w' => ∃ u v : W8, e = .returned (.agg #[.bool false, .int .u64 u.a0, .int .u64 u.a1, .int .u64 u.a2, .int .u64 u.a3, .int .u64 u.a4, .int .u64 u.a5, .int .u64 u.a6, .int .u64 u.a7, .int .u64 v.a0, .int .u64 v.a1, .int .u64 v.a2, .int .u64 v.a3, .int .u64 v.a4, .int .u64 v.a5, .int .u64 v.a6, .int .u64 v.a7]) ∧ ShV u v (T * D) N ∧ Lat w w') := by
 go_enter Tryz.func57, Tryz.ntmps57
 go_wp2_with fail
 refine name1 (Q := fun W => Calls _ _ _ W _) ?_
 intro W hl hs k1
 refine (HP W).mono ?_
 rintro e w1 ⟨rfl, l1⟩
 go_wp2_with fail
 refine (HO1 w1).mono ?_
 rintro e w2 ⟨u1, v1, rfl, q1, l2⟩
 have Q1 := Lib.hid q1
 clear q1 et2
 go_wp2_with fail
 refine name1 (Q := fun W => Calls _ _ _ W _) ?_
 intro w3 l3 hs3 k3
 refine (HO2 w3).mono ?_
 rintro e w4 ⟨u2, v2, rfl, q2, l4⟩
 have Q2 := Lib.hid q2
 have K3 := (k3.later l4).later (Lat.alloc w4 (.cells #[.int .u64 u2.a0, .int .u64 u2.a1, .int .u64 u2.a2, .int .u64 u2.a3, .int .u64 u2.a4, .int .u64 u2.a5, .int .u64 u2.a6, .int .u64 u2.a7, .int .u64 v2.a0, .int .u64 v2.a1, .int .u64 v2.a2, .int .u64 v2.a3, .int .u64 v2.a4, .int .u64 v2.a5, .int .u64 v2.a6, .int .u64 v2.a7] 99))
 have K4 := Blk.new w4 99 #[.int .u64 u2.a0, .int .u64 u2.a1, .int .u64 u2.a2, .int .u64 u2.a3, .int .u64 u2.a4, .int .u64 u2.a5, .int .u64 u2.a6, .int .u64 u2.a7, .int .u64 v2.a0, .int .u64 v2.a1, .int .u64 v2.a2, .int .u64 v2.a3, .int .u64 v2.a4, .int .u64 v2.a5, .int .u64 v2.a6, .int .u64 v2.a7]
 have K := k1.later ((((l1.trans l2).trans l3).trans l4))
 have L := (((hl.trans l1).trans l2).trans l3).trans l4
 clear q2 k3 k1 hl l1 l2 l3 l4 HP HO1 HO2
 go_wp2_with (first
  | (refine wpList_get rfl 99 (.tmp 12) (by rfl) w2.heap.size (by rfl) K3 _ Tryz.underlying99 rfl shareInfo' ?_)
  | (refine wpList_get rfl 99 (.tmp 14) (by rfl) w4.heap.size (by rfl) K4 _ Tryz.underlying99 rfl shareInfo' ?_))
 clear K3 K4
 refine name1 (Q := fun W => Calls _ _ _ W _) ?_
 intro w5 l5 hs5 k5
 refine (HM u1 v1 u2 v2 Q1.out Q2.out w5).mono ?_
 rintro e w6 ⟨u, v, rfl, q3, l6⟩
 have Q3 := Lib.hid q3
 have L7 := ((L.trans l5).trans l6).trans (Lat.alloc w6 (.cells #[.int .u64 u.a0, .int .u64 u.a1, .int .u64 u.a2, .int .u64 u.a3, .int .u64 u.a4, .int .u64 u.a5, .int .u64 u.a6, .int .u64 u.a7, .int .u64 v.a0, .int .u64 v.a1, .int .u64 v.a2, .int .u64 v.a3, .int .u64 v.a4, .int .u64 v.a5, .int .u64 v.a6, .int .u64 v.a7] 99))
 have K7 := K.later ((l5.trans l6).trans (Lat.alloc w6 (.cells #[.int .u64 u.a0, .int .u64 u.a1, .int .u64 u.a2, .int .u64 u.a3, .int .u64 u.a4, .int .u64 u.a5, .int .u64 u.a6, .int .u64 u.a7, .int .u64 v.a0, .int .u64 v.a1, .int .u64 v.a2, .int .u64 v.a3, .int .u64 v.a4, .int .u64 v.a5, .int .u64 v.a6, .int .u64 v.a7] 99)))
 have K8 := Blk.new w6 99 #[.int .u64 u.a0, .int .u64 u.a1, .int .u64 u.a2, .int .u64 u.a3, .int .u64 u.a4, .int .u64 u.a5, .int .u64 u.a6, .int .u64 u.a7, .int .u64 v.a0, .int .u64 v.a1, .int .u64 v.a2, .int .u64 v.a3, .int .u64 v.a4, .int .u64 v.a5, .int .u64 v.a6, .int .u64 v.a7]
 clear q3 k5 l5 l6 HM Q1 Q2 K L
 go_wp2_with (first
  | (refine wpList_get rfl 99 (.tmp 16) (by rfl) w6.heap.size (by rfl) K8 _ Tryz.underlying99 rfl shareInfo' ?_)
  | (refine wpList_put rfl 124 (.tmp 6) (.tmp 57) (by rfl) (by rfl) w.heap.size (by rfl) #[.bool false, .int .u64 u.a0, .int .u64 u.a1, .int .u64 u.a2, .int .u64 u.a3, .int .u64 u.a4, .int .u64 u.a5, .int .u64 u.a6, .int .u64 u.a7, .int .u64 v.a0, .int .u64 v.a1, .int .u64 v.a2, .int .u64 v.a3, .int .u64 v.a4, .int .u64 v.a5, .int .u64 v.a6, .int .u64 v.a7] (by rfl) K7 (by rfl) rankInfo (by simp [Value.oneCell']) ?_; intro w9 hput))
 have K9 := hput.blk
 have L9 := hput.lat w L7 (Nat.le_refl _)
 clear hput K7 L7 K8
 have e0 := K9.cell 0
 have e1 := K9.cell 1
 have e2 := K9.cell 2
 have e3 := K9.cell 3
 have e4 := K9.cell 4
 have e5 := K9.cell 5
 have e6 := K9.cell 6
 have e7 := K9.cell 7
 have e8 := K9.cell 8
 have e9 := K9.cell 9
 have e10 := K9.cell 10
 have e11 := K9.cell 11
 have e12 := K9.cell 12
 have e13 := K9.cell 13
 have e14 := K9.cell 14
 have e15 := K9.cell 15
 have e16 := K9.cell 16
 go_wp2
 refine bodyPost_ret (v := .agg #[.bool false, .int .u64 u.a0, .int .u64 u.a1, .int .u64 u.a2, .int .u64 u.a3, .int .u64 u.a4, .int .u64 u.a5, .int .u64 u.a6, .int .u64 u.a7, .int .u64 v.a0, .int .u64 v.a1, .int .u64 v.a2, .int .u64 v.a3, .int .u64 v.a4, .int .u64 v.a5, .int .u64 v.a6, .int .u64 v.a7]) (by simp [results, Tryz.results57, go_sem, e0, e1, e2, e3, e4, e5, e6, e7, e8, e9, e10, e11, e12, e13, e14, e15, e16]) rfl ?_
 exact ⟨u, v, rfl, Q3.out, L9⟩
set_option maxRecDepth 100000 in
set_option maxHeartbeats 4000000 in
theorem ranked_other (m s : Int) (N D T : Int) (HP : ∀ w, Calls Tryz.prog 79 #[.int .i64 s, .int .i64 m] w (fun e w' => e = .returned (.tuple #[.int .i64 N, .int .i64 D]) ∧ Lat w w'))
  (HO1 : ∀ w, Calls Tryz.prog 64 #[.int .i64 T, .int .i64 N] w (ShPost w T N)) (HO2 : ∀ w, Calls Tryz.prog 64 #[.int .i64 D, .int .i64 1] w (ShPost w D 1))
  (HM : ∀ u1 v1 u2 v2, ShV u1 v1 T N → ShV u2 v2 D 1 → ∀ w, Calls Tryz.prog 80 #[.agg #[.int .u64 u1.a0, .int .u64 u1.a1, .int .u64 u1.a2, .int .u64 u1.a3, .int .u64 u1.a4, .int .u64 u1.a5, .int .u64 u1.a6, .int .u64 u1.a7, .int .u64 v1.a0, .int .u64 v1.a1, .int .u64 v1.a2, .int .u64 v1.a3, .int .u64 v1.a4, .int .u64 v1.a5, .int .u64 v1.a6, .int .u64 v1.a7], .agg #[.int .u64 u2.a0, .int .u64 u2.a1, .int .u64 u2.a2, .int .u64 u2.a3, .int .u64 u2.a4, .int .u64 u2.a5, .int .u64 u2.a6, .int .u64 u2.a7, .int .u64 v2.a0, .int .u64 v2.a1, .int .u64 v2.a2, .int .u64 v2.a3, .int .u64 v2.a4, .int .u64 v2.a5, .int .u64 v2.a6, .int .u64 v2.a7]] w (ShPost w (T * D) N)) (hn0 : ((N : Int) == 0) = false) (hm' : ((m : Int) == 13) = false) (w : World) :
  Calls Tryz.prog 57 #[.int .i64 m, .int .i64 T, .int .i64 s] w (fun e w' => ∃ u v : W8, e = .returned (.agg #[.bool false, .int .u64 u.a0, .int .u64 u.a1, .int .u64 u.a2, .int .u64 u.a3, .int .u64 u.a4, .int .u64 u.a5, .int .u64 u.a6, .int .u64 u.a7, .int .u64 v.a0, .int .u64 v.a1, .int .u64 v.a2, .int .u64 v.a3, .int .u64 v.a4, .int .u64 v.a5, .int .u64 v.a6, .int .u64 v.a7]) ∧ ShV u v (T * D) N ∧ Lat w w') := by
 go_enter Tryz.func57, Tryz.ntmps57
 go_wp2_with fail
 refine name1 (Q := fun W => Calls _ _ _ W _) ?_
 intro W hl hs k1
 refine (HP W).mono ?_
 rintro e w1 ⟨rfl, l1⟩
 go_wp2_with fail
 refine (HO1 w1).mono ?_
 rintro e w2 ⟨u1, v1, rfl, q1, l2⟩
 have Q1 := Lib.hid q1
 clear q1
 go_wp2_with fail
 refine name1 (Q := fun W => Calls _ _ _ W _) ?_
 intro w3 l3 hs3 k3
 refine (HO2 w3).mono ?_
 rintro e w4 ⟨u2, v2, rfl, q2, l4⟩
 have Q2 := Lib.hid q2
 have K3 := (k3.later l4).later (Lat.alloc w4 (.cells #[.int .u64 u2.a0, .int .u64 u2.a1, .int .u64 u2.a2, .int .u64 u2.a3, .int .u64 u2.a4, .int .u64 u2.a5, .int .u64 u2.a6, .int .u64 u2.a7, .int .u64 v2.a0, .int .u64 v2.a1, .int .u64 v2.a2, .int .u64 v2.a3, .int .u64 v2.a4, .int .u64 v2.a5, .int .u64 v2.a6, .int .u64 v2.a7] 99))
 have K4 := Blk.new w4 99 #[.int .u64 u2.a0, .int .u64 u2.a1, .int .u64 u2.a2, .int .u64 u2.a3, .int .u64 u2.a4, .int .u64 u2.a5, .int .u64 u2.a6, .int .u64 u2.a7, .int .u64 v2.a0, .int .u64 v2.a1, .int .u64 v2.a2, .int .u64 v2.a3, .int .u64 v2.a4, .int .u64 v2.a5, .int .u64 v2.a6, .int .u64 v2.a7]
 have K := k1.later ((((l1.trans l2).trans l3).trans l4))
 have L := (((hl.trans l1).trans l2).trans l3).trans l4
 clear q2 k3 k1 hl l1 l2 l3 l4 HP HO1 HO2
 go_wp2_with (first
  | (refine wpList_get rfl 99 (.tmp 12) (by rfl) w2.heap.size (by rfl) K3 _ Tryz.underlying99 rfl shareInfo' ?_)
  | (refine wpList_get rfl 99 (.tmp 14) (by rfl) w4.heap.size (by rfl) K4 _ Tryz.underlying99 rfl shareInfo' ?_))
 clear K3 K4
 refine name1 (Q := fun W => Calls _ _ _ W _) ?_
 intro w5 l5 hs5 k5
 refine (HM u1 v1 u2 v2 Q1.out Q2.out w5).mono ?_
 rintro e w6 ⟨u, v, rfl, q3, l6⟩
 have Q3 := Lib.hid q3
 have L7 := ((L.trans l5).trans l6).trans (Lat.alloc w6 (.cells #[.int .u64 u.a0, .int .u64 u.a1, .int .u64 u.a2, .int .u64 u.a3, .int .u64 u.a4, .int .u64 u.a5, .int .u64 u.a6, .int .u64 u.a7, .int .u64 v.a0, .int .u64 v.a1, .int .u64 v.a2, .int .u64 v.a3, .int .u64 v.a4, .int .u64 v.a5, .int .u64 v.a6, .int .u64 v.a7] 99))
 have K7 := K.later ((l5.trans l6).trans (Lat.alloc w6 (.cells #[.int .u64 u.a0, .int .u64 u.a1, .int .u64 u.a2, .int .u64 u.a3, .int .u64 u.a4, .int .u64 u.a5, .int .u64 u.a6, .int .u64 u.a7, .int .u64 v.a0, .int .u64 v.a1, .int .u64 v.a2, .int .u64 v.a3, .int .u64 v.a4, .int .u64 v.a5, .int .u64 v.a6, .int .u64 v.a7] 99)))
 have K8 := Blk.new w6 99 #[.int .u64 u.a0, .int .u64 u.a1, .int .u64 u.a2, .int .u64 u.a3, .int .u64 u.a4, .int .u64 u.a5, .int .u64 u.a6, .int .u64 u.a7, .int .u64 v.a0, .int .u64 v.a1, .int .u64 v.a2, .int .u64 v.a3, .int .u64 v.a4, .int .u64 v.a5, .int .u64 v.a6, .int .u64 v.a7]
 clear q3 k5 l5 l6 HM Q1 Q2 K L
 go_wp2_with (first
  | (refine wpList_get rfl 99 (.tmp 16) (by rfl) w6.heap.size (by rfl) K8 _ Tryz.underlying99 rfl shareInfo' ?_)
  | (refine wpList_put rfl 124 (.tmp 6) (.tmp 57) (by rfl) (by rfl) w.heap.size (by rfl) #[.bool false, .int .u64 u.a0, .int .u64 u.a1, .int .u64 u.a2, .int .u64 u.a3, .int .u64 u.a4, .int .u64 u.a5, .int .u64 u.a6, .int .u64 u.a7, .int .u64 v.a0, .int .u64 v.a1, .int .u64 v.a2, .int .u64 v.a3, .int .u64 v.a4, .int .u64 v.a5, .int .u64 v.a6, .int .u64 v.a7] (by rfl) K7 (by rfl) rankInfo (by simp [Value.oneCell']) ?_; intro w9 hput))
 have K9 := hput.blk
 have L9 := hput.lat w L7 (Nat.le_refl _)
 clear hput K7 L7 K8
 have e0 := K9.cell 0
 have e1 := K9.cell 1
 have e2 := K9.cell 2
 have e3 := K9.cell 3
 have e4 := K9.cell 4
 have e5 := K9.cell 5
 have e6 := K9.cell 6
 have e7 := K9.cell 7
 have e8 := K9.cell 8
 have e9 := K9.cell 9
 have e10 := K9.cell 10
 have e11 := K9.cell 11
 have e12 := K9.cell 12
 have e13 := K9.cell 13
 have e14 := K9.cell 14
 have e15 := K9.cell 15
 have e16 := K9.cell 16
 go_wp2
 refine bodyPost_ret (v := .agg #[.bool false, .int .u64 u.a0, .int .u64 u.a1, .int .u64 u.a2, .int .u64 u.a3, .int .u64 u.a4, .int .u64 u.a5, .int .u64 u.a6, .int .u64 u.a7, .int .u64 v.a0, .int .u64 v.a1, .int .u64 v.a2, .int .u64 v.a3, .int .u64 v.a4, .int .u64 v.a5, .int .u64 v.a6, .int .u64 v.a7]) (by simp [results, Tryz.results57, go_sem, e0, e1, e2, e3, e4, e5, e6, e7, e8, e9, e10, e11, e12, e13, e14, e15, e16]) rfl ?_
 exact ⟨u, v, rfl, Q3.out, L9⟩
theorem ranked_pos (m p s : Int) (w : World) (h0 : 11 ≤ m) (h1 : m ≤ 15) (h2 : 0 ≤ s) (h3 : s ≤ 1000) (p0 : 0 ≤ p) (p1 : p ≤ 1000000000) (hz : 0 < postN m s) :
  Calls Tryz.prog 57 #[.int .i64 m, .int .i64 p, .int .i64 s] w (RankPost w m p s) := by
 have HP := fun w => pPost m s w h0 h1 h2 h3
 have ht := topOf_range (m := m) p0 p1
 have hN := postN_range (m := m) h2 h3
 have hD := postD_range (m := m) h2 h3
 have hF := rank_fits (m := m) p0 p1 h2 h3 hz
 have HO1 := fun w => (shOf_ok (topOf m p) (postN m s) (by omega) (by omega) (by omega) (by omega) (by omega) w).mono fun e w' h => h.fits (fits_small (by omega) (by omega) (by omega) (by omega))
 have HO2 := fun w => (shOf_ok (postD m s) 1 (by omega) (by omega) (by omega) (by omega) (by omega) w).mono fun e w' h => h.fits (fits_small (by omega) (by omega) (by omega) (by omega))
 have HM : ∀ u1 v1 u2 v2, ShV u1 v1 (topOf m p) (postN m s) → ShV u2 v2 (postD m s) 1 → ∀ w, Calls Tryz.prog 80 #[.agg #[.int .u64 u1.a0, .int .u64 u1.a1, .int .u64 u1.a2, .int .u64 u1.a3, .int .u64 u1.a4, .int .u64 u1.a5, .int .u64 u1.a6, .int .u64 u1.a7, .int .u64 v1.a0, .int .u64 v1.a1, .int .u64 v1.a2, .int .u64 v1.a3, .int .u64 v1.a4, .int .u64 v1.a5, .int .u64 v1.a6, .int .u64 v1.a7], .agg #[.int .u64 u2.a0, .int .u64 u2.a1, .int .u64 u2.a2, .int .u64 u2.a3, .int .u64 u2.a4, .int .u64 u2.a5, .int .u64 u2.a6, .int .u64 u2.a7, .int .u64 v2.a0, .int .u64 v2.a1, .int .u64 v2.a2, .int .u64 v2.a3, .int .u64 v2.a4, .int .u64 v2.a5, .int .u64 v2.a6, .int .u64 v2.a7]] w (ShPost w (topOf m p * postD m s) (postN m s)) := fun u1 v1 u2 v2 a b w =>
  shMul_v a (fits_small (by omega) (by omega) (by omega) (by omega)) b (fits_small (by omega) (by omega) (by omega) (by omega)) hF (by rw [Int.mul_one]) w
 have hn0 : ((postN m s : Int) == 0) = false := by rw [beq_eq_false_iff_ne]; omega
 have fin : ∀ e w', (∃ u v : W8, e = .returned (.agg #[.bool false, .int .u64 u.a0, .int .u64 u.a1, .int .u64 u.a2, .int .u64 u.a3, .int .u64 u.a4, .int .u64 u.a5, .int .u64 u.a6, .int .u64 u.a7, .int .u64 v.a0, .int .u64 v.a1, .int .u64 v.a2, .int .u64 v.a3, .int .u64 v.a4, .int .u64 v.a5, .int .u64 v.a6, .int .u64 v.a7]) ∧ ShV u v (topOf m p * postD m s) (postN m s) ∧ Lat w w') → RankPost w m p s e w' := fun e w' ⟨u, v, a, b, c⟩ => ⟨false, u, v, a, .inr ⟨hz, rfl, b⟩, c⟩
 by_cases hm : m = 13
 ·subst hm
  have et : p * p = topOf 13 p := by rw [topOf, if_pos rfl]
  exact (ranked_hill p s _ _ _ HP HO1 HO2 HM hn0 (by rw [et]; exact IntWalk.wrap64_in _ (by omega)) w).mono fin
 ·have et : p = topOf m p := by rw [topOf, if_neg hm]
  have := (ranked_other m s _ _ _ HP HO1 HO2 HM hn0 (by rw [beq_eq_false_iff_ne]; exact hm) w).mono fin
  rw [← et] at this
  exact this
theorem ranked_any (m p s : Int) (w : World) (h0 : 11 ≤ m) (h1 : m ≤ 15) (h2 : 0 ≤ s) (h3 : s ≤ 1000) (p0 : 0 ≤ p) (p1 : p ≤ 1000000000) :
  Calls Tryz.prog 57 #[.int .i64 m, .int .i64 p, .int .i64 s] w (RankPost w m p s) := by
 have := (postN_range (m := m) h2 h3).1
 rcases Int.lt_or_eq_of_le this with h | h
 ·exact ranked_pos m p s w h0 h1 h2 h3 p0 p1 h
 ·exact ranked_zero m p s w h0 h1 h2 h3 p0 p1 h.symm
end Go.Proofs.YteocdndanehpnaaGreat
