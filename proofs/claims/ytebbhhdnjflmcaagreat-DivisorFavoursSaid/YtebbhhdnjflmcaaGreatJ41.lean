/- Several texts in one: GivD, GivE, GivF, GivG. -/
import Derived.Test.YtebbhhdnjflmcaaGreatJ40
import Derived.Test.YtebbhhdnjflmcaaGreatJ35
import Derived.Test.YtebbhhdnjflmcaaGreatJ24

/- The reference of the divisors: Rank where it answers. -/
namespace Go.Proofs.YtebbhhdnjflmcaaGreat
open Go.RowKit

theorem rDiv_v {u1 v1 u2 v2 : W8} {a b c d N D : Int} (h1 : ShV u1 v1 a b) (f1 : Fits a b) (h2 : ShV u2 v2 c d) (f2 : Fits c d) (hc : 0 < c) (fN : Fits N D) (he : (a * d) * D = N * (b * c)) (w : World) :
    Calls Tryz.prog 42 #[.agg #[.int .u64 u1.a0, .int .u64 u1.a1, .int .u64 u1.a2, .int .u64 u1.a3, .int .u64 u1.a4, .int .u64 u1.a5, .int .u64 u1.a6, .int .u64 u1.a7, .int .u64 v1.a0, .int .u64 v1.a1, .int .u64 v1.a2, .int .u64 v1.a3, .int .u64 v1.a4, .int .u64 v1.a5, .int .u64 v1.a6, .int .u64 v1.a7], .agg #[.int .u64 u2.a0, .int .u64 u2.a1, .int .u64 u2.a2, .int .u64 u2.a3, .int .u64 u2.a4, .int .u64 u2.a5, .int .u64 u2.a6, .int .u64 u2.a7, .int .u64 v2.a0, .int .u64 v2.a1, .int .u64 v2.a2, .int .u64 v2.a3, .int .u64 v2.a4, .int .u64 v2.a5, .int .u64 v2.a6, .int .u64 v2.a7]] w (ShPost w N D) := by
  obtain ⟨o1, o2, i1, i2, k1⟩ := h1.facts f1
  obtain ⟨o3, o4, i3, i4, k2⟩ := h2.facts f2
  have c1 := low_cross (x := a) f1.1
  have c2 := low_cross (x := c) f2.1
  have hb := lowD_pos (x := a) f1.1
  have hd := lowD_pos (x := c) f2.1
  have hu : 0 < lowN c d := by
    have h0 : 0 < lowN c d * d := by rw [c2]; exact Int.mul_pos hc hd
    exact Int.pos_of_mul_pos_left h0 f2.1
  have hz : u2.toInt ≠ 0 := by rw [i3]; omega
  refine (rDiv_ok u1 v1 u2 v2 o1 o2 o3 o4 k1 k2 hz w).mono fun e w' h => ?_
  have hpos : 0 < v1.toInt * u2.toInt := by rw [i2, i3]; exact Int.mul_pos hb hu
  have hcross : (u1.toInt * v2.toInt) * D = N * (v1.toInt * u2.toInt) := by
    rw [i1, i2, i3, i4]
    have hbc : b * c ≠ 0 := by have := Int.mul_pos f1.1 hc; omega
    refine Int.eq_of_mul_eq_mul_right hbc ?_
    have e1 : lowN a b * lowD c d * D * (b * c) = (lowN a b * b) * (c * lowD c d) * D := by grind
    have e2 : N * (lowD a b * lowN c d) * (b * c) = (N * (b * c)) * (lowD a b * lowN c d) := by grind
    rw [e1, e2, c1, ← c2, ← he]
    grind
  obtain ⟨g1, g2⟩ := low_congr hpos fN.1 hcross
  rw [g1, g2] at h
  exact h.fits fN

theorem postN_zero {m s : Int} (h0 : 11 ≤ m) (h1 : m ≤ 15) (h2 : 0 ≤ s) : (s = 0 ∧ m ≤ 13) ↔ postN m s = 0 := by
  have : m = 11 ∨ m = 12 ∨ m = 13 ∨ m = 14 ∨ m = 15 := by omega
  constructor
  · rintro ⟨rfl, h⟩
    rcases this with rfl | rfl | rfl | rfl | rfl <;> simp [postN] <;> omega
  · intro h
    have hp : 0 < s → 0 < s * (s + 1) := fun h => Int.mul_pos h (by omega)
    have he : 2 * s * (s + 1) = 2 * (s * (s + 1)) := Int.mul_assoc _ _ _
    rcases this with rfl | rfl | rfl | rfl | rfl <;> simp [postN] at h <;> omega

theorem rRank_in (m p s : Int) (w : World) (h0 : 11 ≤ m) (h1 : m ≤ 15) (h2 : 0 ≤ s) (h3 : s ≤ 1000) (p0 : 0 ≤ p) (p1 : p ≤ 1000000000) (hn : 0 < postN m s) :
    Calls Tryz.prog 13 #[.int .i64 m, .int .i64 p, .int .i64 s] w (ShPost w (topOf m p * postD m s) (postN m s)) := by
  have HZ : Hid (decide (s = 0 ∧ m ≤ 13) = false) := by
    show _ = _
    rw [decide_eq_false_iff_not, postN_zero h0 h1 h2]; omega
  have HP := fun w => (rPost_ok m s w h0 h1 h2 h3).mono fun _ _ h => h.x
  have hN := postN_range (m := m) h2 h3
  have hD := postD_range (m := m) h2 h3
  have ht := topOf_range (m := m) p0 p1
  have fT : Fits (topOf m p) 1 := fits_small (by omega) (by omega) (by omega) (by omega)
  have fP : Fits (postN m s) (postD m s) := fits_small (by omega) (by omega) (by omega) (by omega)
  have fR := rank_fits (m := m) p0 p1 h2 h3 hn
  have HO := fun w => calls_fits (rOf_ok (topOf m p) 1 (by omega) (by omega) (by omega) (by omega) (by omega) w) fT
  have HD : ∀ (X Y : Array Value) (w : World), Hid (ShC X (topOf m p) 1) → Hid (ShC Y (postN m s) (postD m s)) → Calls Tryz.prog 42 #[.agg X, .agg Y] w (ShX w (topOf m p * postD m s) (postN m s)) := by
    rintro X Y w ⟨u1, v1, rfl, a1⟩ ⟨u2, v2, rfl, a2⟩
    exact (rDiv_v a1 fT a2 fP hn fR (by rw [Int.one_mul]) w).mono fun _ _ h => h.x
  by_cases hm : m = 13
  · subst hm
    have e : topOf 13 p = p * p := rfl
    rw [e] at HO HD ⊢
    exact rRank_hill p s w _ _ p0 p1 HZ HP HO HD
  · have e : topOf m p = p := by rw [topOf, if_neg hm]
    rw [e] at HO HD ⊢
    exact rRank_plain m p s w _ _ hm p0 p1 HZ HP HO HD
end Go.Proofs.YtebbhhdnjflmcaaGreat

/- The reference of the divisors: Above, where both signposts are above zero. -/
namespace Go.Proofs.YtebbhhdnjflmcaaGreat
open Go.RowKit

set_option maxRecDepth 100000 in
set_option maxHeartbeats 4000000 in
theorem rAbove_gen (m p s q t : Int) (w : World) (A B C D z : Int) (h0 : 11 ≤ m) (h1 : m ≤ 15) (h2 : 0 ≤ s) (h3 : s ≤ 1000) (h4 : 0 ≤ t) (h5 : t ≤ 1000) (p0 : 1 ≤ p) (p1 : p ≤ 1000000000) (q0 : 1 ≤ q) (q1 : q ≤ 1000000000)
    (HZ1 : Hid (decide (s = 0 ∧ m ≤ 13) = false)) (HZ2 : Hid (decide (t = 0 ∧ m ≤ 13) = false))
    (HP : ∀ w, Calls Tryz.prog 13 #[.int .i64 m, .int .i64 p, .int .i64 s] w (ShX w A B))
    (HQ : ∀ w, Calls Tryz.prog 13 #[.int .i64 m, .int .i64 q, .int .i64 t] w (ShX w C D))
    (HC : ∀ (X Y : Array Value) (w : World), Hid (ShC X A B) → Hid (ShC Y C D) → Calls Tryz.prog 44 #[.agg X, .agg Y] w (fun e w' => e = .returned (.tuple #[.int .i64 z, .int .i64 0]) ∧ Lat w w')) :
    Calls Tryz.prog 15 #[.int .i64 m, .int .i64 p, .int .i64 s, .int .i64 q, .int .i64 t] w (fun e w' => e = .returned (.tuple #[.int .i64 z, .int .i64 0]) ∧ Lat w w') := by
  have Hi16 := Lib.hid shareInfo'
  have HK := Lib.hid (show decide (11 ≤ m ∧ m ≤ 15) = true by simp [h0, h1])
  clear h0 h1
  go_enter Tryz.func15, Tryz.ntmps15
  go_wp2_with fail
  refine (rKnown_any m w).mono ?_
  rintro e w1 ⟨rfl, rfl⟩
  rw [HK.out]
  go_wp2_with fail
  refine (rZero7_any m s w).mono ?_
  rintro e w1 ⟨rfl, rfl⟩
  rw [HZ1.out]
  go_wp2_with fail
  refine (rZero7_any m t w).mono ?_
  rintro e w1 ⟨rfl, rfl⟩
  rw [HZ2.out]
  go_wp2_with fail
  refine (HP w).mono ?_
  rintro e w2 ⟨X, rfl, x1, x2, x3, l2⟩
  have X1 := Lib.hid x1
  have X2 := Lib.hid x2
  have iX : Hid ((Tryz.prog.info? 32).map (·.size) = some X.size) := by show _ = _; rw [x1]; exact Hi16.out
  have K0 := Blk.new w2 32 #[.int .u64 W8.zero.a0, .int .u64 W8.zero.a1, .int .u64 W8.zero.a2, .int .u64 W8.zero.a3, .int .u64 W8.zero.a4, .int .u64 W8.zero.a5, .int .u64 W8.zero.a6, .int .u64 W8.zero.a7, .int .u64 W8.zero.a0, .int .u64 W8.zero.a1, .int .u64 W8.zero.a2, .int .u64 W8.zero.a3, .int .u64 W8.zero.a4, .int .u64 W8.zero.a5, .int .u64 W8.zero.a6, .int .u64 W8.zero.a7]
  have ls2 := l2.size
  clear x1 x2 HP HZ1 HZ2
  go_wp2_with (refine wpList_put rfl 32 (.tmp 12) (.tmp 82) (by rfl) (by rfl) w2.heap.size (by rfl) X (by rfl) K0 (by rw [X1.out]; rfl) iX.out X2.out ?_; intro w3 hput; have KX := hput.blk; have L3 := hput.lat w (l2.trans (Lat.alloc _ _)) (by omega))
  clear hput K0 l2
  refine (HQ w3).mono ?_
  rintro e w5 ⟨Y, rfl, y1, y2, y3, l5⟩
  have L5 := L3.trans l5
  have KX5 := KX.later l5
  have hlt6 := KX5.lt
  have Y1 := Lib.hid y1
  have Y2 := Lib.hid y2
  have iY : Hid ((Tryz.prog.info? 32).map (·.size) = some Y.size) := by show _ = _; rw [y1]; exact Hi16.out
  have K0 := Blk.new w5 32 #[.int .u64 W8.zero.a0, .int .u64 W8.zero.a1, .int .u64 W8.zero.a2, .int .u64 W8.zero.a3, .int .u64 W8.zero.a4, .int .u64 W8.zero.a5, .int .u64 W8.zero.a6, .int .u64 W8.zero.a7, .int .u64 W8.zero.a0, .int .u64 W8.zero.a1, .int .u64 W8.zero.a2, .int .u64 W8.zero.a3, .int .u64 W8.zero.a4, .int .u64 W8.zero.a5, .int .u64 W8.zero.a6, .int .u64 W8.zero.a7]
  have HC1 := fun w => HC X Y w x3 y3
  have ls5 := L5.size
  clear y1 y2 x3 y3 l5 HQ L3 KX HC
  go_wp2_with (first
    | (refine wpList_put rfl 32 (.tmp 14) (.tmp 89) (by rfl) (by rfl) w5.heap.size (by rfl) Y (by rfl) K0 (by rw [Y1.out]; rfl) iY.out Y2.out ?_; intro w6 hput; have KY := hput.blk; have L6 := hput.lat w (L5.trans (Lat.alloc _ _)) (by omega); have KX6 := hput.keep (KX5.alloc _) (by omega))
    | (refine wpList_get rfl 32 (.tmp 12) (by rfl) w2.heap.size (by rfl) KX6 _ Tryz.underlying32 rfl iX.out ?_)
    | (refine wpList_get rfl 32 (.tmp 14) (by rfl) w5.heap.size (by rfl) KY _ Tryz.underlying32 rfl iY.out ?_))
  clear hput K0 L5 KX5
  refine (HC1 w6).mono ?_
  rintro e w7 ⟨rfl, l7⟩
  go_wp2
  refine bodyPost_ret (v := .tuple #[.int .i64 z, .int .i64 0]) (by simp [results, Tryz.results15, go_sem]) rfl ?_
  exact ⟨rfl, L6.trans l7⟩
end Go.Proofs.YtebbhhdnjflmcaaGreat

/- The reference of the divisors: Above. -/
namespace Go.Proofs.YtebbhhdnjflmcaaGreat
open Go.RowKit

theorem rAbove_pos (m p s q t : Int) (w : World) (h0 : 11 ≤ m) (h1 : m ≤ 15) (h2 : 0 ≤ s) (h3 : s ≤ 1000) (h4 : 0 ≤ t) (h5 : t ≤ 1000) (p0 : 1 ≤ p) (p1 : p ≤ 1000000000) (q0 : 1 ≤ q) (q1 : q ≤ 1000000000)
    (hn : 0 < postN m s) (hk : 0 < postN m t) :
    Calls Tryz.prog 15 #[.int .i64 m, .int .i64 p, .int .i64 s, .int .i64 q, .int .i64 t] w (fun e w' => e = .returned (.tuple #[.int .i64 (cmpR m p s q t), .int .i64 0]) ∧ Lat w w') := by
  have HZ1 : Hid (decide (s = 0 ∧ m ≤ 13) = false) := by
    show _ = _
    rw [decide_eq_false_iff_not, postN_zero h0 h1 h2]; omega
  have HZ2 : Hid (decide (t = 0 ∧ m ≤ 13) = false) := by
    show _ = _
    rw [decide_eq_false_iff_not, postN_zero h0 h1 h4]; omega
  have G1 := rank_fits (m := m) (show 0 ≤ p by omega) p1 h2 h3 hn
  have G2 := rank_fits (m := m) (show 0 ≤ q by omega) q1 h4 h5 hk
  refine rAbove_gen m p s q t w (topOf m p * postD m s) (postN m s) (topOf m q * postD m t) (postN m t) _ h0 h1 h2 h3 h4 h5 p0 p1 q0 q1 HZ1 HZ2
    (fun w => (rRank_in m p s w h0 h1 h2 h3 (by omega) p1 hn).mono fun _ _ h => h.x) (fun w => (rRank_in m q t w h0 h1 h4 h5 (by omega) q1 hk).mono fun _ _ h => h.x) ?_
  rintro X Y w ⟨u1, v1, rfl, e1⟩ ⟨u2, v2, rfl, e2⟩
  obtain ⟨o1, o2, a1, a2, k1⟩ := e1.facts G1
  obtain ⟨o3, o4, a3, a4, k2⟩ := e2.facts G2
  have e : ordR (u1.toInt * v2.toInt - u2.toInt * v1.toInt) = cmpR m p s q t := by
    rw [cmpR, if_neg (by omega), if_neg (by omega), a1, a2, a3, a4]
    exact side_low G1.1 G2.1
  rw [← e]
  exact rCmp_ok u1 v1 u2 v2 o1 o2 o3 o4 k1 k2 w

set_option maxRecDepth 100000 in
set_option maxHeartbeats 4000000 in
theorem rAbove_zero (m p s q t : Int) (w : World) (h0 : 11 ≤ m) (h1 : m ≤ 15) (h2 : 0 ≤ s) (h3 : s ≤ 1000) (h4 : 0 ≤ t) (h5 : t ≤ 1000) (p0 : 1 ≤ p) (p1 : p ≤ 1000000000) (q0 : 1 ≤ q) (q1 : q ≤ 1000000000)
    (hn : postN m s = 0) :
    Calls Tryz.prog 15 #[.int .i64 m, .int .i64 p, .int .i64 s, .int .i64 q, .int .i64 t] w (fun e w' => e = .returned (.tuple #[.int .i64 (cmpR m p s q t), .int .i64 0]) ∧ Lat w w') := by
  have HZ1 : Hid (decide (s = 0 ∧ m ≤ 13) = true) := by
    show _ = _
    rw [decide_eq_true_iff, postN_zero h0 h1 h2]; omega
  have hc := Lib.hid (show cmpR m p s q t = if postN m t = 0 then sideOf (p - q) else 1 by rw [cmpR, if_pos hn])
  have HZ2 := Lib.hid (postN_zero h0 h1 h4)
  have HK := Lib.hid (show decide (11 ≤ m ∧ m ≤ 15) = true by simp [h0, h1])
  clear h0 h1
  go_enter Tryz.func15, Tryz.ntmps15
  go_wp2_with fail
  refine (rKnown_any m w).mono ?_
  rintro e w1 ⟨rfl, rfl⟩
  rw [HK.out]
  go_wp2_with fail
  refine (rZero7_any m s w).mono ?_
  rintro e w1 ⟨rfl, rfl⟩
  rw [HZ1.out]
  go_wp2_with fail
  refine (rZero7_any m s w).mono ?_
  rintro e w1 ⟨rfl, rfl⟩
  rw [HZ1.out]
  go_wp2_with fail
  refine (rZero7_any m t w).mono ?_
  rintro e w1 ⟨rfl, rfl⟩
  by_cases hz : t = 0 ∧ m ≤ 13
  · rw [decide_eq_true hz]
    have hk := HZ2.out.1 hz
    rcases Int.lt_trichotomy p q with h | h | h
    · have hs : sideOf (p - q) = -1 := by rw [sideOf, if_pos (by omega)]
      go_wp2
      refine bodyPost_ret (v := .tuple #[.int .i64 (-1), .int .i64 0]) (by simp [results, Tryz.results15, go_sem]) rfl ?_
      exact ⟨by rw [hc.out, if_pos hk, hs], Lat.refl _⟩
    · have hs : sideOf (p - q) = 0 := by rw [sideOf, if_neg (by omega), if_pos (by omega)]
      subst h
      go_wp2
      refine bodyPost_ret (v := .tuple #[.int .i64 0, .int .i64 0]) (by simp [results, Tryz.results15, go_sem]) rfl ?_
      exact ⟨by rw [hc.out, if_pos hk, hs], Lat.refl _⟩
    · have hs : sideOf (p - q) = 1 := by rw [sideOf, if_neg (by omega), if_neg (by omega)]
      go_wp2
      refine bodyPost_ret (v := .tuple #[.int .i64 1, .int .i64 0]) (by simp [results, Tryz.results15, go_sem]) rfl ?_
      exact ⟨by rw [hc.out, if_pos hk, hs], Lat.refl _⟩
  · rw [decide_eq_false hz]
    have hk : ¬ postN m t = 0 := fun h => hz (HZ2.out.2 h)
    go_wp2
    refine bodyPost_ret (v := .tuple #[.int .i64 1, .int .i64 0]) (by simp [results, Tryz.results15, go_sem]) rfl ?_
    exact ⟨by rw [hc.out, if_neg hk], Lat.refl _⟩

set_option maxRecDepth 100000 in
set_option maxHeartbeats 4000000 in
theorem rAbove_last (m p s q t : Int) (w : World) (h0 : 11 ≤ m) (h1 : m ≤ 15) (h2 : 0 ≤ s) (h3 : s ≤ 1000) (h4 : 0 ≤ t) (h5 : t ≤ 1000) (p0 : 1 ≤ p) (p1 : p ≤ 1000000000) (q0 : 1 ≤ q) (q1 : q ≤ 1000000000)
    (hn : 0 < postN m s) (hk : postN m t = 0) :
    Calls Tryz.prog 15 #[.int .i64 m, .int .i64 p, .int .i64 s, .int .i64 q, .int .i64 t] w (fun e w' => e = .returned (.tuple #[.int .i64 (cmpR m p s q t), .int .i64 0]) ∧ Lat w w') := by
  have HZ1 : Hid (decide (s = 0 ∧ m ≤ 13) = false) := by
    show _ = _
    rw [decide_eq_false_iff_not, postN_zero h0 h1 h2]; omega
  have HZ2 : Hid (decide (t = 0 ∧ m ≤ 13) = true) := by
    show _ = _
    rw [decide_eq_true_iff, postN_zero h0 h1 h4]; omega
  have hc : cmpR m p s q t = -1 := by rw [cmpR, if_neg (by omega), if_pos hk]
  have HK := Lib.hid (show decide (11 ≤ m ∧ m ≤ 15) = true by simp [h0, h1])
  rw [hc]
  clear h0 h1 hc
  go_enter Tryz.func15, Tryz.ntmps15
  go_wp2_with fail
  refine (rKnown_any m w).mono ?_
  rintro e w1 ⟨rfl, rfl⟩
  rw [HK.out]
  go_wp2_with fail
  refine (rZero7_any m s w).mono ?_
  rintro e w1 ⟨rfl, rfl⟩
  rw [HZ1.out]
  go_wp2_with fail
  refine (rZero7_any m t w).mono ?_
  rintro e w1 ⟨rfl, rfl⟩
  rw [HZ2.out]
  go_wp2_with fail
  refine (rZero7_any m s w).mono ?_
  rintro e w1 ⟨rfl, rfl⟩
  rw [HZ1.out]
  go_wp2
  refine bodyPost_ret (v := .tuple #[.int .i64 (-1), .int .i64 0]) (by simp [results, Tryz.results15, go_sem]) rfl ?_
  exact ⟨rfl, Lat.refl _⟩
end Go.Proofs.YtebbhhdnjflmcaaGreat

/- The reference of the divisors: Above, altogether, and where it answers no. -/
namespace Go.Proofs.YtebbhhdnjflmcaaGreat
open Go.RowKit

theorem rAbove_in (m p s q t : Int) (w : World) (h0 : 11 ≤ m) (h1 : m ≤ 15) (h2 : 0 ≤ s) (h3 : s ≤ 1000) (h4 : 0 ≤ t) (h5 : t ≤ 1000) (p0 : 1 ≤ p) (p1 : p ≤ 1000000000) (q0 : 1 ≤ q) (q1 : q ≤ 1000000000) :
    Calls Tryz.prog 15 #[.int .i64 m, .int .i64 p, .int .i64 s, .int .i64 q, .int .i64 t] w (fun e w' => e = .returned (.tuple #[.int .i64 (cmpR m p s q t), .int .i64 0]) ∧ Lat w w') := by
  have a1 := (postN_range (m := m) h2 h3).1
  have a2 := (postN_range (m := m) h4 h5).1
  by_cases hn : postN m s = 0
  · exact rAbove_zero m p s q t w h0 h1 h2 h3 h4 h5 p0 p1 q0 q1 hn
  · by_cases hk : postN m t = 0
    · exact rAbove_last m p s q t w h0 h1 h2 h3 h4 h5 p0 p1 q0 q1 (by omega) hk
    · exact rAbove_pos m p s q t w h0 h1 h2 h3 h4 h5 p0 p1 q0 q1 (by omega) (by omega)

set_option maxRecDepth 100000 in
set_option maxHeartbeats 4000000 in
theorem rAbove_no (m p s q t : Int) (w : World) (h : ¬ (11 ≤ m ∧ m ≤ 15 ∧ 0 ≤ s ∧ s ≤ 1000 ∧ 0 ≤ t ∧ t ≤ 1000 ∧ 1 ≤ p ∧ p ≤ 1000000000 ∧ 1 ≤ q ∧ q ≤ 1000000000)) :
    Calls Tryz.prog 15 #[.int .i64 m, .int .i64 p, .int .i64 s, .int .i64 q, .int .i64 t] w (fun e w' => e = .returned (.tuple #[.int .i64 0, .int .i64 2]) ∧ Lat w w') := by
  go_enter Tryz.func15, Tryz.ntmps15
  go_wp2_with fail
  refine (rKnown_any m w).mono ?_
  rintro e w1 ⟨rfl, rfl⟩
  by_cases hk : 11 ≤ m ∧ m ≤ 15
  · rw [decide_eq_true hk]
    have hb : s < 0 ∨ 1000 < s ∨ t < 0 ∨ 1000 < t ∨ p < 1 ∨ 1000000000 < p ∨ q < 1 ∨ 1000000000 < q := by omega
    clear h
    rcases hb with hb | hb | hb | hb | hb | hb | hb | hb
    all_goals
      go_wp2_with fail
      all_goals first
        | (exfalso; omega)
        | (refine bodyPost_ret (v := .tuple #[.int .i64 0, .int .i64 2]) (by simp [results, Tryz.results15, go_sem]) rfl ?_; exact ⟨rfl, Lat.refl _⟩)
  · rw [decide_eq_false hk]
    go_wp2
    refine bodyPost_ret (v := .tuple #[.int .i64 0, .int .i64 2]) (by simp [results, Tryz.results15, go_sem]) rfl ?_
    exact ⟨rfl, Lat.refl _⟩
end Go.Proofs.YtebbhhdnjflmcaaGreat
