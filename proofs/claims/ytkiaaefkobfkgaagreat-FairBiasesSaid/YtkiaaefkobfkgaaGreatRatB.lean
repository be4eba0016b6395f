/- Fractions of the reference: the negative, the sum, the difference; shares less one another. -/
import Derived.Test.YtkiaaefkobfkgaaGreatJ26
namespace Go.Proofs.YtkiaaefkobfkgaaGreat
open Go.RowKit
attribute [local go_sem ↓] Go.wp_at_zero Go.wp_at_succ

set_option maxRecDepth 100000 in
set_option maxHeartbeats 4000000 in
theorem rrTurn_any (b1 : Bool) (A1 : Option Addr) (n1 c1 : Nat) (x1 : Int) (b2 : Bool) (A2 : Option Addr) (n2 c2 : Nat) (y1 : Int) (w : World)
    (h1 : Rg w b1 A1 n1 c1 x1) (h2 : Rg w b2 A2 n2 c2 y1) (g1 : n1 ≤ 1000) :
    Calls Tryz.prog 214 #[.agg #[.bool b1, .slice A1 n1 c1, .bool b2, .slice A2 n2 c2]] w (fun e w' => ∃ b A n c, e = .returned (.agg #[.bool b, .slice A n c, .bool b2, .slice A2 n2 c2]) ∧ Rg w' b A n c (- x1) ∧ n ≤ n1 ∧ Rg w' b2 A2 n2 c2 y1 ∧ Lat w w') := by
  have H1 := Lib.hid h1
  have H2 := Lib.hid h2
  clear h1 h2
  go_enter Tryz.func214, Tryz.ntmps214
  go_wp2
  refine name2 (Q := fun W => Code.wp _ _ _ _ W) ?_
  intro W hl hs k1 k2
  have HX : ∀ w1, Lat W w1 → Calls Tryz.prog 208 #[.agg #[.bool b1, .slice A1 n1 c1]] w1 (RefPost w1 (- x1) n1) := fun w1 h => rTurn_any b1 A1 n1 c1 x1 w1 (H1.out.later (hl.trans h)) (by omega)
  have hne : w.heap.size ∉ [w.heap.size + 1] := by simp
  have a0 := k1.evS hne 0 rfl
  have a1 := k1.evS hne 1 rfl
  have a2 := k1.evS hne 2 rfl
  have a3 := k1.evS hne 3 rfl
  have L0 := Lat.drew W
  have M0 := L0.s [w.heap.size + 1]
  go_region_held3 (fun w' => LatS W [w.heap.size + 1] w') (first | (with_reducible assumption) | ((repeat refine LatS.set ?_ (by simp) _); (with_reducible assumption)))
    ((have _h := HX; go_at_call 208; (with_reducible refine (HX _ ?_).mono ?_); exact L0; rintro e w1 ⟨b, A, n, c, rfl, q1, q2, q3⟩; have L1 := L0.trans q3; have M1 := L1.s [w.heap.size + 1]; have K2 := k2.later L1; have d0 := K2.cell 0; have d1 := K2.cell 1; have d2 := K2.cell 2; have d3 := K2.cell 3; have f0 := K2.frozen 0; have f1 := K2.frozen 1; have f2 := K2.frozen 2; have f3 := K2.frozen 3; clear HX _h))
  go_wp2
  refine bodyPost_ret (v := .agg #[.bool b, .slice A n c, .bool b2, .slice A2 n2 c2]) (by simp [results, Tryz.results214, go_sem, d0, d1, d2, d3]) rfl ?_
  have hq : Rg w1 b2 A2 n2 c2 y1 := H2.out.later (hl.trans L1)
  obtain ⟨b5, A5, n5, c5, b6, A6, n6, c6, h0, t1, t2, t3, t4, t5⟩ := RratPost.close (N := n1 + n2) K2 q1 hq (hl.trans L1) (by omega) (by omega) (by omega)
  cases h0
  exact ⟨_, _, _, _, rfl, t1, q2, t3, t5⟩

set_option maxRecDepth 100000 in
set_option maxHeartbeats 8000000 in
theorem rrPlus_any (b1 : Bool) (A1 : Option Addr) (n1 c1 : Nat) (x1 : Int) (b2 : Bool) (A2 : Option Addr) (n2 c2 : Nat) (y1 : Int) (b3 : Bool) (A3 : Option Addr) (n3 c3 : Nat) (x2 : Int) (b4 : Bool) (A4 : Option Addr) (n4 c4 : Nat) (y2 : Int) (w : World)
    (h1 : Rg w b1 A1 n1 c1 x1) (h2 : Rg w b2 A2 n2 c2 y1) (h3 : Rg w b3 A3 n3 c3 x2) (h4 : Rg w b4 A4 n4 c4 y2) (hd : y1 * y2 ≠ 0) (hn1 : n1 ≤ 1000) (hn2 : n2 ≤ 1000) (hn3 : n3 ≤ 1000) (hn4 : n4 ≤ 1000) :
    Calls Tryz.prog 213 #[.agg #[.bool b1, .slice A1 n1 c1, .bool b2, .slice A2 n2 c2], .agg #[.bool b3, .slice A3 n3 c3, .bool b4, .slice A4 n4 c4]] w (RratPost w (lowN (x1 * y2 + x2 * y1) (y1 * y2)) (lowD (x1 * y2 + x2 * y1) (y1 * y2)) (n1 + n2 + n3 + n4 + 4)) := by
  have HD := Lib.hid hd
  clear hd
  go_enter Tryz.func213, Tryz.ntmps213
  go_wp2
  refine name3 (Q := fun W => Code.wp _ _ _ _ W) ?_
  intro W hl hs k1 k2 k3
  have hne1 : w.heap.size ∉ [w.heap.size + 1 + 1] := by simp; omega
  have hne2 : w.heap.size + 1 ∉ [w.heap.size + 1 + 1] := by simp
  have a0 := k1.evS hne1 0 rfl
  have a1 := k1.evS hne1 1 rfl
  have a2 := k1.evS hne1 2 rfl
  have a3 := k1.evS hne1 3 rfl
  have d0 := k2.evS hne2 0 rfl
  have d1 := k2.evS hne2 1 rfl
  have d2 := k2.evS hne2 2 rfl
  have d3 := k2.evS hne2 3 rfl
  have HX : ∀ wx, Lat W wx → Calls Tryz.prog 196 #[.agg #[.bool b1, .slice A1 n1 c1], .agg #[.bool b4, .slice A4 n4 c4]] wx (RefPost wx (x1 * y2) (n1 + n4)) := fun wx h => rTimes_any _ _ _ _ _ _ _ _ _ _ wx (h1.later (hl.trans h)) (h4.later (hl.trans h)) (by omega) (by omega)
  have HY : ∀ wx, Lat W wx → Calls Tryz.prog 196 #[.agg #[.bool b3, .slice A3 n3 c3], .agg #[.bool b2, .slice A2 n2 c2]] wx (RefPost wx (x2 * y1) (n3 + n2)) := fun wx h => rTimes_any _ _ _ _ _ _ _ _ _ _ wx (h3.later (hl.trans h)) (h2.later (hl.trans h)) (by omega) (by omega)
  have HZ : ∀ wx, Lat W wx → Calls Tryz.prog 196 #[.agg #[.bool b2, .slice A2 n2 c2], .agg #[.bool b4, .slice A4 n4 c4]] wx (RefPost wx (y1 * y2) (n2 + n4)) := fun wx h => rTimes_any _ _ _ _ _ _ _ _ _ _ wx (h2.later (hl.trans h)) (h4.later (hl.trans h)) (by omega) (by omega)
  have L0 := Lat.drew W
  have M0 := L0.s [w.heap.size + 1 + 1]
  go_region_held3 (fun w' => LatS W [w.heap.size + 1 + 1] w') (first | (with_reducible assumption) | ((repeat refine LatS.set ?_ (by simp) _); (with_reducible assumption)))
    (first
      | (have _h := HX; go_at_call 196; (with_reducible refine (HX _ (by assumption)).mono ?_); rintro e w2 ⟨b5, A5, n5, c5, rfl, q1, q2, q5⟩; have L2 := L0.trans q5; have M2 := L2.s [w.heap.size + 1 + 1]; clear HX _h)
      | (have _h := HY; go_at_call 196; (with_reducible refine (HY _ (by assumption)).mono ?_); rintro e w3 ⟨b6, A6, n6, c6, rfl, r1, r2, r5⟩; have L3 := L2.trans r5; have M3 := L3.s [w.heap.size + 1 + 1]; clear HY _h)
      | (go_at_call 248; refine (rPlus_any b5 A5 n5 c5 _ b6 A6 n6 c6 _ _ (q1.later r5) r1 (by omega) (by omega)).mono ?_; rintro e w4 ⟨b7, A7, n7, c7, rfl, s1, s2, s5⟩; have L4 := L3.trans s5; have M4 := L4.s [w.heap.size + 1 + 1])
      | (have _h := HZ; go_at_call 196; (with_reducible refine (HZ _ (by assumption)).mono ?_); rintro e w5 ⟨b8, A8, n8, c8, rfl, t1, t2, t5⟩; have L5 := L4.trans t5; have M5 := L5.s [w.heap.size + 1 + 1]; clear HZ _h)
      | (go_at_call 173; refine (rLowest_any b7 A7 n7 c7 _ b8 A8 n8 c8 _ _ (s1.later t5) t1 HD.out (by omega) (by omega)).mono ?_; rintro e w6 ⟨b, A, n, c, b', A', n', c', rfl, u1, u2, u3, u4, u5⟩; have L6 := L5.trans u5; have M6 := L6.s [w.heap.size + 1 + 1]; have K4 := k3.later L6; have e0 := K4.cell 0; have e1 := K4.cell 1; have e2 := K4.cell 2; have e3 := K4.cell 3; have f0 := K4.frozen 0; have f1 := K4.frozen 1; have f2 := K4.frozen 2; have f3 := K4.frozen 3))
  go_wp2
  refine bodyPost_ret (v := .agg #[.bool b, .slice A n c, .bool b', .slice A' n' c']) (by simp [results, Tryz.results213, go_sem, e0, e1, e2, e3]) rfl ?_
  exact RratPost.close K4 u1 u3 (hl.trans L6) (by omega) (by omega) (by omega)

set_option maxRecDepth 100000 in
set_option maxHeartbeats 4000000 in
theorem rrMinus_any (b1 : Bool) (A1 : Option Addr) (n1 c1 : Nat) (x1 : Int) (b2 : Bool) (A2 : Option Addr) (n2 c2 : Nat) (y1 : Int) (b3 : Bool) (A3 : Option Addr) (n3 c3 : Nat) (x2 : Int) (b4 : Bool) (A4 : Option Addr) (n4 c4 : Nat) (y2 : Int) (w : World)
    (h1 : Rg w b1 A1 n1 c1 x1) (h2 : Rg w b2 A2 n2 c2 y1) (h3 : Rg w b3 A3 n3 c3 x2) (h4 : Rg w b4 A4 n4 c4 y2) (hd : y1 * y2 ≠ 0) (hn1 : n1 ≤ 1000) (hn2 : n2 ≤ 1000) (hn3 : n3 ≤ 1000) (hn4 : n4 ≤ 1000) :
    Calls Tryz.prog 176 #[.agg #[.bool b1, .slice A1 n1 c1, .bool b2, .slice A2 n2 c2], .agg #[.bool b3, .slice A3 n3 c3, .bool b4, .slice A4 n4 c4]] w (RratPost w (lowN (x1 * y2 - x2 * y1) (y1 * y2)) (lowD (x1 * y2 - x2 * y1) (y1 * y2)) (n1 + n2 + n3 + n4 + 4)) := by
  have e0 : x1 * y2 - x2 * y1 = x1 * y2 + (- x2) * y1 := by rw [Int.neg_mul]; omega
  rw [e0]
  have H1 := Lib.hid h1
  have H2 := Lib.hid h2
  have H3 := Lib.hid h3
  have H4 := Lib.hid h4
  have HD := Lib.hid hd
  clear h1 h2 h3 h4 hd e0
  go_enter Tryz.func176, Tryz.ntmps176
  go_wp2
  refine name3 (Q := fun W => Code.wp _ _ _ _ W) ?_
  intro W hl hs k1 k2 k3
  have hne1 : w.heap.size ∉ [w.heap.size + 1 + 1] := by simp; omega
  have hne2 : w.heap.size + 1 ∉ [w.heap.size + 1 + 1] := by simp
  have a0 := k1.evS hne1 0 rfl
  have a1 := k1.evS hne1 1 rfl
  have a2 := k1.evS hne1 2 rfl
  have a3 := k1.evS hne1 3 rfl
  have d0 := k2.evS hne2 0 rfl
  have d1 := k2.evS hne2 1 rfl
  have d2 := k2.evS hne2 2 rfl
  have d3 := k2.evS hne2 3 rfl
  have L0 := Lat.drew W
  have M0 := L0.s [w.heap.size + 1 + 1]
  go_region_held3 (fun w' => LatS W [w.heap.size + 1 + 1] w') (first | (with_reducible assumption) | ((repeat refine LatS.set ?_ (by simp) _); (with_reducible assumption)))
    (first
      | (go_at_call 214; refine (rrTurn_any b3 A3 n3 c3 x2 b4 A4 n4 c4 y2 _ (H3.out.later (hl.trans L0)) (H4.out.later (hl.trans L0)) (by omega)).mono ?_; rintro e w1 ⟨b, A, n, c, rfl, q1, q2, q3, q4⟩; have L1 := L0.trans q4; have M1 := L1.s [w.heap.size + 1 + 1])
      | (go_at_call 213; refine (rrPlus_any b1 A1 n1 c1 x1 b2 A2 n2 c2 y1 b A n c (- x2) b4 A4 n4 c4 y2 _ (H1.out.later (hl.trans L1)) (H2.out.later (hl.trans L1)) q1 q3 HD.out (by omega) (by omega) (by omega) (by omega)).mono ?_; rintro e w2 ⟨b7, A7, n7, c7, b8, A8, n8, c8, rfl, u1, u2, u3, u4, u5⟩; have L5 := L1.trans u5; have M5 := L5.s [w.heap.size + 1 + 1]; have K5 := k3.later L5; have e0 := K5.cell 0; have e1 := K5.cell 1; have e2 := K5.cell 2; have e3 := K5.cell 3; have f0 := K5.frozen 0; have f1 := K5.frozen 1; have f2 := K5.frozen 2; have f3 := K5.frozen 3))
  go_wp2
  refine bodyPost_ret (v := .agg #[.bool b7, .slice A7 n7 c7, .bool b8, .slice A8 n8 c8]) (by simp [results, Tryz.results176, go_sem, e0, e1, e2, e3]) rfl ?_
  exact RratPost.close K5 u1 u3 (hl.trans L5) (by omega) (by omega) (by omega)
end Go.Proofs.YtkiaaefkobfkgaaGreat
