/- Several texts in one: RefT. -/
import Derived.Test.YtbgngmamnonlbaaGreatH19
import Derived.Test.YtbgngmamnonlbaaGreatH10
namespace Go.Proofs.YtbgngmamnonlbaaGreat
open Go.RowKit
def RratPost (w : World) (x y : Int) (N : Nat) (e : Ending) (w' : World) : Prop :=
 ∃ b A n c b' A' n' c', e = .returned (.agg #[.bool b, .slice A n c, .bool b', .slice A' n' c']) ∧ Rg w' b A n c x ∧ n ≤ N ∧ Rg w' b' A' n' c' y ∧ n' ≤ N ∧ Lat w w'
theorem no_i64_4 (b : Bool) (A : Option Addr) (n c : Nat) (b' : Bool) (A' : Option Addr) (n' c' : Nat) : ∀ (j : Nat) (x : Int), (#[.bool b, .slice A n c, .bool b', .slice A' n' c'] : Array Value)[j]? ≠ some (.int .i64 x) := by
 intro j x
 match j with
 | 0 => simp
 | 1 => simp
 | 2 => simp
 | 3 => simp
 | j + 4 => simp
theorem RratPost.close {w w2 : World} {g t : Nat} {b b' b0 b0' : Bool} {A A' A0 A0' : Option Addr} {n c n' c' n0 c0 n0' c0' N : Nat} {x y : Int} (hk : Blk w2 g t #[.bool b0, .slice A0 n0 c0, .bool b0', .slice A0' n0' c0'])
  (h1 : Rg w2 b A n c x) (h2 : Rg w2 b' A' n' c' y) (hL : Lat w w2) (hg : w.heap.size ≤ g) (hn : n ≤ N) (hn' : n' ≤ N) :
  RratPost w x y N (.returned (.agg #[.bool b, .slice A n c, .bool b', .slice A' n' c'])) ((((w2.setCell ⟨g, 0, none⟩ (.bool b)).setCell ⟨g, 1, none⟩ (.slice A n c)).setCell ⟨g, 2, none⟩ (.bool b')).setCell ⟨g, 3, none⟩ (.slice A' n' c')) := by
 have ha := h1.apart hk (no_i64_4 _ _ _ _ _ _ _ _)
 have hb := h2.apart hk (no_i64_4 _ _ _ _ _ _ _ _)
 exact ⟨_, _, _, _, _, _, _, _, rfl, (((h1.far (p := ⟨g, 0, none⟩) ha _).far (p := ⟨g, 1, none⟩) ha _).far (p := ⟨g, 2, none⟩) ha _).far (p := ⟨g, 3, none⟩) ha _, hn,
  (((h2.far (p := ⟨g, 0, none⟩) hb _).far (p := ⟨g, 1, none⟩) hb _).far (p := ⟨g, 2, none⟩) hb _).far (p := ⟨g, 3, none⟩) hb _, hn',
  (((hL.setCell (p := ⟨g, 0, none⟩) hg _).setCell (p := ⟨g, 1, none⟩) hg _).setCell (p := ⟨g, 2, none⟩) hg _).setCell (p := ⟨g, 3, none⟩) hg _⟩
theorem Rg.neg_of {w : World} {A : Option Addr} {n c : Nat} {z : Int} (h : Rg w true A n c z) : z < 0 := by
 obtain ⟨_, xs, _, r, nz, hne, hv⟩ := h
 have := val_pos B32_pos r nz (hne rfl)
 rw [hv]; simp only [sgn, if_true]; omega
theorem Rg.nonneg_of {w : World} {A : Option Addr} {n c : Nat} {z : Int} (h : Rg w false A n c z) : 0 ≤ z := by
 obtain ⟨_, xs, _, r, nz, hne, hv⟩ := h
 have := val_nonneg B32_pos r
 rw [hv]; exact this
set_option maxRecDepth 100000 in
set_option maxHeartbeats 4000000 in
theorem rLowest_any (b1 : Bool) (A1 : Option Addr) (n1 c1 : Nat) (x : Int) (b2 : Bool) (A2 : Option Addr) (n2 c2 : Nat) (y : Int) (w : World) (h1 : Rg w b1 A1 n1 c1 x) (h2 : Rg w b2 A2 n2 c2 y) (hy0 : y ≠ 0) (hn : n1 ≤ 100000) (hm : n2 ≤ 100000) :
  Calls Tryz.prog 88 #[.agg #[.bool b1, .slice A1 n1 c1], .agg #[.bool b2, .slice A2 n2 c2]] w (RratPost w (lowN x y) (lowD x y) (max n1 n2 + 1)) := by
 have hg0 : (Int.gcd x y : Int) ≠ 0 := by
  have := Int.gcd_pos_of_ne_zero_right x hy0
  omega
 have hdx : Hid (x % (Int.gcd x y : Int) = 0 ∧ x % (-(Int.gcd x y : Int)) = 0) := ⟨Int.emod_eq_zero_of_dvd (Int.gcd_dvd_left ..), Int.emod_eq_zero_of_dvd (Int.neg_dvd.2 (Int.gcd_dvd_left ..))⟩
 have hdy : Hid (y % (Int.gcd x y : Int) = 0 ∧ y % (-(Int.gcd x y : Int)) = 0) := ⟨Int.emod_eq_zero_of_dvd (Int.gcd_dvd_right ..), Int.emod_eq_zero_of_dvd (Int.neg_dvd.2 (Int.gcd_dvd_right ..))⟩
 have hlow : Hid ((0 ≤ y → lowN x y = x / (Int.gcd x y : Int) ∧ lowD x y = y / (Int.gcd x y : Int)) ∧ (y < 0 → lowN x y = x / (-(Int.gcd x y : Int)) ∧ lowD x y = y / (-(Int.gcd x y : Int)))) := by
  refine ⟨fun h => ?_, fun h => ?_⟩
  ·rw [lowN, lowD, if_neg (by omega), if_neg (by omega)]; exact ⟨rfl, rfl⟩
  ·rw [lowN, lowD, if_pos h, if_pos h, Int.ediv_neg, Int.ediv_neg]; exact ⟨rfl, rfl⟩
 have HG := Lib.hid hg0
 have H1 := Lib.hid h1
 have H2 := Lib.hid h2
 clear hg0 hy0 h1 h2
 obtain ⟨G, hG⟩ : ∃ G : Int, (Int.gcd x y : Int) = G := ⟨_, rfl⟩
 rw [hG] at hdx hdy hlow HG
 have EG := Lib.hid hG
 clear hG
 go_enter Tryz.func88, Tryz.ntmps88
 go_wp2_with fail
 refine name3 (Q := fun W => Calls _ _ _ W _) ?_
 intro W hl hs k1 k2 k3
 refine (rDivisor_any b1 A1 n1 c1 x b2 A2 n2 c2 y W (H1.out.later hl) (H2.out.later hl) (by omega) (by omega)).mono ?_
 rintro e w1 ⟨bg, Ag, ng, cg, rfl, g1, g2, g3⟩
 have LA := hl.trans g3
 have B1 := k1.later g3
 have B2 := k2.later g3
 have B3 := k3.later g3
 rw [EG.out] at g1
 have G1 := Lib.hid g1
 have s1 := g3.size
 clear k1 k2 k3 hl g1 g3
 have c0 := B1.ever 0 rfl
 have c1' := B1.ever 1 rfl
 have c2' := B2.ever 0 rfl
 have c3' := B2.ever 1 rfl
 have L1 := Lat.alloc w1 (.cells #[.bool bg, .slice Ag ng cg] 116)
 cases b2 with
 | false =>
   have hy := H2.out.nonneg_of
   have hlw := Lib.hid (hlow.out.1 hy)
   clear hlow
   go_wp2_with fail
   refine name1 (Q := fun W => Calls _ _ _ W _) ?_
   intro W2 hl2 hs2 k4
   have LB0 := LA.trans hl2
   have E1 := B1.later hl2
   have E2 := B2.later hl2
   have E3 := B3.later hl2
   have GG := Lib.hid (G1.out.later hl2)
   have HD : Hid (x % G = 0 ∧ y % G = 0 ∧ G ≠ 0) := ⟨hdx.out.1, hdy.out.1, HG.out⟩
   clear B1 B2 B3 G1 c0 c1' c2' c3' L1 hl2 LA
   refine (rParts_any b1 A1 n1 c1 x bg Ag ng cg G W2 (H1.out.later LB0) GG.out HD.out.2.2 (.inr HD.out.1) hn (by omega)).mono ?_
   rintro e w2 ⟨bx, Ax, nx, cx, b', A', n', c', rfl, q1, q2, q3, q4, q5⟩
   have LB := LB0.trans q5
   have F1 := E1.later q5
   have F2 := E2.later q5
   have F3 := E3.later q5
   have F4 := k4.later q5
   have GH := Lib.hid (GG.out.later q5)
   have Q1 := Lib.hid q1
   clear E1 E2 E3 k4 GG q5 LB0 q1 q3
   have c0 := F1.ever 0 rfl
   have c1' := F1.ever 1 rfl
   have c2' := F2.ever 0 rfl
   have c3' := F2.ever 1 rfl
   have c4 := F4.ever 0 rfl
   have c5 := F4.ever 1 rfl
   have L2 := (Lat.alloc w2 (.cells #[.bool bx, .slice Ax nx cx] 116)).trans (Lat.alloc _ (.cells #[.bool b', .slice A' n' c'] 116))
   go_wp2_with fail
   refine name2 (Q := fun W => Calls _ _ _ W _) ?_
   intro W3 hl3 hs3 k5 k6
   refine (rParts_any false A2 n2 c2 y bg Ag ng cg G W3 (H2.out.later (LB.trans hl3)) (GH.out.later hl3) HD.out.2.2 (.inr HD.out.2.1) hm (by omega)).mono ?_
   rintro e w3 ⟨by', Ay, ny, cy, b'', A'', n'', c'', rfl, p1, p2, p3, p4, p5⟩
   have LC := (LB.trans hl3).trans p5
   have M3 := (F3.later hl3).later p5
   have M5 := k5.later p5
   have QX := Lib.hid ((Q1.out.later hl3).later p5)
   have QY := Lib.hid p1
   clear F1 F2 F3 F4 k5 k6 GH c0 c1' c2' c3' c4 c5 L2 hl3 p5 LB p1 p3 H1 H2 Q1
   have r0 := M3.ever 0 rfl
   have r1 := M3.ever 1 rfl
   have r2 := M3.ever 2 rfl
   have r3 := M3.ever 3 rfl
   have f0 := M3.free 0
   have f1 := M3.free 1
   have f2 := M3.free 2
   have f3 := M3.free 3
   have m0 := M5.cell 0
   have m1 := M5.cell 1
   have zz := M3.lt
   have zz5 := M5.lt
   have zz6 : w2.heap.size ≤ w3.heap.size := by omega
   have zz7 : w.heap.size + 1 + 1 ≤ w3.heap.size := by omega
   have L3 := (Lat.alloc w3 (.cells #[.bool by', .slice Ay ny cy] 116)).trans (Lat.alloc _ (.cells #[.bool b'', .slice A'' n'' c''] 116))
   go_wp2
   refine bodyPost_ret (v := .agg #[.bool bx, .slice Ax nx cx, .bool by', .slice Ay ny cy]) (by simp [results, Tryz.results88, go_sem, L3, r0, r1, r2, r3]) rfl ?_
   rw [hlw.out.1, hlw.out.2]
   exact RratPost.close (M3.later L3) (QX.out.later L3) (QY.out.later L3) (LC.trans L3) (by omega) (by omega) (by omega)
 | true =>
   have hy := H2.out.neg_of
   have hlw := Lib.hid (hlow.out.2 hy)
   clear hlow
   have HD : Hid (x % -G = 0 ∧ y % -G = 0 ∧ -G ≠ 0) := ⟨hdx.out.2, hdy.out.2, by have := HG.out; omega⟩
   go_wp2_with fail
   refine name1 (Q := fun W => Calls _ _ _ W _) ?_
   intro W5 hl5 hs5 k4
   have LB1 := LA.trans hl5
   have I1 := B1.later hl5
   have I2 := B2.later hl5
   have I3 := B3.later hl5
   clear B1 B2 B3 c0 c1' c2' c3' L1 LA
   refine (rTurn_any bg Ag ng cg G W5 (G1.out.later hl5) (by omega)).mono ?_
   rintro e w5 ⟨bh, Ah, nh, ch, rfl, t1, t2, t3⟩
   have J1 := I1.later t3
   have J2 := I2.later t3
   have J3 := I3.later t3
   have J4 := k4.later t3
   have LB2 := LB1.trans t3
   have hap := t1.apart J4 (no_i64 _ _ _ _)
   have T1 := Lib.hid t1
   have hz1 : w1.heap.size < w5.heap.size := J4.lt
   have hlt1 : w.heap.size + 1 + 1 < w1.heap.size := by omega
   clear I1 I2 I3 k4 LB1 hl5 hs5 t1 t3 G1
   have c0 := J1.cell 0
   have c1' := J1.cell 1
   have c2' := J2.cell 0
   have c3' := J2.cell 1
   have c4 := J4.cell 0
   have c5 := J4.cell 1
   have f4 := J4.frozen 0
   have f5 := J4.frozen 1
   have n1' : w.heap.size ≠ w1.heap.size := by omega
   have n2' : w.heap.size + 1 ≠ w1.heap.size := by omega
   have n3' : w.heap.size + 1 + 1 ≠ w1.heap.size := by omega
   go_wp2_with fail
   refine gen (Q := fun W => Calls _ _ _ W _) _ ?_
   intro W2 hW2
   have k4 : Blk W2 w1.heap.size 116 #[.bool bh, .slice Ah nh ch] := by
    have := (J4.set 0 (.bool bh)).set 1 (.slice Ah nh ch)
    rw [hW2]; simpa using this
   have E1 : Blk W2 w.heap.size 116 #[.bool b1, .slice A1 n1 c1] := by
    rw [hW2]; exact (J1.far (p := ⟨w1.heap.size, 0, none⟩) n1' (.bool bh)).far (p := ⟨w1.heap.size, 1, none⟩) n1' (.slice Ah nh ch)
   have E2 : Blk W2 (w.heap.size + 1) 116 #[.bool true, .slice A2 n2 c2] := by
    rw [hW2]; exact (J2.far (p := ⟨w1.heap.size, 0, none⟩) n2' (.bool bh)).far (p := ⟨w1.heap.size, 1, none⟩) n2' (.slice Ah nh ch)
   have E3 : Blk W2 (w.heap.size + 1 + 1) 118 #[.bool false, .slice none 0 0, .bool false, .slice none 0 0] := by
    rw [hW2]; exact (J3.far (p := ⟨w1.heap.size, 0, none⟩) n3' (.bool bh)).far (p := ⟨w1.heap.size, 1, none⟩) n3' (.slice Ah nh ch)
   have LB0 : Lat w W2 := by
    rw [hW2]; exact (LB2.setCell (p := ⟨w1.heap.size, 0, none⟩) (by simp; omega) (.bool bh)).setCell (p := ⟨w1.heap.size, 1, none⟩) (by simp; omega) (.slice Ah nh ch)
   have GG : Hid (Rg W2 bh Ah nh ch (-G)) := by
    show Rg _ _ _ _ _ _
    rw [hW2]; exact (T1.out.far (p := ⟨w1.heap.size, 0, none⟩) hap _).far (p := ⟨w1.heap.size, 1, none⟩) hap _
   clear hW2 J1 J2 J3 J4 T1 c0 c1' c2' c3' c4 c5 f4 f5 n1' n2' n3' hap LB2
   refine (rParts_any b1 A1 n1 c1 x bh Ah nh ch (-G) W2 (H1.out.later LB0) GG.out HD.out.2.2 (.inr HD.out.1) hn (by omega)).mono ?_
   rintro e w2 ⟨bx, Ax, nx, cx, b', A', n', c', rfl, q1, q2, q3, q4, q5⟩
   have LB := LB0.trans q5
   have F1 := E1.later q5
   have F2 := E2.later q5
   have F3 := E3.later q5
   have F4 := k4.later q5
   have GH := Lib.hid (GG.out.later q5)
   have Q1 := Lib.hid q1
   clear E1 E2 E3 k4 GG q5 LB0 q1 q3
   have c0 := F1.ever 0 rfl
   have c1' := F1.ever 1 rfl
   have c2' := F2.ever 0 rfl
   have c3' := F2.ever 1 rfl
   have c4 := F4.ever 0 rfl
   have c5 := F4.ever 1 rfl
   have L2 := (Lat.alloc w2 (.cells #[.bool bx, .slice Ax nx cx] 116)).trans (Lat.alloc _ (.cells #[.bool b', .slice A' n' c'] 116))
   go_wp2_with fail
   refine name2 (Q := fun W => Calls _ _ _ W _) ?_
   intro W3 hl3 hs3 k5 k6
   refine (rParts_any true A2 n2 c2 y bh Ah nh ch (-G) W3 (H2.out.later (LB.trans hl3)) (GH.out.later hl3) HD.out.2.2 (.inr HD.out.2.1) hm (by omega)).mono ?_
   rintro e w3 ⟨by', Ay, ny, cy, b'', A'', n'', c'', rfl, p1, p2, p3, p4, p5⟩
   have LC := (LB.trans hl3).trans p5
   have M3 := (F3.later hl3).later p5
   have M5 := k5.later p5
   have QX := Lib.hid ((Q1.out.later hl3).later p5)
   have QY := Lib.hid p1
   clear F1 F2 F3 F4 k5 k6 GH c0 c1' c2' c3' c4 c5 L2 hl3 p5 LB p1 p3 H1 H2 Q1
   have r0 := M3.ever 0 rfl
   have r1 := M3.ever 1 rfl
   have r2 := M3.ever 2 rfl
   have r3 := M3.ever 3 rfl
   have f0 := M3.free 0
   have f1 := M3.free 1
   have f2 := M3.free 2
   have f3 := M3.free 3
   have m0 := M5.cell 0
   have m1 := M5.cell 1
   have zz := M3.lt
   have zz5 := M5.lt
   have zz6 : w2.heap.size ≤ w3.heap.size := by omega
   have zz7 : w.heap.size + 1 + 1 ≤ w3.heap.size := by omega
   have L3 := (Lat.alloc w3 (.cells #[.bool by', .slice Ay ny cy] 116)).trans (Lat.alloc _ (.cells #[.bool b'', .slice A'' n'' c''] 116))
   go_wp2
   refine bodyPost_ret (v := .agg #[.bool bx, .slice Ax nx cx, .bool by', .slice Ay ny cy]) (by simp [results, Tryz.results88, go_sem, L3, r0, r1, r2, r3]) rfl ?_
   rw [hlw.out.1, hlw.out.2]
   exact RratPost.close (M3.later L3) (QX.out.later L3) (QY.out.later L3) (LC.trans L3) (by omega) (by omega) (by omega)
end Go.Proofs.YtbgngmamnonlbaaGreat
