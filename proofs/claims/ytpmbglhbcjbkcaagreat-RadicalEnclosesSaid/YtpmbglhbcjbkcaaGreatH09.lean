/- Several texts in one: LongsD, Wide. -/
import Derived.Test.YtpmbglhbcjbkcaaGreatH08
import Derived.StillTailTactics
namespace Go.Proofs.YtpmbglhbcjbkcaaGreat
set_option maxHeartbeats 16000000
set_option maxRecDepth 100000
open Go.RowKit
def PartsPost (w : World) (q r : Int) (N M : Nat) (e : Ending) (w' : World) : Prop :=
 ∃ b A n c b' A' n' c', e = .returned (.tuple #[.agg #[.bool b, .slice A n c], .agg #[.bool b', .slice A' n' c']]) ∧ Lg w' b A n c q ∧ n ≤ N ∧ Lg w' b' A' n' c' r ∧ n' ≤ M ∧ Lat w w'
theorem PartsPost.drew {w w' : World} {q r : Int} {N M : Nat} {e : Ending} (h : PartsPost w q r N M e w') : PartsPost w q r N M e w'.drew := by
 obtain ⟨b, A, n, c, b', A', n', c', h1, h2, h3, h4, h5, h6⟩ := h
 exact ⟨b, A, n, c, b', A', n', c', h1, h2.later (Lat.drew _), h3, h4.later (Lat.drew _), h5, h6.trans (Lat.drew _)⟩
theorem zj2 (b : Bool) {v : Int} (h : 0 ≤ v) : ((sgn b v).natAbs : Int) = v := by cases b <;> simp [sgn] <;> omega
theorem Lg.len_le {w w' : World} {b b' : Bool} {A A' : Option Addr} {n c n' c' : Nat} {x y : Int} (h : Lg w b A n c x) (k : Lg w' b' A' n' c' y) (hle : x.natAbs ≤ y.natAbs) : n ≤ n' := by
 obtain ⟨_, xs, s1, r1, z1, _, v1⟩ := h
 obtain ⟨_, ys, s2, r2, z2, _, v2⟩ := k
 have e1 := zj2 b (zaj zaf r1)
 have e2 := zj2 b' (zaj zaf r2)
 rw [← v1] at e1
 rw [← v2] at e2
 have := za5 r1 r2 z1 (by omega)
 rw [s1.1, s2.1] at this
 exact this
theorem PartsPost.close {w w2 : World} {g g' t t' : Nat} {b b0 b' b0' : Bool} {A A0 A' A0' : Option Addr} {n c n0 c0 n' c' n0' c0' N M : Nat} {q r : Int} (hk : Blk w2 g t #[.bool b0, .slice A0 n0 c0]) (hk' : Blk w2 g' t' #[.bool b0', .slice A0' n0' c0']) (hlg : Lg w2 b A n c q) (hlg' : Lg w2 b' A' n' c' r) (hL : Lat w w2) (hg : w.heap.size ≤ g) (hg' : w.heap.size ≤ g') (hn : n ≤ N) (hm : n' ≤ M) :
  PartsPost w q r N M (.returned (.tuple #[.agg #[.bool b, .slice A n c], .agg #[.bool b', .slice A' n' c']])) ((((w2.setCell ⟨g, 0, none⟩ (.bool b)).setCell ⟨g, 0 + 1, none⟩ (.slice A n c)).setCell ⟨g', 0, none⟩ (.bool b')).setCell ⟨g', 0 + 1, none⟩ (.slice A' n' c')) := by
 have a1 := hlg.apart hk (zbi _ _ _ _)
 have a2 := hlg.apart hk' (zbi _ _ _ _)
 have a3 := hlg'.apart hk (zbi _ _ _ _)
 have a4 := hlg'.apart hk' (zbi _ _ _ _)
 exact ⟨_, _, _, _, _, _, _, _, rfl, (((hlg.far (p := ⟨g, 0, none⟩) a1 _).far (p := ⟨g, 0 + 1, none⟩) a1 _).far (p := ⟨g', 0, none⟩) a2 _).far (p := ⟨g', 0 + 1, none⟩) a2 _, hn,
  (((hlg'.far (p := ⟨g, 0, none⟩) a3 _).far (p := ⟨g, 0 + 1, none⟩) a3 _).far (p := ⟨g', 0, none⟩) a4 _).far (p := ⟨g', 0 + 1, none⟩) a4 _, hm,
  (((hL.setCell (p := ⟨g, 0, none⟩) hg _).setCell (p := ⟨g, 0 + 1, none⟩) hg _).setCell (p := ⟨g', 0, none⟩) hg' _).setCell (p := ⟨g', 0 + 1, none⟩) hg' _⟩
theorem zgs (b1 : Bool) (A1 : Option Addr) (n1 c1 : Nat) (x : Int) (b2 : Bool) (A2 : Option Addr) (n2 c2 : Nat) (y : Int) (w : World) (h1 : Lg w b1 A1 n1 c1 x) (h2 : Lg w b2 A2 n2 c2 y) (hy0 : y ≠ 0) (hn : n1 ≤ 300000) (hm : n2 ≤ 300000) :
  Calls Tryz.prog 82 #[.agg #[.bool b1, .slice A1 n1 c1], .agg #[.bool b2, .slice A2 n2 c2]] w (PartsPost w (x / y) (x % y) (max n1 1 + 1) n2) := by
 have H2 := Lib.hid h2
 obtain ⟨hc1, xs, s1, r1, z1, _, v1⟩ := h1
 obtain ⟨hc2, ys, s2, r2, z2, _, v2⟩ := h2
 have hne : Hid (ys ≠ []) := by
  intro e
  apply hy0
  rw [v2, e, zdR]
  cases b2 <;> rfl
 have hvy : 0 < val W64 ys := zaX zaf r2 z2 hne.out
 have hpm := Lib.hid (ze6 (b1 := b1) (b2 := b2) (vx := val W64 xs) (vy := val W64 ys) hvy)
 have V1 := Lib.hid v1
 have V2 := Lib.hid v2
 clear v1 v2 hy0
 go_enter Tryz.func82, Tryz.ntmps82
 go_wp2_with fail
 refine zne (Q := fun W => Calls _ _ _ W _) ?_
 intro W hl hs k1 k2 k3 k4
 refine (zdX A1 n1 c1 xs A2 n2 c2 ys W (s1.later hl) (s2.later hl) r1 r2 z1 z2 hc1 (by omega) (by omega) hne.out).mono ?_
 rintro e W1 ⟨Aq, nq, cq, qs, Ar, nr, cr, rs, rfl, ⟨q1, q2, q3, q4, q5⟩, ⟨p1, p2, p3, p4, p5⟩, hl1⟩
 have Q3 := Lib.hid q3
 have P4 := Lib.hid p4
 clear q3 p4
 have hlw := hl.trans hl1
 have hk1 := k1.later hl1
 have hk2 := k2.later hl1
 have hk3 := k3.later hl1
 have hk4 := k4.later hl1
 clear k1 k2 k3 k4 hl1 hl hs
 have hnr : nr ≤ n2 := by
  have := za5 p2 r2 p3 (by rw [P4.out]; exact Int.le_of_lt (Int.emod_lt_of_pos _ hvy))
  rw [p1.1, s2.1] at this
  exact this
 go_wp2
 have a1 := hk1.evS (gs := [w.heap.size + 1 + 1, w.heap.size + 1 + 1 + 1]) (by simp; try omega) 0 rfl
 have a3 := hk2.evS (gs := [w.heap.size + 1 + 1, w.heap.size + 1 + 1 + 1]) (by simp; try omega) 0 rfl
 have L0 := Lat.drew W1
 have M0 := L0.s [w.heap.size + 1 + 1, w.heap.size + 1 + 1 + 1]
 go_region_held3 (fun w' => LatS W1 [w.heap.size + 1 + 1, w.heap.size + 1 + 1 + 1] w') (first | assumption | ((repeat refine LatS.set ?_ (by simp) _); assumption))
  (first
    | (have _t := q1; go_at_call 99; refine (zaI (b1 != b2) Aq nq cq _ qs (q1.later L0) q2 q4 (by omega)).mono ?_; rintro e w1 ⟨b, n, rfl, u1, u2, u3⟩; have L1 := L0.trans u3; have M1 := L1.s [w.heap.size + 1 + 1, w.heap.size + 1 + 1 + 1]; clear q1)
    | (go_at_call 99; refine (zaI b1 Ar nr cr _ rs (p1.later L1) p2 p5 (by omega)).mono ?_; rintro e w2 ⟨b', n', rfl, v1, v2, v3⟩; have L2 := L1.trans v3; have M2 := L2.s [w.heap.size + 1 + 1, w.heap.size + 1 + 1 + 1]; have hk3' := hk3.later L2; have hk4' := hk4.later L2; have c0 := hk3'.cell 0; have c1' := hk3'.cell (0 + 1); have f0 := hk3'.frozen 0; have f1 := hk3'.frozen (0 + 1); have c2' := hk4'.cell 0; have c3' := hk4'.cell (0 + 1); have f2 := hk4'.frozen 0; have f3 := hk4'.frozen (0 + 1)))
 have hlw2 := hlw.trans L2
 have U1 : Hid (Lg w2 b Aq n cq (sgn (b1 != b2) (val W64 xs / val W64 ys))) := by have := u1.later v3; rw [Q3.out] at this; exact this
 have U2 : Hid (Lg w2 b' Ar n' cr (sgn b1 (val W64 xs % val W64 ys))) := by have := v1; rw [P4.out] at this; exact this
 have hk2' := hk2.later L2
 clear a1 a3 M0 M1 M2 hk1 hk2 hk3 hk4 L0 L1 p1 u1 v1
 refine gen (Q := fun W => Exit.then _ _ _ _ W) _ ?_
 intro W3 hW3
 have ha1 := U1.out.apart hk3' (zbi _ _ _ _)
 have ha2 := U1.out.apart hk4' (zbi _ _ _ _)
 have ha3 := U2.out.apart hk3' (zbi _ _ _ _)
 have ha4 := U2.out.apart hk4' (zbi _ _ _ _)
 have X1 : Hid (Lg W3 b Aq n cq (sgn (b1 != b2) (val W64 xs / val W64 ys))) := by
  rw [hW3]
  exact (((U1.out.far (p := ⟨w.heap.size + 1 + 1, 0, none⟩) ha1 _).far (p := ⟨w.heap.size + 1 + 1, 1, none⟩) ha1 _).far (p := ⟨w.heap.size + 1 + 1 + 1, 0, none⟩) ha2 _).far (p := ⟨w.heap.size + 1 + 1 + 1, 1, none⟩) ha2 _
 have X2 : Hid (Lg W3 b' Ar n' cr (sgn b1 (val W64 xs % val W64 ys))) := by
  rw [hW3]
  exact (((U2.out.far (p := ⟨w.heap.size + 1 + 1, 0, none⟩) ha3 _).far (p := ⟨w.heap.size + 1 + 1, 1, none⟩) ha3 _).far (p := ⟨w.heap.size + 1 + 1 + 1, 0, none⟩) ha4 _).far (p := ⟨w.heap.size + 1 + 1 + 1, 1, none⟩) ha4 _
 have X3 : Blk W3 (w.heap.size + 1 + 1) 88 #[.bool b, .slice Aq n cq] := by
  have := (((hk3'.set 0 (.bool b)).set 1 (.slice Aq n cq)).far (p := ⟨w.heap.size + 1 + 1 + 1, 0, none⟩) (by simp) (.bool b')).far (p := ⟨w.heap.size + 1 + 1 + 1, 1, none⟩) (by simp) (.slice Ar n' cr)
  rw [hW3]; simpa using this
 have X4 : Blk W3 (w.heap.size + 1 + 1 + 1) 88 #[.bool b', .slice Ar n' cr] := by
  have := (((hk4'.far (p := ⟨w.heap.size + 1 + 1, 0, none⟩) (by simp) (.bool b)).far (p := ⟨w.heap.size + 1 + 1, 1, none⟩) (by simp) (.slice Aq n cq)).set 0 (.bool b')).set 1 (.slice Ar n' cr)
  rw [hW3]; simpa using this
 have X5 : Blk W3 (w.heap.size + 1) 88 #[.bool b2, .slice A2 n2 c2] := by
  have := (((hk2'.far (p := ⟨w.heap.size + 1 + 1, 0, none⟩) (by simp) (.bool b)).far (p := ⟨w.heap.size + 1 + 1, 1, none⟩) (by simp) (.slice Aq n cq)).far (p := ⟨w.heap.size + 1 + 1 + 1, 0, none⟩) (by simp; try omega) (.bool b')).far (p := ⟨w.heap.size + 1 + 1 + 1, 1, none⟩) (by simp; try omega) (.slice Ar n' cr)
  rw [hW3]; exact this
 have X6 : Lat w W3 := by
  rw [hW3]
  exact (((hlw2.setCell (p := ⟨w.heap.size + 1 + 1, 0, none⟩) (by simp; try omega) _).setCell (p := ⟨w.heap.size + 1 + 1, 1, none⟩) (by simp; try omega) _).setCell (p := ⟨w.heap.size + 1 + 1 + 1, 0, none⟩) (by simp; try omega) _).setCell (p := ⟨w.heap.size + 1 + 1 + 1, 1, none⟩) (by simp; try omega) _
 have hn2 : n ≤ n1 := by omega
 have hn3 : n' ≤ n2 := by omega
 clear hW3 ha1 ha2 ha3 ha4 U1 U2 hk2' hk3' hk4' hlw2 c0 c1' f0 f1 c2' c3' f2 f3 u2 v2
 have c0 := X3.cell 0
 have c1' := X3.cell (0 + 1)
 have f0 := X3.frozen 0
 have f1 := X3.frozen (0 + 1)
 have c2' := X4.cell 0
 have c3' := X4.cell (0 + 1)
 have f2 := X4.frozen 0
 have f3 := X4.frozen (0 + 1)
 cases b' with
 | false =>
   have hpos : 0 ≤ sgn b1 (val W64 xs % val W64 ys) := by
    obtain ⟨_, zs, _, zr, _, _, zv⟩ := X2.out
    rw [zv]
    exact zaj zaf zr
   have hq := hpm.out.1 hpos
   rw [← V1.out, ← V2.out] at hq
   have HQ := Lib.hid hq
   clear hq hpos
   go_wp2
   go_region
   all_goals
    go_wp2
    refine bodyPost_ret (v := .tuple #[.agg #[.bool b, .slice Aq n cq], .agg #[.bool false, .slice Ar n' cr]]) (by simp [results, Tryz.results82, go_sem, c0, c1', c2', c3']) rfl ?_
    have := (PartsPost.close (N := max n1 1 + 1) X3 X4 X1.out X2.out X6 (by omega) (by omega) (by omega) hn3).drew
    rw [← HQ.out.1, ← HQ.out.2] at this
    exact this
 | true =>
   have hneg : sgn b1 (val W64 xs % val W64 ys) < 0 := by
    obtain ⟨_, zs, _, zr, zz, zn, zv⟩ := X2.out
    rw [zv]
    have := zaX zaf zr zz (zn rfl)
    simp only [sgn, if_true]
    omega
   have hq := hpm.out.2 hneg
   rw [← V1.out, ← V2.out] at hq
   have HQ := Lib.hid hq
   clear hq hneg
   have d0 := X5.cell 0
   have d1 := X5.cell (0 + 1)
   have hsz : w.heap.size + 1 + 1 + 1 < W3.heap.size := X4.lt
   go_wp2_with fail
   refine zas (Q := fun W => Calls _ _ _ W _) ?_
   intro W4 hl4 hs4 hk8
   have hsize := zn9 ((s2.later X6).later hl4) r2 z2 hc2
   refine (zbp true Ar n' cr _ false A2 n2 c2 (val W64 ys) W4 (X2.out.later hl4) hsize (by omega) (by omega)).mono ?_
   rintro e W5 ⟨bp, Ap, np, cp, rfl, g1, g2, g3⟩
   have X7 := X6.trans (hl4.trans g3)
   have G1 : Hid (Lg W5 bp Ap np cp (x % y)) := by show Lg _ _ _ _ _ _; rw [HQ.out.2]; exact g1
   have Y1 := X1.out.later (hl4.trans g3)
   have Y3 := X3.later (hl4.trans g3)
   have Y4 := X4.later (hl4.trans g3)
   have Y5 := X5.later (hl4.trans g3)
   have Y1' := Lib.hid Y1
   clear X1 X2 X3 X4 X5 X6 hl4 g3 g1 c0 c1' c2' c3' d0 d1 f0 f1 f2 f3 hk8 hs4 hsize Y1 hsz
   have f2 := Y4.frozen 0
   have f3 := Y4.frozen (0 + 1)
   have c2' := Y4.cell 0
   have c3' := Y4.cell (0 + 1)
   have d0 := Y5.cell 0
   have d1 := Y5.cell (0 + 1)
   have c0 := Y3.cell 0
   have c1' := Y3.cell (0 + 1)
   have hsz : w.heap.size + 1 + 1 + 1 < W5.heap.size := Y4.lt
   have hsz2 : w.heap.size + 1 + 1 < W5.heap.size := Y3.lt
   have hsz1 : w.heap.size + 1 < W5.heap.size := Y5.lt
   go_wp2_with fail
   refine gen (Q := fun W => Calls _ _ _ W _) _ ?_
   intro W6 hW6
   have hgap := G1.out.apart Y4 (zbi _ _ _ _)
   have hyap := Y1'.out.apart Y4 (zbi _ _ _ _)
   have hl6 : Lat ((W5.setCell ⟨w.heap.size + 1 + 1 + 1, 0, none⟩ (.bool bp)).setCell ⟨w.heap.size + 1 + 1 + 1, 1, none⟩ (.slice Ap np cp)) W6 := by
    rw [hW6]
    exact (Lat.alloc _ _).trans (Lat.alloc _ _)
   have Z0 : Lat w W6 := ((X7.setCell (p := ⟨w.heap.size + 1 + 1 + 1, 0, none⟩) (by simp; try omega) (.bool bp)).setCell (p := ⟨w.heap.size + 1 + 1 + 1, 1, none⟩) (by simp; try omega) (.slice Ap np cp)).trans hl6
   have Z1 : Lg W6 b Aq n cq (sgn (b1 != b2) (val W64 xs / val W64 ys)) :=
    ((Y1'.out.far (p := ⟨w.heap.size + 1 + 1 + 1, 0, none⟩) hyap _).far (p := ⟨w.heap.size + 1 + 1 + 1, 1, none⟩) hyap _).later hl6
   have Z2 : Lg W6 bp Ap np cp (x % y) :=
    ((G1.out.far (p := ⟨w.heap.size + 1 + 1 + 1, 0, none⟩) hgap _).far (p := ⟨w.heap.size + 1 + 1 + 1, 1, none⟩) hgap _).later hl6
   have Z3 : Blk W6 (w.heap.size + 1 + 1) 88 #[.bool b, .slice Aq n cq] :=
    ((Y3.far (p := ⟨w.heap.size + 1 + 1 + 1, 0, none⟩) (by simp) (.bool bp)).far (p := ⟨w.heap.size + 1 + 1 + 1, 1, none⟩) (by simp) (.slice Ap np cp)).later hl6
   have Z4 : Blk W6 (w.heap.size + 1 + 1 + 1) 88 #[.bool bp, .slice Ap np cp] := by
    have := ((Y4.set 0 (.bool bp)).set 1 (.slice Ap np cp)).later hl6
    simpa using this
   have hone : Sl W6 .u64 (some ⟨W5.heap.size, 0, none⟩) 1 [1] := by
    have hb1 : Blk ((((W5.setCell ⟨w.heap.size + 1 + 1 + 1, 0, none⟩ (.bool bp)).setCell ⟨w.heap.size + 1 + 1 + 1, 1, none⟩ (.slice Ap np cp)).alloc (.cells #[.int .u64 1] 36))) W5.heap.size 36 (nums .u64 [1]) := by
     have e1 : nums .u64 [1] = #[.int .u64 1] := rfl
     rw [e1]
     have := Blk.new ((W5.setCell ⟨w.heap.size + 1 + 1 + 1, 0, none⟩ (.bool bp)).setCell ⟨w.heap.size + 1 + 1 + 1, 1, none⟩ (.slice Ap np cp)) 36 #[.int .u64 1]
     simpa [World.setCell] using this
    rw [hW6]
    exact (Sl.of_blk hb1).later (Lat.alloc _ _)
   have hlone : Lg W6 (!b2) (some ⟨W5.heap.size, 0, none⟩) 1 1 (if b2 then 1 else -1) := by
    refine ⟨Nat.le_refl _, [1], hone, InR.cons ⟨by omega, by decide⟩ (InR.nil _), by simp [Nz], (fun _ => by simp), ?_⟩
    cases b2 <;> simp [sgn, val]
   clear hW6 hl6 hgap hyap Y1' Y3 Y4 Y5 c0 c1' c2' c3' d0 d1 f2 f3 hsz hsz1 hsz2 X7 hone
   refine (zbp b Aq n cq _ (!b2) (some ⟨W5.heap.size, 0, none⟩) 1 1 _ W6 Z1 hlone (by omega) (by omega)).mono ?_
   rintro e W7 ⟨bq, Ar', nq', cq', rfl, g1, g2', g3⟩
   have O1 : Hid (Lg W7 bq Ar' nq' cq' (x / y)) := by show Lg _ _ _ _ _ _; rw [HQ.out.1]; exact g1
   have O2 := Z2.later g3
   have O3 := Z3.later g3
   have O4 := Z4.later g3
   have O5 := Z0.trans g3
   have hnp : np ≤ n2 := by
    refine O2.len_le (w' := w) H2.out ?_
    have hyv := V2.out
    have h1 := Int.emod_lt_of_pos x hvy
    have h2 := Int.emod_nonneg x (show val W64 ys ≠ 0 by omega)
    cases b2 with
    | false =>
      rw [show y = val W64 ys from hyv]
      omega
    | true =>
      rw [show y = - val W64 ys from hyv, Int.emod_neg]
      omega
   clear Z0 Z1 Z2 Z3 Z4 g1 g3 hlone G1
   have c0 := O3.cell 0
   have c1' := O3.cell (0 + 1)
   have f0 := O3.frozen 0
   have f1 := O3.frozen (0 + 1)
   have c2' := O4.cell 0
   have c3' := O4.cell (0 + 1)
   have f2 := O4.frozen 0
   have f3 := O4.frozen (0 + 1)
   have hg1 := O1.out.apart O3 (zbi _ _ _ _)
   have hg2 := O2.apart O3 (zbi _ _ _ _)
   go_wp2_with fail
   refine gen (Q := fun W => Code.wp _ _ _ _ W) _ ?_
   intro W8 hW8
   have N1 : Lg W8 bq Ar' nq' cq' (x / y) := by
    rw [hW8]
    exact (O1.out.far (p := ⟨w.heap.size + 1 + 1, 0, none⟩) hg1 _).far (p := ⟨w.heap.size + 1 + 1, 1, none⟩) hg1 _
   have N2 : Lg W8 bp Ap np cp (x % y) := by
    rw [hW8]
    exact (O2.far (p := ⟨w.heap.size + 1 + 1, 0, none⟩) hg2 _).far (p := ⟨w.heap.size + 1 + 1, 1, none⟩) hg2 _
   have N3 : Blk W8 (w.heap.size + 1 + 1) 88 #[.bool bq, .slice Ar' nq' cq'] := by
    have := (O3.set 0 (.bool bq)).set 1 (.slice Ar' nq' cq')
    rw [hW8]; simpa using this
   have N4 : Blk W8 (w.heap.size + 1 + 1 + 1) 88 #[.bool bp, .slice Ap np cp] := by
    rw [hW8]
    exact (O4.far (p := ⟨w.heap.size + 1 + 1, 0, none⟩) (by simp) (.bool bq)).far (p := ⟨w.heap.size + 1 + 1, 1, none⟩) (by simp) (.slice Ar' nq' cq')
   have N5 : Lat w W8 := by
    rw [hW8]
    exact (O5.setCell (p := ⟨w.heap.size + 1 + 1, 0, none⟩) (by simp; try omega) _).setCell (p := ⟨w.heap.size + 1 + 1, 1, none⟩) (by simp; try omega) _
   have N1' := Lib.hid N1
   have N2' := Lib.hid N2
   clear hW8 hg1 hg2 c0 c1' c2' c3' f0 f1 f2 f3 O1 O2 O3 O4 O5 N1 N2
   have c0 := N3.cell 0
   have c1' := N3.cell (0 + 1)
   have f0 := N3.frozen 0
   have f1 := N3.frozen (0 + 1)
   have c2' := N4.cell 0
   have c3' := N4.cell (0 + 1)
   have f2 := N4.frozen 0
   have f3 := N4.frozen (0 + 1)
   go_region
   all_goals
    go_wp2
    refine bodyPost_ret (v := .tuple #[.agg #[.bool bq, .slice Ar' nq' cq'], .agg #[.bool bp, .slice Ap np cp]]) (by simp [results, Tryz.results82, go_sem, c0, c1', c2', c3']) rfl ?_
    exact (PartsPost.close N3 N4 N1'.out N2'.out N5 (by omega) (by omega) (by omega) hnp).drew
@[ext] structure W8 where
 a0 : Int
 a1 : Int
 a2 : Int
 a3 : Int
 a4 : Int
 a5 : Int
 a6 : Int
 a7 : Int
abbrev W8.b0 (u : W8) : Value := .int .u64 u.a0
abbrev W8.b1 (u : W8) : Value := .int .u64 u.a1
abbrev W8.b2 (u : W8) : Value := .int .u64 u.a2
abbrev W8.b3 (u : W8) : Value := .int .u64 u.a3
abbrev W8.b4 (u : W8) : Value := .int .u64 u.a4
abbrev W8.b5 (u : W8) : Value := .int .u64 u.a5
abbrev W8.b6 (u : W8) : Value := .int .u64 u.a6
abbrev W8.b7 (u : W8) : Value := .int .u64 u.a7
abbrev W8.one (u : W8) : Array Value := #[u.b0, u.b1, u.b2, u.b3, u.b4, u.b5, u.b6, u.b7]
abbrev W8.two (u v : W8) : Array Value := #[u.b0, u.b1, u.b2, u.b3, u.b4, u.b5, u.b6, u.b7, v.b0, v.b1, v.b2, v.b3, v.b4, v.b5, v.b6, v.b7]
def W8.list (x : W8) : List Int := [x.a0, x.a1, x.a2, x.a3, x.a4, x.a5, x.a6, x.a7]
def W8.ofList (l : List Int) : W8 := ⟨l.getD 0 0, l.getD 1 0, l.getD 2 0, l.getD 3 0, l.getD 4 0, l.getD 5 0, l.getD 6 0, l.getD 7 0⟩
def W8.ok (x : W8) : Prop := InR W64 x.list
def W8.zero : W8 := ⟨0, 0, 0, 0, 0, 0, 0, 0⟩
def zcA : Int := 13407807929942597099574024998205846127479365820592393377723561443721764030073546976801874298166903427690031858186486050853753882811946569946433649006084096
def zaV : Int := 6703903964971298549787012499102923063739682910296196688861780721860882015036773488400937149083451713845015929093243025426876941405973284973216824503042048
theorem zfE : zcA = W64 ^ 8 := by decide
theorem zbq : zcA = 2 * zaV := by decide
theorem zbe : 0 < zaV := by decide
def W8.mag (x : W8) : Int := val W64 x.list
def W8.toInt (x : W8) : Int := if x.a7 < 9223372036854775808 then x.mag else x.mag - zcA
def W8.ofMag (z : Int) : W8 := ⟨z % W64, z / W64 % W64, z / W64 ^ 2 % W64, z / W64 ^ 3 % W64, z / W64 ^ 4 % W64, z / W64 ^ 5 % W64, z / W64 ^ 6 % W64, z / W64 ^ 7 % W64⟩
def W8.of (z : Int) : W8 := W8.ofMag (z % zcA)
theorem W8.mag_eq (x : W8) : x.mag = x.a0 + W64 * (x.a1 + W64 * (x.a2 + W64 * (x.a3 + W64 * (x.a4 + W64 * (x.a5 + W64 * (x.a6 + W64 * x.a7)))))) := by
 simp [W8.mag, W8.list, val]
theorem W8.ok.at0 {x : W8} (h : x.ok) : 0 ≤ x.a0 ∧ x.a0 < W64 := h _ (by simp [W8.list])
theorem W8.ok.at1 {x : W8} (h : x.ok) : 0 ≤ x.a1 ∧ x.a1 < W64 := h _ (by simp [W8.list])
theorem W8.ok.at2 {x : W8} (h : x.ok) : 0 ≤ x.a2 ∧ x.a2 < W64 := h _ (by simp [W8.list])
theorem W8.ok.at3 {x : W8} (h : x.ok) : 0 ≤ x.a3 ∧ x.a3 < W64 := h _ (by simp [W8.list])
theorem W8.ok.at4 {x : W8} (h : x.ok) : 0 ≤ x.a4 ∧ x.a4 < W64 := h _ (by simp [W8.list])
theorem W8.ok.at5 {x : W8} (h : x.ok) : 0 ≤ x.a5 ∧ x.a5 < W64 := h _ (by simp [W8.list])
theorem W8.ok.at6 {x : W8} (h : x.ok) : 0 ≤ x.a6 ∧ x.a6 < W64 := h _ (by simp [W8.list])
theorem W8.ok.at7 {x : W8} (h : x.ok) : 0 ≤ x.a7 ∧ x.a7 < W64 := h _ (by simp [W8.list])
theorem W8.mag_bounds {x : W8} (h : x.ok) : 0 ≤ x.mag ∧ x.mag < zcA := by
 refine ⟨zaj zaf h, ?_⟩
 rw [zfE]
 exact zcV zaf h
theorem za2 {a b u v : Int} (ha : 0 ≤ a ∧ a < W64) (hb : 0 ≤ b ∧ b < W64) (h : a + W64 * u = b + W64 * v) : a = b ∧ u = v := by
 unfold W64 at *; omega
theorem W8.mag_inj {x y : W8} (hx : x.ok) (hy : y.ok) (h : x.mag = y.mag) : x = y := by
 rw [W8.mag_eq, W8.mag_eq] at h
 obtain ⟨h0, h⟩ := za2 hx.at0 hy.at0 h
 obtain ⟨h1, h⟩ := za2 hx.at1 hy.at1 h
 obtain ⟨h2, h⟩ := za2 hx.at2 hy.at2 h
 obtain ⟨h3, h⟩ := za2 hx.at3 hy.at3 h
 obtain ⟨h4, h⟩ := za2 hx.at4 hy.at4 h
 obtain ⟨h5, h⟩ := za2 hx.at5 hy.at5 h
 obtain ⟨h6, h⟩ := za2 hx.at6 hy.at6 h
 exact W8.ext h0 h1 h2 h3 h4 h5 h6 h
theorem W8.top {x : W8} (h : x.ok) : (x.a7 < 9223372036854775808 ↔ x.mag < zaV) := by
 have hr : 0 ≤ val W64 [x.a0, x.a1, x.a2, x.a3, x.a4, x.a5, x.a6] ∧ val W64 [x.a0, x.a1, x.a2, x.a3, x.a4, x.a5, x.a6] < W64 ^ 7 := by
  have : InR W64 [x.a0, x.a1, x.a2, x.a3, x.a4, x.a5, x.a6] := fun y hy => h y (by simp [W8.list] at hy ⊢; rcases hy with h | h | h | h | h | h | h <;> simp [h])
  exact ⟨zaj zaf this, zcV zaf this⟩
 have e : x.mag = val W64 [x.a0, x.a1, x.a2, x.a3, x.a4, x.a5, x.a6] + W64 ^ 7 * x.a7 := by
  have := zcU W64 [x.a0, x.a1, x.a2, x.a3, x.a4, x.a5, x.a6] x.a7
  exact this
 have p : zaV = W64 ^ 7 * 9223372036854775808 := by decide
 have p7 := zce zaf 7
 rw [e, p]
 constructor
 ·intro hlt
  have := Int.mul_le_mul_of_nonneg_left (show x.a7 + 1 ≤ 9223372036854775808 by omega) (Int.le_of_lt p7)
  rw [Int.mul_add] at this
  omega
 ·intro hlt
  rcases Int.lt_or_le x.a7 9223372036854775808 with hh | hh
  ·exact hh
  ·have := Int.mul_le_mul_of_nonneg_left hh (Int.le_of_lt p7)
   omega
theorem W8.toInt_bounds {x : W8} (h : x.ok) : -zaV ≤ x.toInt ∧ x.toInt < zaV := by
 have hb := W8.mag_bounds h
 have ht := W8.top h
 have := zbq
 unfold W8.toInt
 split
 ·rename_i hh
  have := ht.1 hh
  have := zbe
  omega
 ·rename_i hh
  have : ¬ x.mag < zaV := fun e => hh (ht.2 e)
  omega
theorem W8.toInt_inj {x y : W8} (hx : x.ok) (hy : y.ok) (h : x.toInt = y.toInt) : x = y := by
 apply W8.mag_inj hx hy
 have b1 := W8.mag_bounds hx
 have b2 := W8.mag_bounds hy
 unfold W8.toInt at h
 split at h <;> split at h <;> omega
theorem W8.ofMag_ok (z : Int) : (W8.ofMag z).ok := by
 have hd : ∀ u : Int, 0 ≤ u % W64 ∧ u % W64 < W64 := fun u => ⟨Int.emod_nonneg _ (by decide), Int.emod_lt_of_pos _ zaf⟩
 intro y hy
 simp only [W8.list, W8.ofMag, List.mem_cons, List.not_mem_nil, or_false] at hy
 rcases hy with h | h | h | h | h | h | h | h <;> rw [h] <;> exact hd _
theorem zb0 (z : Int) (k : Nat) : z / W64 ^ k = z / W64 ^ k % W64 + W64 * (z / W64 ^ (k + 1)) := by
 have := Int.emod_add_mul_ediv (z / W64 ^ k) W64
 rw [Int.ediv_ediv_of_nonneg (Int.le_of_lt (zce zaf k)), ← za8] at this
 omega
theorem W8.ofMag_mag {z : Int} (h0 : 0 ≤ z) (h1 : z < zcA) : (W8.ofMag z).mag = z := by
 rw [W8.mag_eq]
 have e0 : z % W64 + W64 * (z / W64) = z := Int.emod_add_mul_ediv z W64
 have e1 : z / W64 % W64 + W64 * (z / W64 ^ 2) = z / W64 := by have := zb0 z 1; rw [Int.pow_one] at this; exact this.symm
 have e2 : z / W64 ^ 2 % W64 + W64 * (z / W64 ^ 3) = z / W64 ^ 2 := (zb0 z 2).symm
 have e3 : z / W64 ^ 3 % W64 + W64 * (z / W64 ^ 4) = z / W64 ^ 3 := (zb0 z 3).symm
 have e4 : z / W64 ^ 4 % W64 + W64 * (z / W64 ^ 5) = z / W64 ^ 4 := (zb0 z 4).symm
 have e5 : z / W64 ^ 5 % W64 + W64 * (z / W64 ^ 6) = z / W64 ^ 5 := (zb0 z 5).symm
 have e6 : z / W64 ^ 6 % W64 + W64 * (z / W64 ^ 7) = z / W64 ^ 6 := (zb0 z 6).symm
 have e7 : z / W64 ^ 7 % W64 = z / W64 ^ 7 := by
  have e8 : z / W64 ^ (7 + 1) = 0 := by
   rw [show 7 + 1 = 8 from rfl, ← zfE]
   exact Int.ediv_eq_zero_of_lt h0 h1
  have := zb0 z 7
  rw [e8] at this
  omega
 simp only [W8.ofMag]
 rw [e7, e6, e5, e4, e3, e2, e1, e0]
theorem W8.of_ok (z : Int) : (W8.of z).ok := W8.ofMag_ok _
theorem W8.of_mag (z : Int) : (W8.of z).mag = z % zcA :=
 W8.ofMag_mag (Int.emod_nonneg _ (by decide)) (Int.emod_lt_of_pos _ (by decide))
theorem W8.of_toInt {z : Int} (h0 : -zaV ≤ z) (h1 : z < zaV) : (W8.of z).toInt = z := by
 have hm := W8.of_mag z
 have ht := W8.top (W8.of_ok z)
 have hp := zbq
 unfold W8.toInt
 rw [hm] at ht ⊢
 rcases Int.lt_or_le z 0 with hn | hn
 ·have e : z % zcA = z + zcA := by
   rw [← Int.add_emod_right]
   exact Int.emod_eq_of_lt (by omega) (by omega)
  rw [e] at ht ⊢
  rw [if_neg (fun hh => by have := ht.1 hh; omega)]
  omega
 ·have e : z % zcA = z := Int.emod_eq_of_lt hn (by omega)
  rw [e] at ht ⊢
  rw [if_pos (ht.2 h1)]
theorem W8.eq_of {x : W8} {z : Int} (h : x.ok) (hz : x.toInt = z) : x = W8.of z := by
 have hb := W8.toInt_bounds h
 exact W8.toInt_inj h (W8.of_ok z) (by rw [W8.of_toInt (by omega) (by omega), hz])
theorem W8.zero_ok : W8.zero.ok := by intro y hy; simp [W8.list, W8.zero] at hy; rw [hy]; decide
theorem W8.ofList_list {l : List Int} (h : l.length ≤ 8) : (W8.ofList l).list = l ++ List.replicate (8 - l.length) 0 := by
 match l, h with
 | [], _ => rfl
 | [_], _ => rfl
 | [_, _], _ => rfl
 | [_, _, _], _ => rfl
 | [_, _, _, _], _ => rfl
 | [_, _, _, _, _], _ => rfl
 | [_, _, _, _, _, _], _ => rfl
 | [_, _, _, _, _, _, _], _ => rfl
 | [_, _, _, _, _, _, _, _], _ => rfl
theorem W8.ofList_ok {l : List Int} (h : l.length ≤ 8) (hr : InR W64 l) : (W8.ofList l).ok := by
 unfold W8.ok
 rw [W8.ofList_list h]
 exact hr.append (InR.zeros zaf _)
theorem W8.ofList_mag {l : List Int} (h : l.length ≤ 8) : (W8.ofList l).mag = val W64 l := by
 unfold W8.mag
 rw [W8.ofList_list h, val_append, zbd]; omega
end Go.Proofs.YtpmbglhbcjbkcaaGreat
