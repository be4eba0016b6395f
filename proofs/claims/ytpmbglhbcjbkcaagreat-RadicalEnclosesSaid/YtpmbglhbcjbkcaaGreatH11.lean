/- Several texts in one: WideD, WideE. -/
import Derived.Test.YtpmbglhbcjbkcaaGreatH10
import Derived.Deep.AppendLies
namespace Go.Proofs.YtpmbglhbcjbkcaaGreat
set_option maxHeartbeats 16000000
set_option maxRecDepth 100000
open Go.RowKit
def zlJ (w : World) (z : Int) (e : Ending) (w' : World) : Prop :=
 ∃ (b : Bool) (u : W8), e = .returned (.agg #[.bool b, u.b0, u.b1, u.b2, u.b3, u.b4, u.b5, u.b6, u.b7]) ∧ u.ok ∧ z = sgn b u.mag ∧ (b = true → u.mag ≠ 0) ∧ Lat w w'
theorem zfF (x : W8) (hx : x.ok) (w : World) : Calls Tryz.prog 116 #[.agg (W8.one x)] w (zlJ w x.toInt) := by
 have h7 := hx.at7
 have hW : W64 = 18446744073709551616 := rfl
 by_cases hn : x.a7 < 9223372036854775808
 ·have hd : (x.a7 / 9223372036854775808 == 1) = false := by simp; omega
  have hv : Hid (x.toInt = x.mag) := by show _ = _; rw [W8.toInt, if_pos hn]
  clear hn hW
  go_enter Tryz.func116, Tryz.ntmps116
  go_wp2
  refine bodyPost_ret (v := .agg #[.bool false, x.b0, x.b1, x.b2, x.b3, x.b4, x.b5, x.b6, x.b7]) (by simp [results, Tryz.results116, go_sem]) rfl ?_
  exact ⟨false, x, rfl, hx, hv.out, (fun h => by cases h), ((Lat.alloc _ _).trans (Lat.alloc _ _)).trans (Lat.alloc _ _)⟩
 ·have hd : (x.a7 / 9223372036854775808 == 1) = true := by simp; omega
  have hv : Hid (x.toInt = x.mag - zcA) := by show _ = _; rw [W8.toInt, if_neg hn]
  have hb := Lib.hid (W8.toInt_bounds hx)
  have ht := Lib.hid ((not_congr (W8.top hx)).1 hn)
  clear hn hW
  go_enter Tryz.func116, Tryz.ntmps116
  go_wp2_with fail
  refine za0 (Q := fun W => Calls _ _ _ W _) ?_
  intro W hl hs k1 k2 k3
  refine (zb2 W8.zero x W8.zero_ok hx W).mono ?_
  rintro e w1 ⟨u, c, rfl, u1, u2, u3, u4⟩
  have B2 := k2.later u4
  have B3 := k3.later u4
  have U2 := Lib.hid u2
  clear k1 k2 k3 u2
  have c0 := B3.cell 0
  have c1 := B3.cell 1
  have c2 := B3.cell 2
  have c3 := B3.cell 3
  have c4 := B3.cell 4
  have c5 := B3.cell 5
  have c6 := B3.cell 6
  have c7 := B3.cell 7
  have c8 := B3.cell 8
  have f0 := B3.frozen 0
  have f1 := B3.frozen 1
  have f2 := B3.frozen 2
  have f3 := B3.frozen 3
  have f4 := B3.frozen 4
  have f5 := B3.frozen 5
  have f6 := B3.frozen 6
  have f7 := B3.frozen 7
  have f8 := B3.frozen 8
  have d0 := B2.cell 0
  have d1 := B2.cell 1
  have d2 := B2.cell 2
  have d3 := B2.cell 3
  have d4 := B2.cell 4
  have d5 := B2.cell 5
  have d6 := B2.cell 6
  have d7 := B2.cell 7
  have d8 := B2.cell 8
  have g0 := B2.frozen 0
  have g1 := B2.frozen 1
  have g2 := B2.frozen 2
  have g3 := B2.frozen 3
  have g4 := B2.frozen 4
  have g5 := B2.frozen 5
  have g6 := B2.frozen 6
  have g7 := B2.frozen 7
  have g8 := B2.frozen 8
  go_wp2
  have hz : W8.zero.mag = 0 := by decide
  have hmb := W8.mag_bounds hx
  have hub := W8.mag_bounds u1
  have hu2 := U2.out
  rw [hz] at hu2
  have ht' := ht.out
  have hp := zbe
  have hc1 : c = 1 := by
   have : c = 0 ∨ c = 1 := by omega
   rcases this with rfl | rfl
   ·omega
   ·rfl
  refine bodyPost_ret (v := .agg #[.bool true, u.b0, u.b1, u.b2, u.b3, u.b4, u.b5, u.b6, u.b7]) (by simp [results, Tryz.results116, go_sem, d0, d1, d2, d3, d4, d5, d6, d7, d8]) rfl ?_
  refine ⟨true, u, rfl, u1, ?_, ?_, ?_⟩
  ·rw [hv.out, hu2, hc1]
   simp only [sgn, if_true]
   omega
  ·intro _
   rw [hu2, hc1]
   omega
  ·have L := hl.trans u4
   iterate 17 (refine Lat.setCell ?_ (by simp; try omega) _)
   exact L
def zba (w : World) (z : Int) (e : Ending) (w' : World) : Prop :=
 ∃ (u : W8) (r : Int), e = .returned (.tuple #[.agg (W8.one u), .int .i64 r]) ∧ ((-zaV ≤ z ∧ z < zaV ∧ u = W8.of z ∧ r = 0) ∨ ((z < -zaV ∨ zaV ≤ z) ∧ u = W8.zero ∧ r = 6)) ∧ Lat w w'
theorem zdY (b : Bool) (x : W8) (hx : x.ok) (hb : b = true → x.mag ≠ 0) (w : World) :
  Calls Tryz.prog 106 #[.agg #[.bool b, x.b0, x.b1, x.b2, x.b3, x.b4, x.b5, x.b6, x.b7]] w (zba w (sgn b x.mag)) := by
 obtain ⟨lim, hlim⟩ : ∃ lim : W8, lim = ⟨0, 0, 0, 0, 0, 0, 0, 9223372036854775808⟩ := ⟨_, rfl⟩
 have hlo : lim.ok := by
  intro y hy
  rw [hlim] at hy
  simp only [W8.list, List.mem_cons, List.not_mem_nil, or_false] at hy
  rcases hy with h | h | h | h | h | h | h | h <;> rw [h] <;> decide
 have hlm : lim.mag = zaV := by rw [hlim]; decide
 have hcmp : Hid (∀ c : Int, zaq (x.mag - zaV) = c → zaq (x.mag - (⟨0, 0, 0, 0, 0, 0, 0, 9223372036854775808⟩ : W8).mag) = c) := by
  intro c h
  rw [← hlim, hlm]
  exact h
 have hlo2 : (⟨0, 0, 0, 0, 0, 0, 0, 9223372036854775808⟩ : W8).ok := by rw [← hlim]; exact hlo
 clear hlo hlm hlim
 have HB := Lib.hid hb
 clear hb
 rcases Int.lt_trichotomy x.mag zaV with hm | hm | hm
 ·have hC := Lib.hid (hcmp.out (-1) (by rw [zaq, if_pos (by omega)]))
  have hm' := Lib.hid hm
  clear hcmp
  cases b
  all_goals
   go_enter Tryz.func106, Tryz.ntmps106
   go_wp2_with fail
   refine za0 (Q := fun W => Calls _ _ _ W _) ?_
   intro W hl hs k1 k2 k3
   refine (zb1 x _ hx hlo2 W).mono ?_
   rintro e w1 ⟨rfl, u4⟩
   rw [hC.out]
   have B1 := k1.later u4
   have B2 := k2.later u4
   have LW := hl.trans u4
   clear k1 k2 k3
  ·
   have c0 := B1.cell 0
   have c1 := B1.cell 1
   have c2 := B1.cell 2
   have c3 := B1.cell 3
   have c4 := B1.cell 4
   have c5 := B1.cell 5
   have c6 := B1.cell 6
   have c7 := B1.cell 7
   have c8 := B1.cell 8
   have d0 := B2.cell 0
   have d1 := B2.cell 1
   have d2 := B2.cell 2
   have d3 := B2.cell 3
   have d4 := B2.cell 4
   have d5 := B2.cell 5
   have d6 := B2.cell 6
   have d7 := B2.cell 7
   have g0 := B2.frozen 0
   have g1 := B2.frozen 1
   have g2 := B2.frozen 2
   have g3 := B2.frozen 3
   have g4 := B2.frozen 4
   have g5 := B2.frozen 5
   have g6 := B2.frozen 6
   have g7 := B2.frozen 7
   go_wp2
   refine bodyPost_ret (v := .tuple #[.agg (W8.one x), .int .i64 0]) (by simp [results, Tryz.results106, go_sem, d0, d1, d2, d3, d4, d5, d6, d7]) rfl ?_
   refine ⟨x, 0, rfl, .inl ⟨?_, ?_, ?_, rfl⟩, ?_⟩
   ·have := W8.mag_bounds hx; have := zbe; simp only [sgn, Bool.false_eq_true, if_false]; omega
   ·simp only [sgn, Bool.false_eq_true, if_false]; omega
   ·refine W8.eq_of hx ?_
    rw [W8.toInt, if_pos ((W8.top hx).2 (by omega))]; rfl
   ·iterate 8 (refine Lat.setCell ?_ (by simp; try omega) _)
    exact LW
  ·
   have c0 := B1.cell 0
   have c1 := B1.cell 1
   have c2 := B1.cell 2
   have c3 := B1.cell 3
   have c4 := B1.cell 4
   have c5 := B1.cell 5
   have c6 := B1.cell 6
   have c7 := B1.cell 7
   have c8 := B1.cell 8
   go_wp2_with fail
   refine (zb2 W8.zero x W8.zero_ok hx _).mono ?_
   rintro e w2 ⟨u, c, rfl, u1, u2, u3, u5⟩
   have E1 := B1.later u5
   have E2 := B2.later u5
   have LW2 := LW.trans u5
   have U2 := Lib.hid u2
   clear c0 c1 c2 c3 c4 c5 c6 c7 c8 B1 B2 u2
   have c0 := E1.cell 0
   have c1 := E1.cell 1
   have c2 := E1.cell 2
   have c3 := E1.cell 3
   have c4 := E1.cell 4
   have c5 := E1.cell 5
   have c6 := E1.cell 6
   have c7 := E1.cell 7
   have c8 := E1.cell 8
   have f0 := E1.frozen 0
   have f1 := E1.frozen 1
   have f2 := E1.frozen 2
   have f3 := E1.frozen 3
   have f4 := E1.frozen 4
   have f5 := E1.frozen 5
   have f6 := E1.frozen 6
   have f7 := E1.frozen 7
   have f8 := E1.frozen 8
   have d0 := E2.cell 0
   have d1 := E2.cell 1
   have d2 := E2.cell 2
   have d3 := E2.cell 3
   have d4 := E2.cell 4
   have d5 := E2.cell 5
   have d6 := E2.cell 6
   have d7 := E2.cell 7
   have g0 := E2.frozen 0
   have g1 := E2.frozen 1
   have g2 := E2.frozen 2
   have g3 := E2.frozen 3
   have g4 := E2.frozen 4
   have g5 := E2.frozen 5
   have g6 := E2.frozen 6
   have g7 := E2.frozen 7
   go_wp2
   have hz : W8.zero.mag = 0 := by decide
   have hmb := W8.mag_bounds hx
   have hub := W8.mag_bounds u1
   have hu2 := U2.out
   rw [hz] at hu2
   have hp := zbe
   have hp2 := zbq
   have hnz : x.mag ≠ 0 := by first | exact HB.out trivial | exact HB.out rfl
   have hc1 : c = 1 := by
    have : c = 0 ∨ c = 1 := by omega
    rcases this with rfl | rfl
    ·omega
    ·rfl
   rw [hc1] at hu2
   refine bodyPost_ret (v := .tuple #[.agg (W8.one u), .int .i64 0]) (by simp [results, Tryz.results106, go_sem, d0, d1, d2, d3, d4, d5, d6, d7]) rfl ?_
   refine ⟨u, 0, rfl, .inl ⟨?_, ?_, ?_, rfl⟩, ?_⟩
   ·simp only [sgn, if_true]; omega
   ·simp only [sgn, if_true]; omega
   ·refine W8.eq_of u1 ?_
    have hnt : ¬ u.a7 < 9223372036854775808 := fun hh => by have := (W8.top u1).1 hh; omega
    rw [W8.toInt, if_neg hnt]
    simp only [sgn, if_true]
    omega
   ·iterate 16 (refine Lat.setCell ?_ (by simp; try omega) _)
    exact LW2
 ·have hC := Lib.hid (hcmp.out 0 (by rw [zaq, if_neg (by omega), if_pos (by omega)]))
  have hm' := Lib.hid hm
  clear hcmp hm
  cases b
  all_goals
   go_enter Tryz.func106, Tryz.ntmps106
   go_wp2_with fail
   refine za0 (Q := fun W => Calls _ _ _ W _) ?_
   intro W hl hs k1 k2 k3
   refine (zb1 x _ hx hlo2 W).mono ?_
   rintro e w1 ⟨rfl, u4⟩
   rw [hC.out]
   have B1 := k1.later u4
   have B2 := k2.later u4
   have LW := hl.trans u4
   clear k1 k2 k3
  ·
   have c0' := B1.cell 0
   have d0 := B2.cell 0
   have d1 := B2.cell 1
   have d2 := B2.cell 2
   have d3 := B2.cell 3
   have d4 := B2.cell 4
   have d5 := B2.cell 5
   have d6 := B2.cell 6
   have d7 := B2.cell 7
   have g0 := B2.frozen 0
   have g1 := B2.frozen 1
   have g2 := B2.frozen 2
   have g3 := B2.frozen 3
   have g4 := B2.frozen 4
   have g5 := B2.frozen 5
   have g6 := B2.frozen 6
   have g7 := B2.frozen 7
   go_wp2
   refine bodyPost_ret (v := .tuple #[.agg (W8.one W8.zero), .int .i64 6]) (by simp [results, Tryz.results106, go_sem, d0, d1, d2, d3, d4, d5, d6, d7, W8.zero]) rfl ?_
   refine ⟨W8.zero, 6, rfl, .inr ⟨.inr (by have := hm'.out; simp only [sgn, Bool.false_eq_true, if_false]; omega), rfl, rfl⟩, ?_⟩
   iterate 8 (refine Lat.setCell ?_ (by simp; try omega) _)
   exact LW
  ·
   have c0 := B1.cell 0
   have c1 := B1.cell 1
   have c2 := B1.cell 2
   have c3 := B1.cell 3
   have c4 := B1.cell 4
   have c5 := B1.cell 5
   have c6 := B1.cell 6
   have c7 := B1.cell 7
   have c8 := B1.cell 8
   go_wp2_with fail
   refine (zb2 W8.zero x W8.zero_ok hx _).mono ?_
   rintro e w2 ⟨u, c, rfl, u1, u2, u3, u5⟩
   have E1 := B1.later u5
   have E2 := B2.later u5
   have LW2 := LW.trans u5
   have U2 := Lib.hid u2
   clear c0 c1 c2 c3 c4 c5 c6 c7 c8 B1 B2 u2
   have c0 := E1.cell 0
   have c1 := E1.cell 1
   have c2 := E1.cell 2
   have c3 := E1.cell 3
   have c4 := E1.cell 4
   have c5 := E1.cell 5
   have c6 := E1.cell 6
   have c7 := E1.cell 7
   have c8 := E1.cell 8
   have f0 := E1.frozen 0
   have f1 := E1.frozen 1
   have f2 := E1.frozen 2
   have f3 := E1.frozen 3
   have f4 := E1.frozen 4
   have f5 := E1.frozen 5
   have f6 := E1.frozen 6
   have f7 := E1.frozen 7
   have f8 := E1.frozen 8
   have d0 := E2.cell 0
   have d1 := E2.cell 1
   have d2 := E2.cell 2
   have d3 := E2.cell 3
   have d4 := E2.cell 4
   have d5 := E2.cell 5
   have d6 := E2.cell 6
   have d7 := E2.cell 7
   have g0 := E2.frozen 0
   have g1 := E2.frozen 1
   have g2 := E2.frozen 2
   have g3 := E2.frozen 3
   have g4 := E2.frozen 4
   have g5 := E2.frozen 5
   have g6 := E2.frozen 6
   have g7 := E2.frozen 7
   go_wp2
   have hm := hm'.out
   have hz : W8.zero.mag = 0 := by decide
   have hmb := W8.mag_bounds hx
   have hub := W8.mag_bounds u1
   have hu2 := U2.out
   rw [hz] at hu2
   have hp := zbe
   have hp2 := zbq
   have hnz : x.mag ≠ 0 := by first | exact HB.out trivial | exact HB.out rfl
   have hc1 : c = 1 := by
    have : c = 0 ∨ c = 1 := by omega
    rcases this with rfl | rfl
    ·omega
    ·rfl
   rw [hc1] at hu2
   refine bodyPost_ret (v := .tuple #[.agg (W8.one u), .int .i64 0]) (by simp [results, Tryz.results106, go_sem, d0, d1, d2, d3, d4, d5, d6, d7]) rfl ?_
   refine ⟨u, 0, rfl, .inl ⟨?_, ?_, ?_, rfl⟩, ?_⟩
   ·simp only [sgn, if_true]; omega
   ·simp only [sgn, if_true]; omega
   ·refine W8.eq_of u1 ?_
    have hnt : ¬ u.a7 < 9223372036854775808 := fun hh => by have := (W8.top u1).1 hh; omega
    rw [W8.toInt, if_neg hnt]
    simp only [sgn, if_true]
    omega
   ·iterate 16 (refine Lat.setCell ?_ (by simp; try omega) _)
    exact LW2
 ·have hC := Lib.hid (hcmp.out 1 (by rw [zaq, if_neg (by omega), if_neg (by omega)]))
  clear hcmp
  cases b
  all_goals
   go_enter Tryz.func106, Tryz.ntmps106
   go_wp2_with fail
   refine za0 (Q := fun W => Calls _ _ _ W _) ?_
   intro W hl hs k1 k2 k3
   refine (zb1 x _ hx hlo2 W).mono ?_
   rintro e w1 ⟨rfl, u4⟩
   rw [hC.out]
   have B1 := k1.later u4
   have B2 := k2.later u4
   have LW := hl.trans u4
   have c0' := B1.cell 0
   clear k1 k2 k3
  ·
   have d0 := B2.cell 0
   have d1 := B2.cell 1
   have d2 := B2.cell 2
   have d3 := B2.cell 3
   have d4 := B2.cell 4
   have d5 := B2.cell 5
   have d6 := B2.cell 6
   have d7 := B2.cell 7
   have g0 := B2.frozen 0
   have g1 := B2.frozen 1
   have g2 := B2.frozen 2
   have g3 := B2.frozen 3
   have g4 := B2.frozen 4
   have g5 := B2.frozen 5
   have g6 := B2.frozen 6
   have g7 := B2.frozen 7
   go_wp2
   refine bodyPost_ret (v := .tuple #[.agg (W8.one W8.zero), .int .i64 6]) (by simp [results, Tryz.results106, go_sem, d0, d1, d2, d3, d4, d5, d6, d7, W8.zero]) rfl ?_
   refine ⟨W8.zero, 6, rfl, .inr ⟨.inr (by simp only [sgn, Bool.false_eq_true, if_false]; omega), rfl, rfl⟩, ?_⟩
   iterate 8 (refine Lat.setCell ?_ (by simp; try omega) _)
   exact LW
  ·
   have d0 := B2.cell 0
   have d1 := B2.cell 1
   have d2 := B2.cell 2
   have d3 := B2.cell 3
   have d4 := B2.cell 4
   have d5 := B2.cell 5
   have d6 := B2.cell 6
   have d7 := B2.cell 7
   have g0 := B2.frozen 0
   have g1 := B2.frozen 1
   have g2 := B2.frozen 2
   have g3 := B2.frozen 3
   have g4 := B2.frozen 4
   have g5 := B2.frozen 5
   have g6 := B2.frozen 6
   have g7 := B2.frozen 7
   go_wp2
   refine bodyPost_ret (v := .tuple #[.agg (W8.one W8.zero), .int .i64 6]) (by simp [results, Tryz.results106, go_sem, d0, d1, d2, d3, d4, d5, d6, d7, W8.zero]) rfl ?_
   refine ⟨W8.zero, 6, rfl, .inr ⟨.inl (by simp only [sgn, if_true]; omega), rfl, rfl⟩, ?_⟩
   iterate 8 (refine Lat.setCell ?_ (by simp; try omega) _)
   exact LW
theorem Lat.grown {a w w' : World} {row : Option Nat} (h : Lat a w) (hg : w.grownBy w' row) (hr : ∀ k, row = some k → a.heap.size ≤ k) : Lat a w' := Below.grown h hg h.size hr
theorem Sl.of_own {w : World} {base : Nat} {e : TypeId} {k : IntKind} {g n cap : Nat} {xs : List Int} (h : w.ownsRow base e 1 (.slice (some ⟨g, 0, none⟩) n cap) n (xs.map (Value.int k))) (hg : g < w.heap.size) : Sl w k (some ⟨g, 0, none⟩) n xs := by
 refine ⟨by have := h.1; simpa using this, fun _ => ⟨_, rfl, hg, fun i x hx => ?_⟩⟩
 exact h.cells (g := g) rfl i _ (by simp [hx])
theorem zob {w : World} {base : Nat} {e : TypeId} {g n cap : Nat} {xs : List Value} (h : w.ownsRow base e 1 (.slice (some ⟨g, 0, none⟩) n cap) n xs) : n ≤ cap := by
 obtain ⟨_, h2⟩ := h
 rcases h2 with ⟨h2, _⟩ | ⟨g', cap', cur, h2, _, _, h3, _⟩
 ·cases h2
 ·cases h2
  exact h3
theorem zoc (u : W8) : ([u.b0, u.b1, u.b2, u.b3, u.b4, u.b5, u.b6, u.b7] : List Value) = u.list.map (Value.int .u64) := rfl
theorem zbV (x : W8) (hx : x.ok) (w : World) : Calls Tryz.prog 80 #[.agg (W8.one x)] w (LongPost w x.toInt 8) := by
 obtain ⟨i0, hi0, hz0, hz1, hz2⟩ := info_parts zbP
 go_enter Tryz.func80, Tryz.ntmps80
 go_wp2_with fail
 refine zaK (Q := fun W => Calls _ _ _ W _) ?_
 intro W hl hs k1 k2
 refine (zfF x hx W).mono ?_
 rintro e w1 ⟨b, u, rfl, u1, u2, u3, u4⟩
 have B2 := k2.later u4
 have LW := hl.trans u4
 have U2 := Lib.hid u2
 have hs1 := u4.size
 clear k1 k2 u2 u3
 go_wp2
 refine zas (Q := fun W => Code.wp _ _ _ _ W) ?_
 intro W2 hl2 hs2 k3
 have B2' := B2.later hl2
 have LW2 := LW.trans hl2
 have a0 := k3.evS (gs := [w.heap.size + 1]) (by simp; try omega) 0 rfl
 have L0 := Lat.drew W2
 have M0 := L0.s [w.heap.size + 1]
 have hown0 : (W2.alloc (.cells #[] 36)).ownsRow W2.heap.size 36 1 (.slice (some ⟨W2.heap.size, 0, none⟩) 0 0) 0 [] := World.ownsRow_lit W2 #[] 0 (Nat.le_refl _) (by decide) rfl
 have hnews : ∀ j v, (u.list.map (Value.int .u64))[j]? = some v → (W2.alloc (.cells #[] 36)).drew.cell? ((⟨w1.heap.size, 1, none⟩ : Addr).add j) = some v := by
  intro j v hj
  have hk := (k3.later (Lat.alloc W2 (.cells #[] 36))).cell (1 + j)
  have ha : (⟨w1.heap.size, 1, none⟩ : Addr).add j = ⟨w1.heap.size, 1 + j, none⟩ := by unfold Addr.add; split <;> simp_all
  rw [ha]
  refine hk.trans ?_
  rw [← zoc] at hj
  have : (#[.bool b, u.b0, u.b1, u.b2, u.b3, u.b4, u.b5, u.b6, u.b7] : Array Value)[1 + j]? = ([u.b0, u.b1, u.b2, u.b3, u.b4, u.b5, u.b6, u.b7] : List Value)[j]? := by
   rw [Nat.add_comm]
   simp
  rw [this]
  exact hj
 have hone : ∀ v ∈ u.list.map (Value.int .u64), v.oneCell' = true := ints_oneCell _ _
 have MA : LatS W2 [w.heap.size + 1] (W2.alloc (.cells #[] 36)).drew := ((Lat.alloc _ _).trans (Lat.drew _)).s _
 go_region_held3 (fun w' => LatS W2 [w.heap.size + 1] w') (first | assumption | exact (LatS.set ‹LatS W2 [w.heap.size + 1] _› (by simp) _) | ((repeat refine LatS.set ?_ (by simp) _); assumption))
  (first
      | (refine step_append_lies _ (by rfl) _ _ _ (by rfl) W2.heap.size 36 i0 _ 1 8 Tryz.underlying86 hi0 hz0 hz1 hz2 rfl (by omega) (.slice (some ⟨W2.heap.size, 0, none⟩) 0 0) 0 [] (by rfl) hown0.drew ⟨w1.heap.size, 1, none⟩ 8 8 (u.list.map (Value.int .u64)) (by rfl) (by rfl) hnews hone (by omega) (by decide) (by omega) (by simp) (W2.heap.size + 1) (by simp) ?_
         intro gg cap w3 hown1 hgrow hat hlt
         have hLt : Lat W2 w3 := ((Lat.alloc _ _).trans (Lat.drew _)).grown hgrow (by intro k hk; cases hk; exact Nat.le_refl _)
         have hLw := hLt.s [w.heap.size + 1]
         have hSl : Sl w3 .u64 (some ⟨gg, 0, none⟩) 8 u.list := Sl.of_own hown1 hlt
         have hcap := zob hown1)
      | (go_at_call 99
         refine (zaI b (some ⟨gg, 0, none⟩) 8 cap _ u.list hSl u1 hcap (by omega)).mono ?_
         rintro e w4 ⟨b', m, rfl, q1, q2, q3⟩
         have L4 := hLt.trans q3
         have M4 := L4.s [w.heap.size + 1]
         have B4 := B2'.later L4
         have c0 := B4.cell 0
         have c1 := B4.cell 1
         have f0 := B4.frozen 0
         have f1 := B4.frozen 1))
 go_wp2
 refine bodyPost_ret (v := .agg #[.bool b', .slice (some ⟨gg, 0, none⟩) m cap]) (by simp [results, Tryz.results80, go_sem, c0, c1]) rfl ?_
 have := LongPost.close B4 q1 (LW2.trans L4) (by omega) q2
 rw [show val W64 u.list = u.mag from rfl, ← U2.out] at this
 exact this
end Go.Proofs.YtpmbglhbcjbkcaaGreat
