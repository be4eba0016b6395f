
/- wide: turned, sum. -/
import Derived.Test.YtogkkhaepfablaaGreatChI
import Derived.Test.YtogkkhaepfablaaGreatChP
namespace Go.Proofs.YtogkkhaepfablaaGreat
open Go.RowKit
set_option linter.unusedSimpArgs false

theorem LatP.setc (w : World) (g i : Nat) (v : Value) : LatP (· = g) w (w.setCell ⟨g, i, none⟩ v) := ⟨rfl, rfl, rfl, by simp [World.setCell], fun k _ hk => Below.heap_setCell w ⟨g, i, none⟩ v k hk⟩
theorem name_put8 {w : World} {g : Nat} {t : TypeId} {c0 c1 c2 c3 c4 c5 c6 c7 v0 v1 v2 v3 v4 v5 v6 v7 : Value} {Q : World → Prop} (hb : Blk w g t #[c0, c1, c2, c3, c4, c5, c6, c7])
    (h : ∀ W', Blk W' g t #[v0, v1, v2, v3, v4, v5, v6, v7] → LatP (· = g) w W' → Q W') : Q ((((((((w.setCell ⟨g, 0, none⟩ v0).setCell ⟨g, 1, none⟩ v1).setCell ⟨g, 2, none⟩ v2).setCell ⟨g, 3, none⟩ v3).setCell ⟨g, 4, none⟩ v4).setCell ⟨g, 5, none⟩ v5).setCell ⟨g, 6, none⟩ v6).setCell ⟨g, 7, none⟩ v7) := by
  refine h _ ?_ ((((((((LatP.setc w g 0 v0).trans (LatP.setc (w.setCell ⟨g, 0, none⟩ v0) g 1 v1)).trans (LatP.setc ((w.setCell ⟨g, 0, none⟩ v0).setCell ⟨g, 1, none⟩ v1) g 2 v2)).trans (LatP.setc (((w.setCell ⟨g, 0, none⟩ v0).setCell ⟨g, 1, none⟩ v1).setCell ⟨g, 2, none⟩ v2) g 3 v3)).trans (LatP.setc ((((w.setCell ⟨g, 0, none⟩ v0).setCell ⟨g, 1, none⟩ v1).setCell ⟨g, 2, none⟩ v2).setCell ⟨g, 3, none⟩ v3) g 4 v4)).trans (LatP.setc (((((w.setCell ⟨g, 0, none⟩ v0).setCell ⟨g, 1, none⟩ v1).setCell ⟨g, 2, none⟩ v2).setCell ⟨g, 3, none⟩ v3).setCell ⟨g, 4, none⟩ v4) g 5 v5)).trans (LatP.setc ((((((w.setCell ⟨g, 0, none⟩ v0).setCell ⟨g, 1, none⟩ v1).setCell ⟨g, 2, none⟩ v2).setCell ⟨g, 3, none⟩ v3).setCell ⟨g, 4, none⟩ v4).setCell ⟨g, 5, none⟩ v5) g 6 v6)).trans (LatP.setc (((((((w.setCell ⟨g, 0, none⟩ v0).setCell ⟨g, 1, none⟩ v1).setCell ⟨g, 2, none⟩ v2).setCell ⟨g, 3, none⟩ v3).setCell ⟨g, 4, none⟩ v4).setCell ⟨g, 5, none⟩ v5).setCell ⟨g, 6, none⟩ v6) g 7 v7))
  have := ((((((((hb.set 0 v0).set 1 v1).set 2 v2).set 3 v3).set 4 v4).set 5 v5).set 6 v6).set 7 v7)
  simpa using this
theorem name_put9 {w : World} {g : Nat} {t : TypeId} {c0 c1 c2 c3 c4 c5 c6 c7 c8 v0 v1 v2 v3 v4 v5 v6 v7 v8 : Value} {Q : World → Prop} (hb : Blk w g t #[c0, c1, c2, c3, c4, c5, c6, c7, c8])
    (h : ∀ W', Blk W' g t #[v0, v1, v2, v3, v4, v5, v6, v7, v8] → LatP (· = g) w W' → Q W') : Q (((((((((w.setCell ⟨g, 0, none⟩ v0).setCell ⟨g, 1, none⟩ v1).setCell ⟨g, 2, none⟩ v2).setCell ⟨g, 3, none⟩ v3).setCell ⟨g, 4, none⟩ v4).setCell ⟨g, 5, none⟩ v5).setCell ⟨g, 6, none⟩ v6).setCell ⟨g, 7, none⟩ v7).setCell ⟨g, 8, none⟩ v8) := by
  refine h _ ?_ (((((((((LatP.setc w g 0 v0).trans (LatP.setc (w.setCell ⟨g, 0, none⟩ v0) g 1 v1)).trans (LatP.setc ((w.setCell ⟨g, 0, none⟩ v0).setCell ⟨g, 1, none⟩ v1) g 2 v2)).trans (LatP.setc (((w.setCell ⟨g, 0, none⟩ v0).setCell ⟨g, 1, none⟩ v1).setCell ⟨g, 2, none⟩ v2) g 3 v3)).trans (LatP.setc ((((w.setCell ⟨g, 0, none⟩ v0).setCell ⟨g, 1, none⟩ v1).setCell ⟨g, 2, none⟩ v2).setCell ⟨g, 3, none⟩ v3) g 4 v4)).trans (LatP.setc (((((w.setCell ⟨g, 0, none⟩ v0).setCell ⟨g, 1, none⟩ v1).setCell ⟨g, 2, none⟩ v2).setCell ⟨g, 3, none⟩ v3).setCell ⟨g, 4, none⟩ v4) g 5 v5)).trans (LatP.setc ((((((w.setCell ⟨g, 0, none⟩ v0).setCell ⟨g, 1, none⟩ v1).setCell ⟨g, 2, none⟩ v2).setCell ⟨g, 3, none⟩ v3).setCell ⟨g, 4, none⟩ v4).setCell ⟨g, 5, none⟩ v5) g 6 v6)).trans (LatP.setc (((((((w.setCell ⟨g, 0, none⟩ v0).setCell ⟨g, 1, none⟩ v1).setCell ⟨g, 2, none⟩ v2).setCell ⟨g, 3, none⟩ v3).setCell ⟨g, 4, none⟩ v4).setCell ⟨g, 5, none⟩ v5).setCell ⟨g, 6, none⟩ v6) g 7 v7)).trans (LatP.setc ((((((((w.setCell ⟨g, 0, none⟩ v0).setCell ⟨g, 1, none⟩ v1).setCell ⟨g, 2, none⟩ v2).setCell ⟨g, 3, none⟩ v3).setCell ⟨g, 4, none⟩ v4).setCell ⟨g, 5, none⟩ v5).setCell ⟨g, 6, none⟩ v6).setCell ⟨g, 7, none⟩ v7) g 8 v8))
  have := (((((((((hb.set 0 v0).set 1 v1).set 2 v2).set 3 v3).set 4 v4).set 5 v5).set 6 v6).set 7 v7).set 8 v8)
  simpa using this

set_option maxRecDepth 100000 in
set_option maxHeartbeats 4000000 in
theorem turned2_any (b : Bool) (x : W8) (hx : x.ok) (w : World) : Calls Tryz.prog 108 #[.agg #[.bool b, .int .u64 x.a0, .int .u64 x.a1, .int .u64 x.a2, .int .u64 x.a3, .int .u64 x.a4, .int .u64 x.a5, .int .u64 x.a6, .int .u64 x.a7]] w (OfPost w (!b) x) := by
  have HO := of2_any (!b) x hx
  unfold OfPost at HO ⊢
  obtain ⟨v, hv⟩ : ∃ v, (!b && !decide (x.mag = 0)) = v := ⟨_, rfl⟩
  rw [hv] at HO ⊢
  clear hv hx
  obtain ⟨nb, hnb⟩ : ∃ nb, (!b) = nb := ⟨_, rfl⟩
  rw [hnb] at HO
  go_enter Tryz.func108, Tryz.ntmps108
  go_wp2_with fail
  refine name2 (Q := fun W => Calls _ _ _ W _) ?_
  intro W hl hs k1 k2
  refine (HO W).mono ?_
  rintro e w1 ⟨rfl, l1⟩
  have K2 := k2.later l1
  have L1 := hl.trans l1
  clear k1 k2 hl l1 HO hnb
  have c0 := K2.cell 0
  have c1 := K2.cell 1
  have c2 := K2.cell 2
  have c3 := K2.cell 3
  have c4 := K2.cell 4
  have c5 := K2.cell 5
  have c6 := K2.cell 6
  have c7 := K2.cell 7
  have c8 := K2.cell 8
  have f0 := K2.frozen 0
  have f1 := K2.frozen 1
  have f2 := K2.frozen 2
  have f3 := K2.frozen 3
  have f4 := K2.frozen 4
  have f5 := K2.frozen 5
  have f6 := K2.frozen 6
  have f7 := K2.frozen 7
  have f8 := K2.frozen 8
  have hlt := K2.lt
  go_wp2
  refine name_put9 (Q := fun W => bodyPost _ _ _ _ _ W) K2 ?_
  intro W3 K3 l3
  have d0 := K3.cell 0
  have d1 := K3.cell 1
  have d2 := K3.cell 2
  have d3 := K3.cell 3
  have d4 := K3.cell 4
  have d5 := K3.cell 5
  have d6 := K3.cell 6
  have d7 := K3.cell 7
  have d8 := K3.cell 8
  refine bodyPost_ret (v := .agg #[.bool v, .int .u64 x.a0, .int .u64 x.a1, .int .u64 x.a2, .int .u64 x.a3, .int .u64 x.a4, .int .u64 x.a5, .int .u64 x.a6, .int .u64 x.a7]) (by simp [results, Tryz.results108, go_sem, d0, d1, d2, d3, d4, d5, d6, d7, d8]) rfl ?_
  exact ⟨rfl, l3.narrow L1 (by omega)⟩

/-- What 'sum' hands back: the number, or that it is too great. -/
def SumPost (w : World) (z : Int) (e : Ending) (w' : World) : Prop :=
  ∃ (b : Bool) (u : W8) (c : Bool), e = .returned (.tuple #[.agg #[.bool b, .int .u64 u.a0, .int .u64 u.a1, .int .u64 u.a2, .int .u64 u.a3, .int .u64 u.a4, .int .u64 u.a5, .int .u64 u.a6, .int .u64 u.a7], .bool c]) ∧ u.ok ∧ (c = false → z = sgn b u.mag ∧ (b = true → u.mag ≠ 0)) ∧ (c = true → z < -P511 ∨ P511 ≤ z) ∧ Lat w w'

set_option maxRecDepth 100000 in
set_option maxHeartbeats 4000000 in
theorem sum_same (b : Bool) (x y : W8) (hx : x.ok) (hy : y.ok) (w : World) :
    Calls Tryz.prog 97 #[.agg #[.bool b, .int .u64 x.a0, .int .u64 x.a1, .int .u64 x.a2, .int .u64 x.a3, .int .u64 x.a4, .int .u64 x.a5, .int .u64 x.a6, .int .u64 x.a7], .agg #[.bool b, .int .u64 y.a0, .int .u64 y.a1, .int .u64 y.a2, .int .u64 y.a3, .int .u64 y.a4, .int .u64 y.a5, .int .u64 y.a6, .int .u64 y.a7]] w (SumPost w (sgn b x.mag + sgn b y.mag)) := by
  have HP := sizePlus_any x y hx hy
  have HMX := Lib.hid (W8.mag_bounds hx)
  have HMY := Lib.hid (W8.mag_bounds hy)
  clear hx hy
  go_enter Tryz.func97, Tryz.ntmps97
  go_wp2_with fail
  refine name3 (Q := fun W => Calls _ _ _ W _) ?_
  intro W hl hs k1 k2 k4
  refine (HP W).mono ?_
  rintro e w1 ⟨u, cy, rfl, hu, he, hc, l1⟩
  have HE := Lib.hid he
  have HU := Lib.hid hu
  have HCY := Lib.hid hc
  have HO := of2_any b u hu
  unfold OfPost at HO
  obtain ⟨v, hv⟩ : ∃ v, (b && !decide (u.mag = 0)) = v := ⟨_, rfl⟩
  rw [hv] at HO
  have HV := Lib.hid hv
  have K1 := k1.later l1
  have K4 := k4.later l1
  have L1 := hl.trans l1
  clear k1 k2 k4 hl l1 HP hv he hu hc hs
  have c0 := K1.cell 0
  have c1 := K1.cell 1
  have c2 := K1.cell 2
  have c3 := K1.cell 3
  have c4 := K1.cell 4
  have c5 := K1.cell 5
  have c6 := K1.cell 6
  have c7 := K1.cell 7
  have c8 := K1.cell 8
  have hlt := K4.lt
  have hlt1 := K1.lt
  go_wp2_with fail
  refine name1 (Q := fun W => Calls _ _ _ W _) ?_
  intro W2 l2 hs2 k6
  refine (HO W2).mono ?_
  rintro e w3 ⟨rfl, l3⟩
  have K4 := (K4.later l2).later l3
  have L3 := (L1.trans l2).trans l3
  clear k6 l2 l3 hs2 HO
  clear c0 c1 c2 c3 c4 c5 c6 c7
  clear c8 hlt hlt1 K1
  have d0 := K4.cell 0
  have d1 := K4.cell 1
  have d2 := K4.cell 2
  have d3 := K4.cell 3
  have d4 := K4.cell 4
  have d5 := K4.cell 5
  have d6 := K4.cell 6
  have d7 := K4.cell 7
  have d8 := K4.cell 8
  have f0 := K4.frozen 0
  have f1 := K4.frozen 1
  have f2 := K4.frozen 2
  have f3 := K4.frozen 3
  have f4 := K4.frozen 4
  have f5 := K4.frozen 5
  have f6 := K4.frozen 6
  have f7 := K4.frozen 7
  have f8 := K4.frozen 8
  have hlt := K4.lt
  have hcy := HCY.out
  have hc0 : decide (0 < cy) = (cy == 1) := by
    have : cy = 0 ∨ cy = 1 := by omega
    rcases this with rfl | rfl <;> rfl
  go_wp2
  refine name_put9 (Q := fun W => bodyPost _ _ _ _ _ W) K4 ?_
  intro W4 J4 l4
  clear d0 d1 d2 d3 d4 d5 d6 d7
  have e0 := J4.cell 0
  have e1 := J4.cell 1
  have e2 := J4.cell 2
  have e3 := J4.cell 3
  have e4 := J4.cell 4
  have e5 := J4.cell 5
  have e6 := J4.cell 6
  have e7 := J4.cell 7
  have e8 := J4.cell 8
  refine bodyPost_ret (v := .tuple #[.agg #[.bool v, .int .u64 u.a0, .int .u64 u.a1, .int .u64 u.a2, .int .u64 u.a3, .int .u64 u.a4, .int .u64 u.a5, .int .u64 u.a6, .int .u64 u.a7], .bool (cy == 1)]) (by simp [results, Tryz.results97, go_sem, e0, e1, e2, e3, e4, e5, e6, e7, e8]) rfl ?_
  have h1 := HE.out
  have h2 := HMX.out
  have h3 := HMY.out
  have h4 := HV.out
  have h5 := HCY.out
  have h6 := P512_two
  have h7 := P511_pos
  have h8 := W8.mag_bounds HU.out
  refine ⟨v, u, cy == 1, rfl, HU.out, fun hc => ?_, fun hc => ?_, l4.narrow L3 (by omega)⟩
  · have hcy0 : cy = 0 := by
      rcases (show cy = 0 ∨ cy = 1 by omega) with h | h
      · exact h
      · rw [h] at hc; cases hc
    rw [hcy0] at h1
    by_cases hu0 : u.mag = 0
    · have hx0 : x.mag = 0 := by omega
      have hy0 : y.mag = 0 := by omega
      have hv0 : v = false := by rw [← h4, hu0]; simp
      rw [hv0, hx0, hy0, hu0]
      cases b <;> simp [sgn]
    · have hvb : v = b := by rw [← h4]; simp [hu0]
      rw [hvb]
      refine ⟨?_, fun _ => hu0⟩
      cases b
      · simp only [sgn, Bool.false_eq_true, if_false]; omega
      · simp only [sgn, if_true]; omega
  · have hcy1 : cy = 1 := by simpa using hc
    rw [hcy1] at h1
    cases b
    · simp only [sgn, Bool.false_eq_true, if_false]; omega
    · simp only [sgn, if_true]; omega

theorem sgn_diff {b v : Bool} {x y u : Int} (h : u = x - y) (_h0 : 0 ≤ u) (hv : (b && !decide (u = 0)) = v) : (sgn b x + sgn (!b) y = sgn v u ∧ (v = true → u ≠ 0)) := by
  by_cases hu : u = 0
  · have hv0 : v = false := by rw [← hv, hu]; simp
    rw [hv0]
    refine ⟨?_, fun h => by cases h⟩
    cases b <;> simp [sgn] <;> omega
  · have hvb : v = b := by rw [← hv]; simp [hu]
    rw [hvb]
    refine ⟨?_, fun _ => hu⟩
    cases b <;> simp [sgn] <;> omega

set_option maxRecDepth 100000 in
set_option maxHeartbeats 4000000 in
theorem sum_ge (b nb : Bool) (hb : (b == nb) = false) (x y : W8) (hx : x.ok) (hy : y.ok) (h : y.mag ≤ x.mag) (w : World) :
    Calls Tryz.prog 97 #[.agg #[.bool b, .int .u64 x.a0, .int .u64 x.a1, .int .u64 x.a2, .int .u64 x.a3, .int .u64 x.a4, .int .u64 x.a5, .int .u64 x.a6, .int .u64 x.a7], .agg #[.bool nb, .int .u64 y.a0, .int .u64 y.a1, .int .u64 y.a2, .int .u64 y.a3, .int .u64 y.a4, .int .u64 y.a5, .int .u64 y.a6, .int .u64 y.a7]] w (SumPost w (sgn b x.mag + sgn nb y.mag)) := by
  have HP := sizeMinus_any x y hx hy
  have HC := sizeOrder_any x y hx hy
  have HMX := Lib.hid (W8.mag_bounds hx)
  have HMY := Lib.hid (W8.mag_bounds hy)
  have HLE := Lib.hid h
  obtain ⟨sd, hsd⟩ : ∃ sd, sideOf (x.mag - y.mag) = sd := ⟨_, rfl⟩
  rw [hsd] at HC
  have hs0 : 0 ≤ sd := by
    rw [← hsd, sideOf]
    split
    · omega
    · split <;> omega
  clear hx hy h hsd
  go_enter Tryz.func97, Tryz.ntmps97
  go_wp2_with fail
  refine name3 (Q := fun W => Calls _ _ _ W _) ?_
  intro W hl hs k1 k2 k4
  refine (HC W).mono ?_
  rintro e w1 ⟨rfl, l1⟩
  have K1 := k1.later l1
  have K2 := k2.later l1
  have K4 := k4.later l1
  have L1 := hl.trans l1
  clear k1 k2 k4 hl l1 HC hs
  have c0 := K1.cell 0
  have c1 := K1.cell 1
  have c2 := K1.cell 2
  have c3 := K1.cell 3
  have c4 := K1.cell 4
  have c5 := K1.cell 5
  have c6 := K1.cell 6
  have c7 := K1.cell 7
  have c8 := K1.cell 8
  have d0 := K2.cell 0
  have d1 := K2.cell 1
  have d2 := K2.cell 2
  have d3 := K2.cell 3
  have d4 := K2.cell 4
  have d5 := K2.cell 5
  have d6 := K2.cell 6
  have d7 := K2.cell 7
  have d8 := K2.cell 8
  have hlt := K4.lt
  have hlt1 := K1.lt
  have hlt2 := K2.lt
  go_wp2_with fail
  refine (HP w1).mono ?_
  rintro e w2 ⟨u, cy, rfl, hu, he, hc, l2⟩
  have HE := Lib.hid he
  have HU := Lib.hid hu
  have HCY := Lib.hid hc
  have HO := of2_any b u hu
  unfold OfPost at HO
  obtain ⟨v, hv⟩ : ∃ v, (b && !decide (u.mag = 0)) = v := ⟨_, rfl⟩
  rw [hv] at HO
  have HV := Lib.hid hv
  have K1 := K1.later l2
  have K2 := K2.later l2
  have K4 := K4.later l2
  have L2 := L1.trans l2
  clear c0 c1 c2 c3 c4 c5 c6 c7 c8
  clear d0 d1 d2 d3 d4 d5 d6 d7 d8
  clear L1 l2 hlt hlt1 hlt2 HP hv he hu hc
  have c0 := K1.cell 0
  have c1 := K1.cell 1
  have c2 := K1.cell 2
  have c3 := K1.cell 3
  have c4 := K1.cell 4
  have c5 := K1.cell 5
  have c6 := K1.cell 6
  have c7 := K1.cell 7
  have c8 := K1.cell 8
  have hlt := K4.lt
  have hlt1 := K1.lt
  go_wp2_with fail
  refine name1 (Q := fun W => Calls _ _ _ W _) ?_
  intro W2 l2 hs2 k6
  refine (HO W2).mono ?_
  rintro e w3 ⟨rfl, l3⟩
  have K4 := (K4.later l2).later l3
  have L3 := (L2.trans l2).trans l3
  clear k6 l2 l3 hs2 HO
  clear c0 c1 c2 c3 c4 c5 c6 c7 c8
  clear hlt hlt1 K1 K2
  have d0 := K4.cell 0
  have d1 := K4.cell 1
  have d2 := K4.cell 2
  have d3 := K4.cell 3
  have d4 := K4.cell 4
  have d5 := K4.cell 5
  have d6 := K4.cell 6
  have d7 := K4.cell 7
  have d8 := K4.cell 8
  have f0 := K4.frozen 0
  have f1 := K4.frozen 1
  have f2 := K4.frozen 2
  have f3 := K4.frozen 3
  have f4 := K4.frozen 4
  have f5 := K4.frozen 5
  have f6 := K4.frozen 6
  have f7 := K4.frozen 7
  have f8 := K4.frozen 8
  have hlt := K4.lt
  go_wp2
  refine name_put9 (Q := fun W => bodyPost _ _ _ _ _ W) K4 ?_
  intro W4 J4 l4
  clear d0 d1 d2 d3 d4 d5 d6 d7
  have e0 := J4.cell 0
  have e1 := J4.cell 1
  have e2 := J4.cell 2
  have e3 := J4.cell 3
  have e4 := J4.cell 4
  have e5 := J4.cell 5
  have e6 := J4.cell 6
  have e7 := J4.cell 7
  have e8 := J4.cell 8
  refine bodyPost_ret (v := .tuple #[.agg #[.bool v, .int .u64 u.a0, .int .u64 u.a1, .int .u64 u.a2, .int .u64 u.a3, .int .u64 u.a4, .int .u64 u.a5, .int .u64 u.a6, .int .u64 u.a7], .bool false]) (by simp [results, Tryz.results97, go_sem, e0, e1, e2, e3, e4, e5, e6, e7, e8]) rfl ?_
  have h1 := HE.out
  have h2 := HMX.out
  have h3 := HMY.out
  have h5 := HCY.out
  have h6 := P512_two
  have h7 := P511_pos
  have h8 := W8.mag_bounds HU.out
  have h9 := HLE.out
  have hcy0 : cy = 0 := by
    rcases (show cy = 0 ∨ cy = 1 by omega) with h | h
    · exact h
    · rw [h] at h1; omega
  rw [hcy0] at h1
  refine ⟨v, u, false, rfl, HU.out, fun _ => ?_, (fun hc => by cases hc), l4.narrow L3 (by omega)⟩
  have := sgn_diff (b := b) (v := v) (x := x.mag) (y := y.mag) (u := u.mag) (by omega) h8.1 HV.out
  have hnb : nb = !b := by cases b <;> cases nb <;> simp_all
  rw [hnb]
  exact this

set_option maxRecDepth 100000 in
set_option maxHeartbeats 4000000 in
theorem sum_lt (b nb : Bool) (hb : (b == nb) = false) (x y : W8) (hx : x.ok) (hy : y.ok) (h : x.mag < y.mag) (w : World) :
    Calls Tryz.prog 97 #[.agg #[.bool b, .int .u64 x.a0, .int .u64 x.a1, .int .u64 x.a2, .int .u64 x.a3, .int .u64 x.a4, .int .u64 x.a5, .int .u64 x.a6, .int .u64 x.a7], .agg #[.bool nb, .int .u64 y.a0, .int .u64 y.a1, .int .u64 y.a2, .int .u64 y.a3, .int .u64 y.a4, .int .u64 y.a5, .int .u64 y.a6, .int .u64 y.a7]] w (SumPost w (sgn b x.mag + sgn nb y.mag)) := by
  have HP := sizeMinus_any y x hy hx
  have HC := sizeOrder_any x y hx hy
  have HMX := Lib.hid (W8.mag_bounds hx)
  have HMY := Lib.hid (W8.mag_bounds hy)
  have HLE := Lib.hid h
  obtain ⟨sd, hsd⟩ : ∃ sd, sideOf (x.mag - y.mag) = sd := ⟨_, rfl⟩
  rw [hsd] at HC
  have hs0 : sd < 0 := by
    rw [← hsd, sideOf]
    split
    · omega
    · split <;> omega
  clear hx hy h hsd
  go_enter Tryz.func97, Tryz.ntmps97
  go_wp2_with fail
  refine name3 (Q := fun W => Calls _ _ _ W _) ?_
  intro W hl hs k1 k2 k4
  refine (HC W).mono ?_
  rintro e w1 ⟨rfl, l1⟩
  have K1 := k1.later l1
  have K2 := k2.later l1
  have K4 := k4.later l1
  have L1 := hl.trans l1
  clear k1 k2 k4 hl l1 HC hs
  have c0 := K1.cell 0
  have c1 := K1.cell 1
  have c2 := K1.cell 2
  have c3 := K1.cell 3
  have c4 := K1.cell 4
  have c5 := K1.cell 5
  have c6 := K1.cell 6
  have c7 := K1.cell 7
  have c8 := K1.cell 8
  have d0 := K2.cell 0
  have d1 := K2.cell 1
  have d2 := K2.cell 2
  have d3 := K2.cell 3
  have d4 := K2.cell 4
  have d5 := K2.cell 5
  have d6 := K2.cell 6
  have d7 := K2.cell 7
  have d8 := K2.cell 8
  have hlt := K4.lt
  have hlt1 := K1.lt
  have hlt2 := K2.lt
  go_wp2_with fail
  refine (HP w1).mono ?_
  rintro e w2 ⟨u, cy, rfl, hu, he, hc, l2⟩
  have HE := Lib.hid he
  have HU := Lib.hid hu
  have HCY := Lib.hid hc
  have HO := of2_any nb u hu
  unfold OfPost at HO
  obtain ⟨v, hv⟩ : ∃ v, (nb && !decide (u.mag = 0)) = v := ⟨_, rfl⟩
  rw [hv] at HO
  have HV := Lib.hid hv
  have K1 := K1.later l2
  have K2 := K2.later l2
  have K4 := K4.later l2
  have L2 := L1.trans l2
  clear c0 c1 c2 c3 c4 c5 c6 c7 c8
  clear d0 d1 d2 d3 d4 d5 d6 d7 d8
  clear L1 l2 hlt hlt1 hlt2 HP hv he hu hc
  have c0 := K2.cell 0
  have c1 := K2.cell 1
  have c2 := K2.cell 2
  have c3 := K2.cell 3
  have c4 := K2.cell 4
  have c5 := K2.cell 5
  have c6 := K2.cell 6
  have c7 := K2.cell 7
  have c8 := K2.cell 8
  have hlt := K4.lt
  have hlt1 := K2.lt
  go_wp2_with fail
  refine name1 (Q := fun W => Calls _ _ _ W _) ?_
  intro W2 l2 hs2 k6
  refine (HO W2).mono ?_
  rintro e w3 ⟨rfl, l3⟩
  have K4 := (K4.later l2).later l3
  have L3 := (L2.trans l2).trans l3
  clear k6 l2 l3 hs2 HO
  clear c0 c1 c2 c3 c4 c5 c6 c7 c8
  clear hlt hlt1 K1 K2
  have d0 := K4.cell 0
  have d1 := K4.cell 1
  have d2 := K4.cell 2
  have d3 := K4.cell 3
  have d4 := K4.cell 4
  have d5 := K4.cell 5
  have d6 := K4.cell 6
  have d7 := K4.cell 7
  have d8 := K4.cell 8
  have f0 := K4.frozen 0
  have f1 := K4.frozen 1
  have f2 := K4.frozen 2
  have f3 := K4.frozen 3
  have f4 := K4.frozen 4
  have f5 := K4.frozen 5
  have f6 := K4.frozen 6
  have f7 := K4.frozen 7
  have f8 := K4.frozen 8
  have hlt := K4.lt
  go_wp2
  refine name_put9 (Q := fun W => bodyPost _ _ _ _ _ W) K4 ?_
  intro W4 J4 l4
  clear d0 d1 d2 d3 d4 d5 d6 d7
  have e0 := J4.cell 0
  have e1 := J4.cell 1
  have e2 := J4.cell 2
  have e3 := J4.cell 3
  have e4 := J4.cell 4
  have e5 := J4.cell 5
  have e6 := J4.cell 6
  have e7 := J4.cell 7
  have e8 := J4.cell 8
  refine bodyPost_ret (v := .tuple #[.agg #[.bool v, .int .u64 u.a0, .int .u64 u.a1, .int .u64 u.a2, .int .u64 u.a3, .int .u64 u.a4, .int .u64 u.a5, .int .u64 u.a6, .int .u64 u.a7], .bool false]) (by simp [results, Tryz.results97, go_sem, e0, e1, e2, e3, e4, e5, e6, e7, e8]) rfl ?_
  have h1 := HE.out
  have h2 := HMX.out
  have h3 := HMY.out
  have h5 := HCY.out
  have h6 := P512_two
  have h7 := P511_pos
  have h8 := W8.mag_bounds HU.out
  have h9 := HLE.out
  have hcy0 : cy = 0 := by
    rcases (show cy = 0 ∨ cy = 1 by omega) with h | h
    · exact h
    · rw [h] at h1; omega
  rw [hcy0] at h1
  refine ⟨v, u, false, rfl, HU.out, fun _ => ?_, (fun hc => by cases hc), l4.narrow L3 (by omega)⟩
  have := sgn_diff (b := nb) (v := v) (x := y.mag) (y := x.mag) (u := u.mag) (by omega) h8.1 HV.out
  have hnb : b = !nb := by cases b <;> cases nb <;> simp_all
  rw [hnb, Int.add_comm]
  exact this

theorem sum_any (b1 b2 : Bool) (x y : W8) (hx : x.ok) (hy : y.ok) (w : World) :
    Calls Tryz.prog 97 #[.agg #[.bool b1, .int .u64 x.a0, .int .u64 x.a1, .int .u64 x.a2, .int .u64 x.a3, .int .u64 x.a4, .int .u64 x.a5, .int .u64 x.a6, .int .u64 x.a7], .agg #[.bool b2, .int .u64 y.a0, .int .u64 y.a1, .int .u64 y.a2, .int .u64 y.a3, .int .u64 y.a4, .int .u64 y.a5, .int .u64 y.a6, .int .u64 y.a7]] w (SumPost w (sgn b1 x.mag + sgn b2 y.mag)) := by
  by_cases hb : b1 = b2
  · subst hb; exact sum_same b1 x y hx hy w
  · have hb' : (b1 == b2) = false := by simpa using hb
    rcases Int.lt_or_le x.mag y.mag with h | h
    · exact sum_lt b1 b2 hb' x y hx hy h w
    · exact sum_ge b1 b2 hb' x y hx hy h w
end Go.Proofs.YtogkkhaepfablaaGreat
