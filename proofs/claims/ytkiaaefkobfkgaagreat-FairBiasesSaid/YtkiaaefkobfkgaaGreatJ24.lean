/- Several texts in one: RefX, RefY. -/
import Derived.Test.YtkiaaefkobfkgaaGreatJ23
import Derived.Test.YtkiaaefkobfkgaaGreatJ25

/- The reference's shares: Right, of a valid share. -/
namespace Go.Proofs.YtkiaaefkobfkgaaGreat
open Go.RowKit
attribute [local go_sem ↓] Go.wp_at_zero Go.wp_at_succ

set_option maxRecDepth 100000 in
set_option maxHeartbeats 8000000 in
theorem rRight_ok (u v : W8) (hu : u.ok) (hv : v.ok) (hok : ShOk u.toInt v.toInt) (w : World) :
    Calls Tryz.prog 158 #[.agg #[.int .u64 u.a0, .int .u64 u.a1, .int .u64 u.a2, .int .u64 u.a3, .int .u64 u.a4, .int .u64 u.a5, .int .u64 u.a6, .int .u64 u.a7, .int .u64 v.a0, .int .u64 v.a1, .int .u64 v.a2, .int .u64 v.a3, .int .u64 v.a4, .int .u64 v.a5, .int .u64 v.a6, .int .u64 v.a7]] w (fun e w' => e = .returned (.bool true) ∧ Lat w w') := by
  have HI := rIn_any u hu
  have HJ := rIn_any v hv
  have hpos := hok.1
  have HG : Hid ((Int.gcd u.toInt v.toInt : Int) = 1) := by show _ = _; rw [hok.2]; rfl
  clear hu hv hok
  obtain ⟨X, hX⟩ : ∃ X, u.toInt = X := ⟨_, rfl⟩
  obtain ⟨Y, hY⟩ : ∃ Y, v.toInt = Y := ⟨_, rfl⟩
  rw [hX] at HI HG
  rw [hY] at HJ HG hpos
  clear hX hY
  go_enter Tryz.func158, Tryz.ntmps158
  go_wp2_with fail
  refine name1 (Q := fun W => Code.wp _ _ _ _ W) ?_
  intro W1 hlw hs k1
  go_upto_region 1 with (fail)
  have HQ : ∀ wx, Lat W1 wx → Calls Tryz.prog 192 #[.agg #[.int .u64 u.a0, .int .u64 u.a1, .int .u64 u.a2, .int .u64 u.a3, .int .u64 u.a4, .int .u64 u.a5, .int .u64 u.a6, .int .u64 u.a7]] wx (RefPost2 W1 wx X 17) := fun wx hx => (HI wx).mono fun _ _ => RefPost.two hx
  have HR : ∀ wx, Lat W1 wx → Calls Tryz.prog 192 #[.agg #[.int .u64 v.a0, .int .u64 v.a1, .int .u64 v.a2, .int .u64 v.a3, .int .u64 v.a4, .int .u64 v.a5, .int .u64 v.a6, .int .u64 v.a7]] wx (RefPost2 W1 wx Y 17) := fun wx hx => (HJ wx).mono fun _ _ => RefPost.two hx
  have a0 := k1.ever 0 rfl
  have a1 := k1.ever 1 rfl
  have a2 := k1.ever 2 rfl
  have a3 := k1.ever 3 rfl
  have a4 := k1.ever 4 rfl
  have a5 := k1.ever 5 rfl
  have a6 := k1.ever 6 rfl
  have a7 := k1.ever 7 rfl
  have a8 := k1.ever 8 rfl
  have a9 := k1.ever 9 rfl
  have a10 := k1.ever 10 rfl
  have a11 := k1.ever 11 rfl
  have a12 := k1.ever 12 rfl
  have a13 := k1.ever 13 rfl
  have a14 := k1.ever 14 rfl
  have a15 := k1.ever 15 rfl
  clear HI HJ
  go_cut [3, 4] (fun s8 s9 wx => TwoVars W1 X Y 17 17 s8 s9 wx)
  case first =>
    have L0 := Lat.drew W1
    go_region_held3 (fun w' => Lat W1 w') (first | (with_reducible assumption) | ((repeat (first | (with_reducible assumption) | (with_reducible exact Lat.refl _) | (with_reducible refine Lat.trans ?_ (Lat.alloc _ _)) | (with_reducible refine Lat.trans ?_ (Lat.drew _)) | ((with_reducible refine Lat.setCell ?_ ?_ _); rotate_left; (focus (first | omega | (simp; done) | (simp; omega))))))))
      (first
        | (have _h := HQ; go_at_call 192; (with_reducible refine (HQ _ ?_).mono ?_); (repeat (first | assumption | exact Lat.refl _ | refine Lat.trans ?_ (Lat.alloc _ _) | refine Lat.trans ?_ (Lat.drew _))); rintro e w2 ⟨b, A, n, c, rfl, p1, p2, p3, p4, p5⟩; have HQ' := Lib.hid p1; have Z2 := p4.size; clear HQ _h p1; (try (have kA := Blk.later (g := W1.heap.size) (t := 181) (cs := #[.bool false, .slice none 0 0]) (by first | exact Blk.new _ _ _ | exact (Blk.new _ _ _).alloc _ | exact (show Blk (W1.alloc (.cells #[.bool false, .slice none 0 0] 181)) W1.heap.size 181 #[.bool false, .slice none 0 0] from Blk.new _ _ _) | exact (show Blk ((W1.alloc (.cells #[.bool false, .slice none 0 0] 181)).alloc (.cells #[.bool false, .slice none 0 0] 181)) W1.heap.size 181 #[.bool false, .slice none 0 0] from (Blk.new _ _ _).alloc _) ) p3; have kAlt := kA.lt; have kAc0 := kA.cell 0; have kAc1 := kA.cell 1; have kAf0 := kA.frozen 0; have kAf1 := kA.frozen 1)); (try (have kB := Blk.later (g := W1.heap.size + 1) (t := 181) (cs := #[.bool false, .slice none 0 0]) (by first | exact (show Blk ((W1.alloc (.cells #[.bool false, .slice none 0 0] 181)).alloc (.cells #[.bool false, .slice none 0 0] 181)) (W1.heap.size + 1) 181 #[.bool false, .slice none 0 0] from by have hh := Blk.new (W1.alloc (.cells #[.bool false, .slice none 0 0] 181)) 181 #[.bool false, .slice none 0 0]; simpa using hh) | exact Blk.new _ _ _ | (have hh := Blk.new (W1.drew.alloc (.cells #[.bool false, .slice none 0 0] 181)) 181 #[.bool false, .slice none 0 0]; simpa using hh) | exact (Blk.new _ _ _).alloc _ ) p3; have kBlt := kB.lt; have kBc0 := kB.cell 0; have kBc1 := kB.cell 1; have kBf0 := kB.frozen 0; have kBf1 := kB.frozen 1)))
        | (have _h := HR; go_at_call 192; (with_reducible refine (HR _ ?_).mono ?_); (repeat (first | assumption | exact Lat.refl _ | refine Lat.trans ?_ (Lat.alloc _ _) | refine Lat.trans ?_ (Lat.drew _))); rintro e w3 ⟨b', A', n', c', rfl, u1, u2, u3, u4, u5⟩; have HR' := Lib.hid u1; have Z3 := u4.size; have PQ := Lib.hid (HQ'.out.later (w := w3) (by first | exact u3 | exact (Lat.alloc _ _).trans u3 | exact ((Lat.alloc _ _).trans (Lat.alloc _ _)).trans u3)); clear HR _h u1; (try (have mA := Blk.later (g := W1.heap.size) (t := 181) (cs := #[.bool false, .slice none 0 0]) (by first | exact Blk.new _ _ _ | exact (Blk.new _ _ _).alloc _ | exact kA | exact kB | exact kA.alloc _ | exact kB.alloc _ | exact (kA.alloc _).alloc _ ) u3; have mAlt := mA.lt; have mAc0 := mA.cell 0; have mAc1 := mA.cell 1; have mAf0 := mA.frozen 0; have mAf1 := mA.frozen 1)); (try (have mB := Blk.later (g := W1.heap.size + 1) (t := 181) (cs := #[.bool false, .slice none 0 0]) (by first | exact Blk.new _ _ _ | exact (Blk.new _ _ _).alloc _ | exact kA | exact kB | exact kA.alloc _ | exact kB.alloc _ | exact (kA.alloc _).alloc _ ) u3; have mBlt := mB.lt; have mBc0 := mB.cell 0; have mBc1 := mB.cell 1; have mBf0 := mB.frozen 0; have mBf1 := mB.frozen 1)); (try (have mC := Blk.later (g := w2.heap.size) (t := 181) (cs := #[.bool false, .slice none 0 0]) (by first | exact Blk.new _ _ _ | exact (Blk.new _ _ _).alloc _ | exact kA | exact kB | exact kA.alloc _ | exact kB.alloc _ | exact (kA.alloc _).alloc _ ) u3; have mClt := mC.lt; have mCc0 := mC.cell 0; have mCc1 := mC.cell 1; have mCf0 := mC.frozen 0; have mCf1 := mC.frozen 1)); (try (have mD := Blk.later (g := w2.heap.size + 1) (t := 181) (cs := #[.bool false, .slice none 0 0]) (by first | exact Blk.new _ _ _ | (have hh := Blk.new (w2.alloc (.cells #[.bool false, .slice none 0 0] 181)) 181 #[.bool false, .slice none 0 0]; simpa using hh) | exact (Blk.new _ _ _).alloc _ | exact kA | exact kB | exact kA.alloc _ | exact kB.alloc _ | exact (kA.alloc _).alloc _ ) u3; have mDlt := mD.lt; have mDc0 := mD.cell 0; have mDc1 := mD.cell 1; have mDf0 := mD.frozen 0; have mDf1 := mD.frozen 1))))
    all_goals
      go_wp2_with fail
      go_meet
      have P1 := PQ.out
      have P2 := HR'.out
      first
        | (with_reducible exact TwoVars.ff P1 p2 P2 u2 u4)
        | (with_reducible exact TwoVars.ff' P1 p2 P2 u2 u4)
        | ((with_reducible refine TwoVars.pf ?_ P1 p2 P2 u2 u4 ?_) <;> first | (with_reducible exact mA) | (with_reducible exact mB) | (with_reducible exact mC) | (with_reducible exact mD) | omega)
        | ((with_reducible refine TwoVars.fp ?_ P1 p2 P2 u2 u4 ?_) <;> first | (with_reducible exact mA) | (with_reducible exact mB) | (with_reducible exact mC) | (with_reducible exact mD) | omega)
        | ((with_reducible refine TwoVars.of ?_ ?_ ?_ P1 p2 P2 u2 u4 ?_ ?_) <;> first | (with_reducible exact mA) | (with_reducible exact mB) | (with_reducible exact mC) | (with_reducible exact mD) | omega)
  case rest =>
    obtain ⟨g8, g9, b, A, n, c, b', A', n', c', rfl, rfl, l8, l9, B8, B9, hq, hn8, hr, hn9, hL⟩ := hcut
    have hb' : b' = false := by
      cases b' with
      | false => rfl
      | true => exfalso; have := hr.neg_of; omega
    subst hb'
    have hn' : 0 < n' := by
      rcases Nat.eq_zero_or_pos n' with h0 | h0
      · exfalso
        subst h0
        obtain ⟨_, xs, hxs, _, _, _, hv⟩ := hr
        have : xs = [] := List.eq_nil_of_length_eq_zero hxs.1
        subst this
        simp [sgn, val] at hv
        omega
      · exact h0
    have d0 := B8.cell 0
    have d1 := B8.cell (0 + 1)
    have d2 := B9.cell 0
    have d3 := B9.cell (0 + 1)
    have LL := hlw.trans hL
    have hq' := Lib.hid hq
    have hr' := Lib.hid hr
    clear a0 a1 a2 a3 a4 a5 a6 a7 a8 a9 a10 a11 a12 a13 a14 a15
    clear hq hr HQ HR
    go_wp2_with fail
    refine (rDivisor_any b A n c X false A' n' c' Y _ hq'.out hr'.out (by omega) (by omega)).mono ?_
    rintro e w5 ⟨b5, A5, n5, c5, rfl, t1, t2, t3⟩
    rw [HG.out] at t1
    go_wp2_with fail
    refine (rOne_yes b5 A5 n5 c5 w5 t1).mono ?_
    rintro e w6 ⟨rfl, v1⟩
    go_wp2
    go_ret
    exact ⟨rfl, (LL.trans t3).trans v1⟩
end Go.Proofs.YtkiaaefkobfkgaaGreat

/- The reference's shares: Cmp, of valid shares. -/
namespace Go.Proofs.YtkiaaefkobfkgaaGreat
open Go.RowKit
attribute [local go_sem ↓] Go.wp_at_zero Go.wp_at_succ

set_option maxRecDepth 100000 in
set_option maxHeartbeats 8000000 in
theorem rCmp_ok (u1 v1 u2 v2 : W8) (hu1 : u1.ok) (hv1 : v1.ok) (hu2 : u2.ok) (hv2 : v2.ok) (ok1 : ShOk u1.toInt v1.toInt) (ok2 : ShOk u2.toInt v2.toInt) (w : World) :
    Calls Tryz.prog 120 #[.agg #[.int .u64 u1.a0, .int .u64 u1.a1, .int .u64 u1.a2, .int .u64 u1.a3, .int .u64 u1.a4, .int .u64 u1.a5, .int .u64 u1.a6, .int .u64 u1.a7, .int .u64 v1.a0, .int .u64 v1.a1, .int .u64 v1.a2, .int .u64 v1.a3, .int .u64 v1.a4, .int .u64 v1.a5, .int .u64 v1.a6, .int .u64 v1.a7], .agg #[.int .u64 u2.a0, .int .u64 u2.a1, .int .u64 u2.a2, .int .u64 u2.a3, .int .u64 u2.a4, .int .u64 u2.a5, .int .u64 u2.a6, .int .u64 u2.a7, .int .u64 v2.a0, .int .u64 v2.a1, .int .u64 v2.a2, .int .u64 v2.a3, .int .u64 v2.a4, .int .u64 v2.a5, .int .u64 v2.a6, .int .u64 v2.a7]] w
      (fun e w' => e = .returned (.tuple #[.int .i64 (ordR (u1.toInt * v2.toInt - u2.toInt * v1.toInt)), .int .i64 0]) ∧ Lat w w') := by
  have HA := rRight_ok u1 v1 hu1 hv1 ok1
  have HB := rRight_ok u2 v2 hu2 hv2 ok2
  have HX := rShIn_any u1 v1 hu1 hv1
  have HY := rShIn_any u2 v2 hu2 hv2
  clear hu1 hv1 hu2 hv2 ok1 ok2
  go_enter Tryz.func120, Tryz.ntmps120
  go_wp2_with fail
  refine name2 (Q := fun W => Calls _ _ _ W _) ?_
  intro W hl hs k1 k2
  refine (HA W).mono ?_
  rintro e w1 ⟨rfl, l1⟩
  have B2 := k2.later l1
  have a0 := B2.cell 0
  have a1 := B2.cell 1
  have a2 := B2.cell 2
  have a3 := B2.cell 3
  have a4 := B2.cell 4
  have a5 := B2.cell 5
  have a6 := B2.cell 6
  have a7 := B2.cell 7
  have a8 := B2.cell 8
  have a9 := B2.cell 9
  have a10 := B2.cell 10
  have a11 := B2.cell 11
  have a12 := B2.cell 12
  have a13 := B2.cell 13
  have a14 := B2.cell 14
  have a15 := B2.cell 15
  go_wp2_with fail
  refine (HB w1).mono ?_
  rintro e w2 ⟨rfl, l2⟩
  have E1 : Blk w2 w.heap.size 35 #[.int .u64 u1.a0, .int .u64 u1.a1, .int .u64 u1.a2, .int .u64 u1.a3, .int .u64 u1.a4, .int .u64 u1.a5, .int .u64 u1.a6, .int .u64 u1.a7, .int .u64 v1.a0, .int .u64 v1.a1, .int .u64 v1.a2, .int .u64 v1.a3, .int .u64 v1.a4, .int .u64 v1.a5, .int .u64 v1.a6, .int .u64 v1.a7] := k1.later (l1.trans l2)
  have E2 : Blk w2 (w.heap.size + 1) 35 #[.int .u64 u2.a0, .int .u64 u2.a1, .int .u64 u2.a2, .int .u64 u2.a3, .int .u64 u2.a4, .int .u64 u2.a5, .int .u64 u2.a6, .int .u64 u2.a7, .int .u64 v2.a0, .int .u64 v2.a1, .int .u64 v2.a2, .int .u64 v2.a3, .int .u64 v2.a4, .int .u64 v2.a5, .int .u64 v2.a6, .int .u64 v2.a7] := B2.later l2
  have LA := (hl.trans l1).trans l2
  clear a0 a1 a2 a3 a4 a5 a6 a7 a8 a9 a10 a11 a12 a13 a14 a15
  clear k1 k2 B2 l1 l2 hl HA HB
  have hne1 : w.heap.size ∉ ([] : List Nat) := by simp
  have hne2 : w.heap.size + 1 ∉ ([] : List Nat) := by simp
  have a0 := E1.evS hne1 0 rfl
  have a1 := E1.evS hne1 1 rfl
  have a2 := E1.evS hne1 2 rfl
  have a3 := E1.evS hne1 3 rfl
  have a4 := E1.evS hne1 4 rfl
  have a5 := E1.evS hne1 5 rfl
  have a6 := E1.evS hne1 6 rfl
  have a7 := E1.evS hne1 7 rfl
  have a8 := E1.evS hne1 8 rfl
  have a9 := E1.evS hne1 9 rfl
  have a10 := E1.evS hne1 10 rfl
  have a11 := E1.evS hne1 11 rfl
  have a12 := E1.evS hne1 12 rfl
  have a13 := E1.evS hne1 13 rfl
  have a14 := E1.evS hne1 14 rfl
  have a15 := E1.evS hne1 15 rfl
  have d0 := E2.evS hne2 0 rfl
  have d1 := E2.evS hne2 1 rfl
  have d2 := E2.evS hne2 2 rfl
  have d3 := E2.evS hne2 3 rfl
  have d4 := E2.evS hne2 4 rfl
  have d5 := E2.evS hne2 5 rfl
  have d6 := E2.evS hne2 6 rfl
  have d7 := E2.evS hne2 7 rfl
  have d8 := E2.evS hne2 8 rfl
  have d9 := E2.evS hne2 9 rfl
  have d10 := E2.evS hne2 10 rfl
  have d11 := E2.evS hne2 11 rfl
  have d12 := E2.evS hne2 12 rfl
  have d13 := E2.evS hne2 13 rfl
  have d14 := E2.evS hne2 14 rfl
  have d15 := E2.evS hne2 15 rfl
  go_wp2
  have L0 := Lat.drew w2
  have M0 := L0.s ([] : List Nat)
  go_region_held3 (fun w' => LatS w2 ([] : List Nat) w') (first | (with_reducible assumption) | ((repeat refine LatS.set ?_ (by simp) _); (with_reducible assumption)))
    (first
      | (have _h := HX; go_at_call 160; (with_reducible refine (HX _).mono ?_); rintro e w3 ⟨b1, A1, n1, c1, b2, A2, n2, c2, rfl, q1, q2, q3, q4, q5⟩; have L2 := L0.trans q5; have M2 := L2.s ([] : List Nat); clear HX _h)
      | (have _h := HY; go_at_call 160; (with_reducible refine (HY _).mono ?_); rintro e w4 ⟨b3, A3, n3, c3, b4, A4, n4, c4, rfl, r1, r2, r3, r4, r5⟩; have L3 := L2.trans r5; have M3 := L3.s ([] : List Nat); clear HY _h)
      | (go_at_call 159; refine (rrOrder_any b1 A1 n1 c1 _ b2 A2 n2 c2 _ b3 A3 n3 c3 _ b4 A4 n4 c4 _ _ (q1.later r5) (q3.later r5) r1 r3 (by omega) (by omega) (by omega) (by omega)).mono ?_; rintro e w5 ⟨rfl, s5⟩; have L4 := L3.trans s5; have M4 := L4.s ([] : List Nat)))
  go_wp2
  go_ret2
  exact ⟨rfl, LA.trans L4⟩

end Go.Proofs.YtkiaaefkobfkgaaGreat
