/- Several texts in one: RefX, RefY. -/
import Derived.Test.YtogkkhaepfablaaGreatJ23
import Derived.Test.YtogkkhaepfablaaGreatJ25
namespace Go.Proofs.YtogkkhaepfablaaGreat
open Go.RowKit
attribute [local go_sem ↓] Go.wp_at_zero Go.wp_at_succ
set_option maxRecDepth 100000 in
set_option maxHeartbeats 8000000 in
theorem rRight_ok (u v : W8) (hu : u.ok) (hv : v.ok) (hok : ShOk u.toInt v.toInt) (w : World) :
  Calls Tryz.prog 63 #[.agg #[.int .u64 u.a0, .int .u64 u.a1, .int .u64 u.a2, .int .u64 u.a3, .int .u64 u.a4, .int .u64 u.a5, .int .u64 u.a6, .int .u64 u.a7, .int .u64 v.a0, .int .u64 v.a1, .int .u64 v.a2, .int .u64 v.a3, .int .u64 v.a4, .int .u64 v.a5, .int .u64 v.a6, .int .u64 v.a7]] w (fun e w' => e = .returned (.bool true) ∧ Lat w w') := by
 have HI := rIn_any u hu
 have HJ := rIn_any v hv
 have hpos := hok.1
 have HG : Hid ((Int.gcd u.toInt v.toInt : Int) = 1) := by show _ = _; rw [hok.2]; rfl
 clear hu hv hok
 obtain ⟨X, hX⟩ : ∃ X, u.toInt = X := ⟨_, rfl⟩
 obtain ⟨Y, hY⟩ : ∃ Y, v.toInt = Y := ⟨_, rfl⟩
 rw [hX] at HI HG
 rw [hY] at HJ HG hpos
 clear hX hY
 go_enter Tryz.func63, Tryz.ntmps63
 go_wp2_with fail
 refine name1 (Q := fun W => Code.wp _ _ _ _ W) ?_
 intro W1 hlw hs k1
 go_upto_region 1 with (fail)
 have HQ : ∀ wx, Lat W1 wx → Calls Tryz.prog 49 #[.agg #[.int .u64 u.a0, .int .u64 u.a1, .int .u64 u.a2, .int .u64 u.a3, .int .u64 u.a4, .int .u64 u.a5, .int .u64 u.a6, .int .u64 u.a7]] wx (RefPost2 W1 wx X 17) := fun wx hx => (HI wx).mono fun _ _ => RefPost.two hx
 have HR : ∀ wx, Lat W1 wx → Calls Tryz.prog 49 #[.agg #[.int .u64 v.a0, .int .u64 v.a1, .int .u64 v.a2, .int .u64 v.a3, .int .u64 v.a4, .int .u64 v.a5, .int .u64 v.a6, .int .u64 v.a7]] wx (RefPost2 W1 wx Y 17) := fun wx hx => (HJ wx).mono fun _ _ => RefPost.two hx
 have a0 := k1.ever 0 rfl
 have a1 := k1.ever 1 rfl
 have a2 := k1.ever 2 rfl
 have a3 := k1.ever 3 rfl
 have a4 := k1.ever 4 rfl
 have a5 := k1.ever 5 rfl
 have a6 := k1.ever 6 rfl
 have a7 := k1.ever 7 rfl
 have a8 := k1.ever 8 rfl
 have a9 := k1.ever 9 rfl
 have a10 := k1.ever 10 rfl
 have a11 := k1.ever 11 rfl
 have a12 := k1.ever 12 rfl
 have a13 := k1.ever 13 rfl
 have a14 := k1.ever 14 rfl
 have a15 := k1.ever 15 rfl
 clear HI HJ
 go_cut [3, 4] (fun s8 s9 wx => TwoVars W1 X Y 17 17 s8 s9 wx)
 case first =>
  have L0 := Lat.drew W1
  go_region_held3 (fun w' => Lat W1 w') (first | (with_reducible assumption) | ((repeat (first | (with_reducible assumption) | (with_reducible exact Lat.refl _) | (with_reducible refine Lat.trans ?_ (Lat.alloc _ _)) | (with_reducible refine Lat.trans ?_ (Lat.drew _)) | ((with_reducible refine Lat.setCell ?_ ?_ _); rotate_left; (focus (first | omega | (simp; done) | (simp; omega))))))))
   (first
     | (have _h := HQ; go_at_call 49; (with_reducible refine (HQ _ ?_).mono ?_); (repeat (first | assumption | exact Lat.refl _ | refine Lat.trans ?_ (Lat.alloc _ _) | refine Lat.trans ?_ (Lat.drew _))); rintro e w2 ⟨b, A, n, c, rfl, p1, p2, p3, p4, p5⟩; have HQ' := Lib.hid p1; have Z2 := p4.size; clear HQ _h p1; (try (have kA := Blk.later (g := W1.heap.size) (t := 85) (cs := #[.bool false, .slice none 0 0]) (by first | exact Blk.new _ _ _ | exact (Blk.new _ _ _).alloc _ | exact (show Blk (W1.alloc (.cells #[.bool false, .slice none 0 0] 85)) W1.heap.size 85 #[.bool false, .slice none 0 0] from Blk.new _ _ _) | exact (show Blk ((W1.alloc (.cells #[.bool false, .slice none 0 0] 85)).alloc (.cells #[.bool false, .slice none 0 0] 85)) W1.heap.size 85 #[.bool false, .slice none 0 0] from (Blk.new _ _ _).alloc _) ) p3; have kAlt := kA.lt; have kAc0 := kA.cell 0; have kAc1 := kA.cell 1; have kAf0 := kA.frozen 0; have kAf1 := kA.frozen 1)); (try (have kB := Blk.later (g := W1.heap.size + 1) (t := 85) (cs := #[.bool false, .slice none 0 0]) (by first | exact (show Blk ((W1.alloc (.cells #[.bool false, .slice none 0 0] 85)).alloc (.cells #[.bool false, .slice none 0 0] 85)) (W1.heap.size + 1) 85 #[.bool false, .slice none 0 0] from by have hh := Blk.new (W1.alloc (.cells #[.bool false, .slice none 0 0] 85)) 85 #[.bool false, .slice none 0 0]; simpa using hh) | exact Blk.new _ _ _ | (have hh := Blk.new (W1.drew.alloc (.cells #[.bool false, .slice none 0 0] 85)) 85 #[.bool false, .slice none 0 0]; simpa using hh) | exact (Blk.new _ _ _).alloc _ ) p3; have kBlt := kB.lt; have kBc0 := kB.cell 0; have kBc1 := kB.cell 1; have kBf0 := kB.frozen 0; have kBf1 := kB.frozen 1)))
     | (have _h := HR; go_at_call 49; (with_reducible refine (HR _ ?_).mono ?_); (repeat (first | assumption | exact Lat.refl _ | refine Lat.trans ?_ (Lat.alloc _ _) | refine Lat.trans ?_ (Lat.drew _))); rintro e w3 ⟨b', A', n', c', rfl, u1, u2, u3, u4, u5⟩; have HR' := Lib.hid u1; have Z3 := u4.size; have PQ := Lib.hid (HQ'.out.later (w := w3) (by first | exact u3 | exact (Lat.alloc _ _).trans u3 | exact ((Lat.alloc _ _).trans (Lat.alloc _ _)).trans u3)); clear HR _h u1; (try (have mA := Blk.later (g := W1.heap.size) (t := 85) (cs := #[.bool false, .slice none 0 0]) (by first | exact Blk.new _ _ _ | exact (Blk.new _ _ _).alloc _ | exact kA | exact kB | exact kA.alloc _ | exact kB.alloc _ | exact (kA.alloc _).alloc _ ) u3; have mAlt := mA.lt; have mAc0 := mA.cell 0; have mAc1 := mA.cell 1; have mAf0 := mA.frozen 0; have mAf1 := mA.frozen 1)); (try (have mB := Blk.later (g := W1.heap.size + 1) (t := 85) (cs := #[.bool false, .slice none 0 0]) (by first | exact Blk.new _ _ _ | exact (Blk.new _ _ _).alloc _ | exact kA | exact kB | exact kA.alloc _ | exact kB.alloc _ | exact (kA.alloc _).alloc _ ) u3; have mBlt := mB.lt; have mBc0 := mB.cell 0; have mBc1 := mB.cell 1; have mBf0 := mB.frozen 0; have mBf1 := mB.frozen 1)); (try (have mC := Blk.later (g := w2.heap.size) (t := 85) (cs := #[.bool false, .slice none 0 0]) (by first | exact Blk.new _ _ _ | exact (Blk.new _ _ _).alloc _ | exact kA | exact kB | exact kA.alloc _ | exact kB.alloc _ | exact (kA.alloc _).alloc _ ) u3; have mClt := mC.lt; have mCc0 := mC.cell 0; have mCc1 := mC.cell 1; have mCf0 := mC.frozen 0; have mCf1 := mC.frozen 1)); (try (have mD := Blk.later (g := w2.heap.size + 1) (t := 85) (cs := #[.bool false, .slice none 0 0]) (by first | exact Blk.new _ _ _ | (have hh := Blk.new (w2.alloc (.cells #[.bool false, .slice none 0 0] 85)) 85 #[.bool false, .slice none 0 0]; simpa using hh) | exact (Blk.new _ _ _).alloc _ | exact kA | exact kB | exact kA.alloc _ | exact kB.alloc _ | exact (kA.alloc _).alloc _ ) u3; have mDlt := mD.lt; have mDc0 := mD.cell 0; have mDc1 := mD.cell 1; have mDf0 := mD.frozen 0; have mDf1 := mD.frozen 1))))
  all_goals
   go_wp2_with fail
   go_meet
   have P1 := PQ.out
   have P2 := HR'.out
   first
    | (with_reducible exact TwoVars.ff P1 p2 P2 u2 u4)
    | (with_reducible exact TwoVars.ff' P1 p2 P2 u2 u4)
    | ((with_reducible refine TwoVars.pf ?_ P1 p2 P2 u2 u4 ?_) <;> first | (with_reducible exact mA) | (with_reducible exact mB) | (with_reducible exact mC) | (with_reducible exact mD) | omega)
    | ((with_reducible refine TwoVars.fp ?_ P1 p2 P2 u2 u4 ?_) <;> first | (with_reducible exact mA) | (with_reducible exact mB) | (with_reducible exact mC) | (with_reducible exact mD) | omega)
    | ((with_reducible refine TwoVars.of ?_ ?_ ?_ P1 p2 P2 u2 u4 ?_ ?_) <;> first | (with_reducible exact mA) | (with_reducible exact mB) | (with_reducible exact mC) | (with_reducible exact mD) | omega)
 case rest =>
  obtain ⟨g8, g9, b, A, n, c, b', A', n', c', rfl, rfl, l8, l9, B8, B9, hq, hn8, hr, hn9, hL⟩ := hcut
  have hb' : b' = false := by
   cases b' with
   | false => rfl
   | true => exfalso; have := hr.neg_of; omega
  subst hb'
  have hn' : 0 < n' := by
   rcases Nat.eq_zero_or_pos n' with h0 | h0
   ·exfalso
    subst h0
    obtain ⟨_, xs, hxs, _, _, _, hv⟩ := hr
    have : xs = [] := List.eq_nil_of_length_eq_zero hxs.1
    subst this
    simp [sgn, val] at hv
    omega
   ·exact h0
  have d0 := B8.cell 0
  have d1 := B8.cell (0 + 1)
  have d2 := B9.cell 0
  have d3 := B9.cell (0 + 1)
  have LL := hlw.trans hL
  have hq' := Lib.hid hq
  have hr' := Lib.hid hr
  clear a0 a1 a2 a3 a4 a5 a6 a7 a8 a9 a10 a11 a12 a13 a14 a15
  clear hq hr HQ HR
  go_wp2_with fail
  refine (rDivisor_any b A n c X false A' n' c' Y _ hq'.out hr'.out (by omega) (by omega)).mono ?_
  rintro e w5 ⟨b5, A5, n5, c5, rfl, t1, t2, t3⟩
  rw [HG.out] at t1
  go_wp2_with fail
  refine (rOne_yes b5 A5 n5 c5 w5 t1).mono ?_
  rintro e w6 ⟨rfl, v1⟩
  go_wp2
  go_ret
  exact ⟨rfl, (LL.trans t3).trans v1⟩
end Go.Proofs.YtogkkhaepfablaaGreat
namespace Go.Proofs.YtogkkhaepfablaaGreat
open Go.RowKit
attribute [local go_sem ↓] Go.wp_at_zero Go.wp_at_succ
end Go.Proofs.YtogkkhaepfablaaGreat
