/- Several texts in one: RgBad, CoinB. -/
import Derived.Test.YtogkkhaepfablaaGreatJ24
import Derived.Test.YtogkkhaepfablaaGreatK39
import Derived.Test.YtogkkhaepfablaaGreatK37
namespace Go.Proofs.YtogkkhaepfablaaGreat
open Go.RowKit
attribute [local go_sem ↓] Go.wp_at_zero Go.wp_at_succ
set_option maxHeartbeats 1000000 in
theorem rOne_no (b : Bool) (A : Option Addr) (n c : Nat) (z : Int) (w : World) (h : Rg w b A n c z) (hz : 0 ≤ z) (h1 : z ≠ 1) :
  Calls Tryz.prog 88 #[.agg #[.bool b, .slice A n c]] w (fun e w' => e = .returned (.bool false) ∧ Lat w w') := by
 have hb : b = false := by
  cases b with
  | false => rfl
  | true => have := h.neg_of; omega
 subst hb
 obtain ⟨hc, xs, hs, hr, hnz, _, hv⟩ := h
 by_cases hn : n = 1
 ·subst hn
  obtain ⟨a, rfl, hb, hcell⟩ := hs.2 (by omega)
  have hl := hs.1
  match xs, hl with
  | [x], _ =>
    have hx : x = z := by rw [hv]; simp [sgn, val]
    have hcell := hcell 0 x rfl
    have hcell : w.cell? a = some (.int .i64 z) := by rw [← hx]; simpa [Addr.add] using hcell
    have hne : (z == 1) = false := by simpa using h1
    clear hv hr hnz hx hs
    go_enter Tryz.func88, Tryz.ntmps88
    go_wp2
    go_ret
    exact ⟨rfl, Lat.alloc _ _⟩
 ·have hne : (((n : Nat) : Int) == 1) = false := by rw [beq_eq_false_iff_ne]; omega
  clear hv hr hnz hs
  go_enter Tryz.func88, Tryz.ntmps88
  go_wp2
  go_ret
  exact ⟨rfl, Lat.alloc _ _⟩
theorem Rg.pos_of {w : World} {A : Option Addr} {n c : Nat} {z : Int} (h : Rg w false A n c z) (hn : 0 < n) : 0 < z := by
 obtain ⟨hc, xs, hs, hr, hnz, _, hv⟩ := h
 have hne : xs ≠ [] := by intro e; have := hs.1; rw [e] at this; simp at this; omega
 have h0 : 0 < val B32 xs := val_pos (by decide) hr hnz hne
 rw [hv]
 exact h0
set_option maxRecDepth 100000 in
set_option maxHeartbeats 8000000 in
theorem rRight_bad (u v : W8) (hu : u.ok) (hv : v.ok) (hok : ¬ ShOk u.toInt v.toInt) (w : World) :
  Calls Tryz.prog 63 #[.agg #[.int .u64 u.a0, .int .u64 u.a1, .int .u64 u.a2, .int .u64 u.a3, .int .u64 u.a4, .int .u64 u.a5, .int .u64 u.a6, .int .u64 u.a7, .int .u64 v.a0, .int .u64 v.a1, .int .u64 v.a2, .int .u64 v.a3, .int .u64 v.a4, .int .u64 v.a5, .int .u64 v.a6, .int .u64 v.a7]] w (fun e w' => e = .returned (.bool false) ∧ Lat w w') := by
 have HI := rIn_any u hu
 have HJ := rIn_any v hv
 have HG := Lib.hid hok
 clear hu hv hok
 obtain ⟨X, hX⟩ : ∃ X, u.toInt = X := ⟨_, rfl⟩
 obtain ⟨Y, hY⟩ : ∃ Y, v.toInt = Y := ⟨_, rfl⟩
 rw [hX] at HI HG
 rw [hY] at HJ HG
 clear hX hY
 go_enter Tryz.func63, Tryz.ntmps63
 go_wp2_with fail
 refine name1 (Q := fun W => Code.wp _ _ _ _ W) ?_
 intro W1 hlw hs k1
 go_upto_region 1 with (fail)
 have HQ : ∀ wx, Lat W1 wx → Calls Tryz.prog 49 #[.agg #[.int .u64 u.a0, .int .u64 u.a1, .int .u64 u.a2, .int .u64 u.a3, .int .u64 u.a4, .int .u64 u.a5, .int .u64 u.a6, .int .u64 u.a7]] wx (RefPost2 W1 wx X 17) := fun wx hx => (HI wx).mono fun _ _ => RefPost.two hx
 have HR : ∀ wx, Lat W1 wx → Calls Tryz.prog 49 #[.agg #[.int .u64 v.a0, .int .u64 v.a1, .int .u64 v.a2, .int .u64 v.a3, .int .u64 v.a4, .int .u64 v.a5, .int .u64 v.a6, .int .u64 v.a7]] wx (RefPost2 W1 wx Y 17) := fun wx hx => (HJ wx).mono fun _ _ => RefPost.two hx
 have a0 := k1.ever 0 rfl
 have a1 := k1.ever 1 rfl
 have a2 := k1.ever 2 rfl
 have a3 := k1.ever 3 rfl
 have a4 := k1.ever 4 rfl
 have a5 := k1.ever 5 rfl
 have a6 := k1.ever 6 rfl
 have a7 := k1.ever 7 rfl
 have a8 := k1.ever 8 rfl
 have a9 := k1.ever 9 rfl
 have a10 := k1.ever 10 rfl
 have a11 := k1.ever 11 rfl
 have a12 := k1.ever 12 rfl
 have a13 := k1.ever 13 rfl
 have a14 := k1.ever 14 rfl
 have a15 := k1.ever 15 rfl
 clear HI HJ
 go_cut [3, 4] (fun s8 s9 wx => TwoVars W1 X Y 17 17 s8 s9 wx)
 case first =>
  have L0 := Lat.drew W1
  go_region_held3 (fun w' => Lat W1 w') (first | (with_reducible assumption) | ((repeat (first | (with_reducible assumption) | (with_reducible exact Lat.refl _) | (with_reducible refine Lat.trans ?_ (Lat.alloc _ _)) | (with_reducible refine Lat.trans ?_ (Lat.drew _)) | ((with_reducible refine Lat.setCell ?_ ?_ _); rotate_left; (focus (first | omega | (simp; done) | (simp; omega))))))))
   (first
     | (have _h := HQ; go_at_call 49; (with_reducible refine (HQ _ ?_).mono ?_); (repeat (first | assumption | exact Lat.refl _ | refine Lat.trans ?_ (Lat.alloc _ _) | refine Lat.trans ?_ (Lat.drew _))); rintro e w2 ⟨b, A, n, c, rfl, p1, p2, p3, p4, p5⟩; have HQ' := Lib.hid p1; have Z2 := p4.size; clear HQ _h p1; (try (have kA := Blk.later (g := W1.heap.size) (t := 85) (cs := #[.bool false, .slice none 0 0]) (by first | exact Blk.new _ _ _ | exact (Blk.new _ _ _).alloc _ | exact (show Blk (W1.alloc (.cells #[.bool false, .slice none 0 0] 85)) W1.heap.size 85 #[.bool false, .slice none 0 0] from Blk.new _ _ _) | exact (show Blk ((W1.alloc (.cells #[.bool false, .slice none 0 0] 85)).alloc (.cells #[.bool false, .slice none 0 0] 85)) W1.heap.size 85 #[.bool false, .slice none 0 0] from (Blk.new _ _ _).alloc _) ) p3; have kAlt := kA.lt; have kAc0 := kA.cell 0; have kAc1 := kA.cell 1; have kAf0 := kA.frozen 0; have kAf1 := kA.frozen 1)); (try (have kB := Blk.later (g := W1.heap.size + 1) (t := 85) (cs := #[.bool false, .slice none 0 0]) (by first | exact (show Blk ((W1.alloc (.cells #[.bool false, .slice none 0 0] 85)).alloc (.cells #[.bool false, .slice none 0 0] 85)) (W1.heap.size + 1) 85 #[.bool false, .slice none 0 0] from by have hh := Blk.new (W1.alloc (.cells #[.bool false, .slice none 0 0] 85)) 85 #[.bool false, .slice none 0 0]; simpa using hh) | exact Blk.new _ _ _ | (have hh := Blk.new (W1.drew.alloc (.cells #[.bool false, .slice none 0 0] 85)) 85 #[.bool false, .slice none 0 0]; simpa using hh) | exact (Blk.new _ _ _).alloc _ ) p3; have kBlt := kB.lt; have kBc0 := kB.cell 0; have kBc1 := kB.cell 1; have kBf0 := kB.frozen 0; have kBf1 := kB.frozen 1)))
     | (have _h := HR; go_at_call 49; (with_reducible refine (HR _ ?_).mono ?_); (repeat (first | assumption | exact Lat.refl _ | refine Lat.trans ?_ (Lat.alloc _ _) | refine Lat.trans ?_ (Lat.drew _))); rintro e w3 ⟨b', A', n', c', rfl, u1, u2, u3, u4, u5⟩; have HR' := Lib.hid u1; have Z3 := u4.size; have PQ := Lib.hid (HQ'.out.later (w := w3) (by first | exact u3 | exact (Lat.alloc _ _).trans u3 | exact ((Lat.alloc _ _).trans (Lat.alloc _ _)).trans u3)); clear HR _h u1; (try (have mA := Blk.later (g := W1.heap.size) (t := 85) (cs := #[.bool false, .slice none 0 0]) (by first | exact Blk.new _ _ _ | exact (Blk.new _ _ _).alloc _ | exact kA | exact kB | exact kA.alloc _ | exact kB.alloc _ | exact (kA.alloc _).alloc _ ) u3; have mAlt := mA.lt; have mAc0 := mA.cell 0; have mAc1 := mA.cell 1; have mAf0 := mA.frozen 0; have mAf1 := mA.frozen 1)); (try (have mB := Blk.later (g := W1.heap.size + 1) (t := 85) (cs := #[.bool false, .slice none 0 0]) (by first | exact Blk.new _ _ _ | exact (Blk.new _ _ _).alloc _ | exact kA | exact kB | exact kA.alloc _ | exact kB.alloc _ | exact (kA.alloc _).alloc _ ) u3; have mBlt := mB.lt; have mBc0 := mB.cell 0; have mBc1 := mB.cell 1; have mBf0 := mB.frozen 0; have mBf1 := mB.frozen 1)); (try (have mC := Blk.later (g := w2.heap.size) (t := 85) (cs := #[.bool false, .slice none 0 0]) (by first | exact Blk.new _ _ _ | exact (Blk.new _ _ _).alloc _ | exact kA | exact kB | exact kA.alloc _ | exact kB.alloc _ | exact (kA.alloc _).alloc _ ) u3; have mClt := mC.lt; have mCc0 := mC.cell 0; have mCc1 := mC.cell 1; have mCf0 := mC.frozen 0; have mCf1 := mC.frozen 1)); (try (have mD := Blk.later (g := w2.heap.size + 1) (t := 85) (cs := #[.bool false, .slice none 0 0]) (by first | exact Blk.new _ _ _ | (have hh := Blk.new (w2.alloc (.cells #[.bool false, .slice none 0 0] 85)) 85 #[.bool false, .slice none 0 0]; simpa using hh) | exact (Blk.new _ _ _).alloc _ | exact kA | exact kB | exact kA.alloc _ | exact kB.alloc _ | exact (kA.alloc _).alloc _ ) u3; have mDlt := mD.lt; have mDc0 := mD.cell 0; have mDc1 := mD.cell 1; have mDf0 := mD.frozen 0; have mDf1 := mD.frozen 1))))
  all_goals
   go_wp2_with fail
   go_meet
   have P1 := PQ.out
   have P2 := HR'.out
   first
    | (with_reducible exact TwoVars.ff P1 p2 P2 u2 u4)
    | (with_reducible exact TwoVars.ff' P1 p2 P2 u2 u4)
    | ((with_reducible refine TwoVars.pf ?_ P1 p2 P2 u2 u4 ?_) <;> first | (with_reducible exact mA) | (with_reducible exact mB) | (with_reducible exact mC) | (with_reducible exact mD) | omega)
    | ((with_reducible refine TwoVars.fp ?_ P1 p2 P2 u2 u4 ?_) <;> first | (with_reducible exact mA) | (with_reducible exact mB) | (with_reducible exact mC) | (with_reducible exact mD) | omega)
    | ((with_reducible refine TwoVars.of ?_ ?_ ?_ P1 p2 P2 u2 u4 ?_ ?_) <;> first | (with_reducible exact mA) | (with_reducible exact mB) | (with_reducible exact mC) | (with_reducible exact mD) | omega)
 case rest =>
  obtain ⟨g8, g9, b, A, n, c, b', A', n', c', rfl, rfl, l8, l9, B8, B9, hq, hn8, hr, hn9, hL⟩ := hcut
  have d0 := B8.cell 0
  have d1 := B8.cell (0 + 1)
  have d2 := B9.cell 0
  have d3 := B9.cell (0 + 1)
  have LL := hlw.trans hL
  clear a0 a1 a2 a3 a4 a5 a6 a7 a8 a9 a10 a11 a12 a13 a14 a15
  cases b' with
  | true =>
    clear hq hr HQ HR HG
    go_wp2
    go_ret
    exact ⟨rfl, LL⟩
  | false =>
    rcases Nat.eq_zero_or_pos n' with h0 | h0
    ·subst h0
     clear hq hr HQ HR HG
     go_wp2
     go_ret
     exact ⟨rfl, LL⟩
    ·have hq' := Lib.hid hq
     have hr' := Lib.hid hr
     have hY : 0 < Y := hr.pos_of h0
     have hgc : (Int.gcd X Y : Int) ≠ 1 := fun h => HG.out ⟨hY, by omega⟩
     have hg0 : (0 : Int) ≤ (Int.gcd X Y : Int) := Int.natCast_nonneg _
     clear hq hr HQ HR HG hY
     go_wp2_with fail
     refine (rDivisor_any b A n c X false A' n' c' Y _ hq'.out hr'.out (by omega) (by omega)).mono ?_
     rintro e w5 ⟨b5, A5, n5, c5, rfl, t1, t2, t3⟩
     generalize (Int.gcd X Y : Int) = G at hgc hg0 t1
     go_wp2_with fail
     refine (rOne_no b5 A5 n5 c5 G w5 t1 hg0 hgc).mono ?_
     rintro e w6 ⟨rfl, v1⟩
     go_wp2
     go_ret
     exact ⟨rfl, (LL.trans t3).trans v1⟩
end Go.Proofs.YtogkkhaepfablaaGreat
namespace Go.Proofs.YtogkkhaepfablaaGreat
open Go.RowKit Go.Shelf
set_option linter.unusedSimpArgs false
set_option linter.unusedVariables false
set_option maxRecDepth 100000 in
set_option maxHeartbeats 8000000 in
theorem coin_bad (s : Nat) (u v : W8) (HK : ∀ w, Calls Tryz.prog 58 #[.agg #[.int .u64 u.a0, .int .u64 u.a1, .int .u64 u.a2, .int .u64 u.a3, .int .u64 u.a4, .int .u64 u.a5, .int .u64 u.a6, .int .u64 u.a7, .int .u64 v.a0, .int .u64 v.a1, .int .u64 v.a2, .int .u64 v.a3, .int .u64 v.a4, .int .u64 v.a5, .int .u64 v.a6, .int .u64 v.a7]] w (fun e w' => e = .returned (.int .i64 20) ∧ Lat w w')) (w : World) :
  Calls Tryz.prog 21 #[.agg #[.int .u64 s], .agg #[.int .u64 u.a0, .int .u64 u.a1, .int .u64 u.a2, .int .u64 u.a3, .int .u64 u.a4, .int .u64 u.a5, .int .u64 u.a6, .int .u64 u.a7, .int .u64 v.a0, .int .u64 v.a1, .int .u64 v.a2, .int .u64 v.a3, .int .u64 v.a4, .int .u64 v.a5, .int .u64 v.a6, .int .u64 v.a7]] w (CoinEnd w false 0 20) := by
 go_enter Tryz.func21, Tryz.ntmps21
 go_wp2_with fail
 refine name3 (Q := fun W => Calls _ _ _ W _) ?_
 intro W1 l1 hs1 k2 k3 k5
 refine (HK W1).mono ?_
 rintro e W2 ⟨rfl, l2⟩
 replace k2 := k2.later l2
 replace k3 := k3.later l2
 replace k5 := k5.later l2
 have L2 := l1.trans l2
 have hs2 : w.heap.size + 3 ≤ W2.heap.size := by have := l2.size; omega
 clear l1 l2 hs1 HK
 have c5 : W2.cell? ⟨w.heap.size + 1 + 1, 0, none⟩ = some (.int .u64 0) := k5.cell 0
 have f5 := k5.frozen 0
 have h5 := k5.lt
 go_wp2
 refine name_set (Q := fun W => bodyPost _ _ _ _ _ W) k5 ?_
 intro X3 j5 _ _ l9
 have c6 : X3.cell? ⟨w.heap.size + 1 + 1, 0, none⟩ = some (.int .u64 0) := j5.cell 0
 refine bodyPost_ret (v := .tuple #[.bool false, .agg #[.int .u64 0], .int .i64 20]) (by simp [results, Tryz.results21, go_sem, c6]) rfl ?_
 exact ⟨rfl, l9.narrow L2 (by omega)⟩
set_option maxRecDepth 100000 in
set_option maxHeartbeats 8000000 in
theorem coin_neg (s : Nat) (u v : W8) (HK : ∀ w, Calls Tryz.prog 58 #[.agg #[.int .u64 u.a0, .int .u64 u.a1, .int .u64 u.a2, .int .u64 u.a3, .int .u64 u.a4, .int .u64 u.a5, .int .u64 u.a6, .int .u64 u.a7, .int .u64 v.a0, .int .u64 v.a1, .int .u64 v.a2, .int .u64 v.a3, .int .u64 v.a4, .int .u64 v.a5, .int .u64 v.a6, .int .u64 v.a7]] w (fun e w' => e = .returned (.int .i64 0) ∧ Lat w w')) (sn : Int) (hsn : sn < 0) (HG : ∀ w, Calls Tryz.prog 23 #[.agg #[.int .u64 u.a0, .int .u64 u.a1, .int .u64 u.a2, .int .u64 u.a3, .int .u64 u.a4, .int .u64 u.a5, .int .u64 u.a6, .int .u64 u.a7]] w (fun e w' => e = .returned (.int .i64 sn) ∧ Lat w w')) (w : World) :
  Calls Tryz.prog 21 #[.agg #[.int .u64 s], .agg #[.int .u64 u.a0, .int .u64 u.a1, .int .u64 u.a2, .int .u64 u.a3, .int .u64 u.a4, .int .u64 u.a5, .int .u64 u.a6, .int .u64 u.a7, .int .u64 v.a0, .int .u64 v.a1, .int .u64 v.a2, .int .u64 v.a3, .int .u64 v.a4, .int .u64 v.a5, .int .u64 v.a6, .int .u64 v.a7]] w (CoinEnd w false 0 2) := by
 have hd1 : decide (sn < 0) = true := decide_eq_true hsn
 go_enter Tryz.func21, Tryz.ntmps21
 go_wp2_with fail
 refine name3 (Q := fun W => Calls _ _ _ W _) ?_
 intro W1 l1 hs1 k2 k3 k5
 refine (HK W1).mono ?_
 rintro e W2 ⟨rfl, l2⟩
 replace k2 := k2.later l2
 replace k3 := k3.later l2
 replace k5 := k5.later l2
 have L2 := l1.trans l2
 have hs2 : w.heap.size + 3 ≤ W2.heap.size := by have := l2.size; omega
 clear l1 l2 hs1 HK
 have d0 := k3.cell 0
 have d1 := k3.cell 1
 have d2 := k3.cell 2
 have d3 := k3.cell 3
 have d4 := k3.cell 4
 have d5 := k3.cell 5
 have d6 := k3.cell 6
 have d7 := k3.cell 7
 go_wp2_with fail
 refine (HG W2).mono ?_
 rintro e W3 ⟨rfl, l3⟩
 replace k2 := k2.later l3
 replace k3 := k3.later l3
 replace k5 := k5.later l3
 have L3 := L2.trans l3
 have hs3 : w.heap.size + 3 ≤ W3.heap.size := by have := l3.size; omega
 clear d0 d1 d2 d3 d4 d5 d6 d7
 clear l3 L2 hs2 HG
 have c5 : W3.cell? ⟨w.heap.size + 1 + 1, 0, none⟩ = some (.int .u64 0) := k5.cell 0
 have f5 := k5.frozen 0
 have h5 := k5.lt
 go_wp2
 refine name_set (Q := fun W => bodyPost _ _ _ _ _ W) k5 ?_
 intro X3 j5 _ _ l9
 have c6 : X3.cell? ⟨w.heap.size + 1 + 1, 0, none⟩ = some (.int .u64 0) := j5.cell 0
 refine bodyPost_ret (v := .tuple #[.bool false, .agg #[.int .u64 0], .int .i64 2]) (by simp [results, Tryz.results21, go_sem, c6]) rfl ?_
 exact ⟨rfl, l9.narrow L3 (by omega)⟩
set_option maxRecDepth 100000 in
set_option maxHeartbeats 8000000 in
theorem coin_over (s : Nat) (u v : W8) (HK : ∀ w, Calls Tryz.prog 58 #[.agg #[.int .u64 u.a0, .int .u64 u.a1, .int .u64 u.a2, .int .u64 u.a3, .int .u64 u.a4, .int .u64 u.a5, .int .u64 u.a6, .int .u64 u.a7, .int .u64 v.a0, .int .u64 v.a1, .int .u64 v.a2, .int .u64 v.a3, .int .u64 v.a4, .int .u64 v.a5, .int .u64 v.a6, .int .u64 v.a7]] w (fun e w' => e = .returned (.int .i64 0) ∧ Lat w w')) (sn : Int) (hsn : 0 ≤ sn) (HG : ∀ w, Calls Tryz.prog 23 #[.agg #[.int .u64 u.a0, .int .u64 u.a1, .int .u64 u.a2, .int .u64 u.a3, .int .u64 u.a4, .int .u64 u.a5, .int .u64 u.a6, .int .u64 u.a7]] w (fun e w' => e = .returned (.int .i64 sn) ∧ Lat w w')) (cm : Int) (hcm : 0 < cm) (HC : ∀ w, Calls Tryz.prog 24 #[.agg #[.int .u64 u.a0, .int .u64 u.a1, .int .u64 u.a2, .int .u64 u.a3, .int .u64 u.a4, .int .u64 u.a5, .int .u64 u.a6, .int .u64 u.a7], .agg #[.int .u64 v.a0, .int .u64 v.a1, .int .u64 v.a2, .int .u64 v.a3, .int .u64 v.a4, .int .u64 v.a5, .int .u64 v.a6, .int .u64 v.a7]] w (fun e w' => e = .returned (.int .i64 cm) ∧ Lat w w')) (w : World) :
  Calls Tryz.prog 21 #[.agg #[.int .u64 s], .agg #[.int .u64 u.a0, .int .u64 u.a1, .int .u64 u.a2, .int .u64 u.a3, .int .u64 u.a4, .int .u64 u.a5, .int .u64 u.a6, .int .u64 u.a7, .int .u64 v.a0, .int .u64 v.a1, .int .u64 v.a2, .int .u64 v.a3, .int .u64 v.a4, .int .u64 v.a5, .int .u64 v.a6, .int .u64 v.a7]] w (CoinEnd w false 0 2) := by
 have hd1 : decide (sn < 0) = false := decide_eq_false (by omega)
 have hd2 : decide (0 < cm) = true := decide_eq_true hcm
 go_enter Tryz.func21, Tryz.ntmps21
 go_wp2_with fail
 refine name3 (Q := fun W => Calls _ _ _ W _) ?_
 intro W1 l1 hs1 k2 k3 k5
 refine (HK W1).mono ?_
 rintro e W2 ⟨rfl, l2⟩
 replace k2 := k2.later l2
 replace k3 := k3.later l2
 replace k5 := k5.later l2
 have L2 := l1.trans l2
 have hs2 : w.heap.size + 3 ≤ W2.heap.size := by have := l2.size; omega
 clear l1 l2 hs1 HK
 have d0 := k3.cell 0
 have d1 := k3.cell 1
 have d2 := k3.cell 2
 have d3 := k3.cell 3
 have d4 := k3.cell 4
 have d5 := k3.cell 5
 have d6 := k3.cell 6
 have d7 := k3.cell 7
 go_wp2_with fail
 refine (HG W2).mono ?_
 rintro e W3 ⟨rfl, l3⟩
 replace k2 := k2.later l3
 replace k3 := k3.later l3
 replace k5 := k5.later l3
 have L3 := L2.trans l3
 have hs3 : w.heap.size + 3 ≤ W3.heap.size := by have := l3.size; omega
 clear d0 d1 d2 d3 d4 d5 d6 d7
 clear l3 L2 hs2 HG
 have d0 := k3.cell 0
 have d1 := k3.cell 1
 have d2 := k3.cell 2
 have d3 := k3.cell 3
 have d4 := k3.cell 4
 have d5 := k3.cell 5
 have d6 := k3.cell 6
 have d7 := k3.cell 7
 have d8 := k3.cell 8
 have d9 := k3.cell 9
 have d10 := k3.cell 10
 have d11 := k3.cell 11
 have d12 := k3.cell 12
 have d13 := k3.cell 13
 have d14 := k3.cell 14
 have d15 := k3.cell 15
 go_wp2_with fail
 refine (HC W3).mono ?_
 rintro e W4 ⟨rfl, l4⟩
 replace k2 := k2.later l4
 replace k3 := k3.later l4
 replace k5 := k5.later l4
 have L4 := L3.trans l4
 have hs4 : w.heap.size + 3 ≤ W4.heap.size := by have := l4.size; omega
 clear d0 d1 d2 d3 d4 d5 d6 d7 d8 d9 d10 d11 d12 d13 d14 d15
 clear l4 L3 hs3 HC
 have c5 : W4.cell? ⟨w.heap.size + 1 + 1, 0, none⟩ = some (.int .u64 0) := k5.cell 0
 have f5 := k5.frozen 0
 have h5 := k5.lt
 go_wp2
 refine name_set (Q := fun W => bodyPost _ _ _ _ _ W) k5 ?_
 intro X3 j5 _ _ l9
 have c6 : X3.cell? ⟨w.heap.size + 1 + 1, 0, none⟩ = some (.int .u64 0) := j5.cell 0
 refine bodyPost_ret (v := .tuple #[.bool false, .agg #[.int .u64 0], .int .i64 2]) (by simp [results, Tryz.results21, go_sem, c6]) rfl ?_
 exact ⟨rfl, l9.narrow L4 (by omega)⟩
set_option maxRecDepth 100000 in
set_option maxHeartbeats 8000000 in
theorem rcoin_bad (s : Nat) (u v : W8) (HK : ∀ w, Calls Tryz.prog 63 #[.agg #[.int .u64 u.a0, .int .u64 u.a1, .int .u64 u.a2, .int .u64 u.a3, .int .u64 u.a4, .int .u64 u.a5, .int .u64 u.a6, .int .u64 u.a7, .int .u64 v.a0, .int .u64 v.a1, .int .u64 v.a2, .int .u64 v.a3, .int .u64 v.a4, .int .u64 v.a5, .int .u64 v.a6, .int .u64 v.a7]] w (fun e w' => e = .returned (.bool false) ∧ Lat w w')) (w : World) :
  Calls Tryz.prog 29 #[.agg #[.int .u64 s], .agg #[.int .u64 u.a0, .int .u64 u.a1, .int .u64 u.a2, .int .u64 u.a3, .int .u64 u.a4, .int .u64 u.a5, .int .u64 u.a6, .int .u64 u.a7, .int .u64 v.a0, .int .u64 v.a1, .int .u64 v.a2, .int .u64 v.a3, .int .u64 v.a4, .int .u64 v.a5, .int .u64 v.a6, .int .u64 v.a7]] w (CoinEnd w false 0 20) := by
 go_enter Tryz.func29, Tryz.ntmps29
 go_wp2_with fail
 refine name3 (Q := fun W => Calls _ _ _ W _) ?_
 intro W1 l1 hs1 k2 k3 k5
 refine (HK W1).mono ?_
 rintro e W2 ⟨rfl, l2⟩
 replace k2 := k2.later l2
 replace k3 := k3.later l2
 replace k5 := k5.later l2
 have L2 := l1.trans l2
 have hs2 : w.heap.size + 3 ≤ W2.heap.size := by have := l2.size; omega
 clear l1 l2 hs1 HK
 have c5 : W2.cell? ⟨w.heap.size + 1 + 1, 0, none⟩ = some (.int .u64 0) := k5.cell 0
 have f5 := k5.frozen 0
 have h5 := k5.lt
 go_wp2
 refine name_set (Q := fun W => bodyPost _ _ _ _ _ W) k5 ?_
 intro X3 j5 _ _ l9
 have c6 : X3.cell? ⟨w.heap.size + 1 + 1, 0, none⟩ = some (.int .u64 0) := j5.cell 0
 refine bodyPost_ret (v := .tuple #[.bool false, .agg #[.int .u64 0], .int .i64 20]) (by simp [results, Tryz.results29, go_sem, c6]) rfl ?_
 exact ⟨rfl, l9.narrow L2 (by omega)⟩
set_option maxRecDepth 100000 in
set_option maxHeartbeats 8000000 in
theorem rcoin_neg (s : Nat) (u v : W8) (HK : ∀ w, Calls Tryz.prog 63 #[.agg #[.int .u64 u.a0, .int .u64 u.a1, .int .u64 u.a2, .int .u64 u.a3, .int .u64 u.a4, .int .u64 u.a5, .int .u64 u.a6, .int .u64 u.a7, .int .u64 v.a0, .int .u64 v.a1, .int .u64 v.a2, .int .u64 v.a3, .int .u64 v.a4, .int .u64 v.a5, .int .u64 v.a6, .int .u64 v.a7]] w (fun e w' => e = .returned (.bool true) ∧ Lat w w')) (sn : Int) (hsn : sn < 0) (HG : ∀ w, Calls Tryz.prog 48 #[.agg #[.int .u64 u.a0, .int .u64 u.a1, .int .u64 u.a2, .int .u64 u.a3, .int .u64 u.a4, .int .u64 u.a5, .int .u64 u.a6, .int .u64 u.a7]] w (fun e w' => e = .returned (.int .i64 sn) ∧ Lat w w')) (w : World) :
  Calls Tryz.prog 29 #[.agg #[.int .u64 s], .agg #[.int .u64 u.a0, .int .u64 u.a1, .int .u64 u.a2, .int .u64 u.a3, .int .u64 u.a4, .int .u64 u.a5, .int .u64 u.a6, .int .u64 u.a7, .int .u64 v.a0, .int .u64 v.a1, .int .u64 v.a2, .int .u64 v.a3, .int .u64 v.a4, .int .u64 v.a5, .int .u64 v.a6, .int .u64 v.a7]] w (CoinEnd w false 0 2) := by
 have hd1 : decide (sn < 0) = true := decide_eq_true hsn
 go_enter Tryz.func29, Tryz.ntmps29
 go_wp2_with fail
 refine name3 (Q := fun W => Calls _ _ _ W _) ?_
 intro W1 l1 hs1 k2 k3 k5
 refine (HK W1).mono ?_
 rintro e W2 ⟨rfl, l2⟩
 replace k2 := k2.later l2
 replace k3 := k3.later l2
 replace k5 := k5.later l2
 have L2 := l1.trans l2
 have hs2 : w.heap.size + 3 ≤ W2.heap.size := by have := l2.size; omega
 clear l1 l2 hs1 HK
 have d0 := k3.cell 0
 have d1 := k3.cell 1
 have d2 := k3.cell 2
 have d3 := k3.cell 3
 have d4 := k3.cell 4
 have d5 := k3.cell 5
 have d6 := k3.cell 6
 have d7 := k3.cell 7
 go_wp2_with fail
 refine (HG W2).mono ?_
 rintro e W3 ⟨rfl, l3⟩
 replace k2 := k2.later l3
 replace k3 := k3.later l3
 replace k5 := k5.later l3
 have L3 := L2.trans l3
 have hs3 : w.heap.size + 3 ≤ W3.heap.size := by have := l3.size; omega
 clear d0 d1 d2 d3 d4 d5 d6 d7
 clear l3 L2 hs2 HG
 have c5 : W3.cell? ⟨w.heap.size + 1 + 1, 0, none⟩ = some (.int .u64 0) := k5.cell 0
 have f5 := k5.frozen 0
 have h5 := k5.lt
 go_wp2
 refine name_set (Q := fun W => bodyPost _ _ _ _ _ W) k5 ?_
 intro X3 j5 _ _ l9
 have c6 : X3.cell? ⟨w.heap.size + 1 + 1, 0, none⟩ = some (.int .u64 0) := j5.cell 0
 refine bodyPost_ret (v := .tuple #[.bool false, .agg #[.int .u64 0], .int .i64 2]) (by simp [results, Tryz.results29, go_sem, c6]) rfl ?_
 exact ⟨rfl, l9.narrow L3 (by omega)⟩
set_option maxRecDepth 100000 in
set_option maxHeartbeats 8000000 in
theorem rcoin_over (s : Nat) (u v : W8) (HK : ∀ w, Calls Tryz.prog 63 #[.agg #[.int .u64 u.a0, .int .u64 u.a1, .int .u64 u.a2, .int .u64 u.a3, .int .u64 u.a4, .int .u64 u.a5, .int .u64 u.a6, .int .u64 u.a7, .int .u64 v.a0, .int .u64 v.a1, .int .u64 v.a2, .int .u64 v.a3, .int .u64 v.a4, .int .u64 v.a5, .int .u64 v.a6, .int .u64 v.a7]] w (fun e w' => e = .returned (.bool true) ∧ Lat w w')) (sn : Int) (hsn : 0 ≤ sn) (HG : ∀ w, Calls Tryz.prog 48 #[.agg #[.int .u64 u.a0, .int .u64 u.a1, .int .u64 u.a2, .int .u64 u.a3, .int .u64 u.a4, .int .u64 u.a5, .int .u64 u.a6, .int .u64 u.a7]] w (fun e w' => e = .returned (.int .i64 sn) ∧ Lat w w')) (cm : Int) (hcm : 0 < cm) (HC : ∀ w, Calls Tryz.prog 64 #[.agg #[.int .u64 u.a0, .int .u64 u.a1, .int .u64 u.a2, .int .u64 u.a3, .int .u64 u.a4, .int .u64 u.a5, .int .u64 u.a6, .int .u64 u.a7], .agg #[.int .u64 v.a0, .int .u64 v.a1, .int .u64 v.a2, .int .u64 v.a3, .int .u64 v.a4, .int .u64 v.a5, .int .u64 v.a6, .int .u64 v.a7]] w (fun e w' => e = .returned (.int .i64 cm) ∧ Lat w w')) (w : World) :
  Calls Tryz.prog 29 #[.agg #[.int .u64 s], .agg #[.int .u64 u.a0, .int .u64 u.a1, .int .u64 u.a2, .int .u64 u.a3, .int .u64 u.a4, .int .u64 u.a5, .int .u64 u.a6, .int .u64 u.a7, .int .u64 v.a0, .int .u64 v.a1, .int .u64 v.a2, .int .u64 v.a3, .int .u64 v.a4, .int .u64 v.a5, .int .u64 v.a6, .int .u64 v.a7]] w (CoinEnd w false 0 2) := by
 have hd1 : decide (sn < 0) = false := decide_eq_false (by omega)
 have hd2 : decide (0 < cm) = true := decide_eq_true hcm
 go_enter Tryz.func29, Tryz.ntmps29
 go_wp2_with fail
 refine name3 (Q := fun W => Calls _ _ _ W _) ?_
 intro W1 l1 hs1 k2 k3 k5
 refine (HK W1).mono ?_
 rintro e W2 ⟨rfl, l2⟩
 replace k2 := k2.later l2
 replace k3 := k3.later l2
 replace k5 := k5.later l2
 have L2 := l1.trans l2
 have hs2 : w.heap.size + 3 ≤ W2.heap.size := by have := l2.size; omega
 clear l1 l2 hs1 HK
 have d0 := k3.cell 0
 have d1 := k3.cell 1
 have d2 := k3.cell 2
 have d3 := k3.cell 3
 have d4 := k3.cell 4
 have d5 := k3.cell 5
 have d6 := k3.cell 6
 have d7 := k3.cell 7
 go_wp2_with fail
 refine (HG W2).mono ?_
 rintro e W3 ⟨rfl, l3⟩
 replace k2 := k2.later l3
 replace k3 := k3.later l3
 replace k5 := k5.later l3
 have L3 := L2.trans l3
 have hs3 : w.heap.size + 3 ≤ W3.heap.size := by have := l3.size; omega
 clear d0 d1 d2 d3 d4 d5 d6 d7
 clear l3 L2 hs2 HG
 have d0 := k3.cell 0
 have d1 := k3.cell 1
 have d2 := k3.cell 2
 have d3 := k3.cell 3
 have d4 := k3.cell 4
 have d5 := k3.cell 5
 have d6 := k3.cell 6
 have d7 := k3.cell 7
 have d8 := k3.cell 8
 have d9 := k3.cell 9
 have d10 := k3.cell 10
 have d11 := k3.cell 11
 have d12 := k3.cell 12
 have d13 := k3.cell 13
 have d14 := k3.cell 14
 have d15 := k3.cell 15
 go_wp2_with fail
 refine (HC W3).mono ?_
 rintro e W4 ⟨rfl, l4⟩
 replace k2 := k2.later l4
 replace k3 := k3.later l4
 replace k5 := k5.later l4
 have L4 := L3.trans l4
 have hs4 : w.heap.size + 3 ≤ W4.heap.size := by have := l4.size; omega
 clear d0 d1 d2 d3 d4 d5 d6 d7 d8 d9 d10 d11 d12 d13 d14 d15
 clear l4 L3 hs3 HC
 have c5 : W4.cell? ⟨w.heap.size + 1 + 1, 0, none⟩ = some (.int .u64 0) := k5.cell 0
 have f5 := k5.frozen 0
 have h5 := k5.lt
 go_wp2
 refine name_set (Q := fun W => bodyPost _ _ _ _ _ W) k5 ?_
 intro X3 j5 _ _ l9
 have c6 : X3.cell? ⟨w.heap.size + 1 + 1, 0, none⟩ = some (.int .u64 0) := j5.cell 0
 refine bodyPost_ret (v := .tuple #[.bool false, .agg #[.int .u64 0], .int .i64 2]) (by simp [results, Tryz.results29, go_sem, c6]) rfl ?_
 exact ⟨rfl, l9.narrow L4 (by omega)⟩
set_option maxRecDepth 100000 in
set_option maxHeartbeats 8000000 in
theorem rcoin_err (s : Nat) (u v : W8) (HK : ∀ w, Calls Tryz.prog 63 #[.agg #[.int .u64 u.a0, .int .u64 u.a1, .int .u64 u.a2, .int .u64 u.a3, .int .u64 u.a4, .int .u64 u.a5, .int .u64 u.a6, .int .u64 u.a7, .int .u64 v.a0, .int .u64 v.a1, .int .u64 v.a2, .int .u64 v.a3, .int .u64 v.a4, .int .u64 v.a5, .int .u64 v.a6, .int .u64 v.a7]] w (fun e w' => e = .returned (.bool true) ∧ Lat w w')) (sn : Int) (hsn : 0 ≤ sn) (HG : ∀ w, Calls Tryz.prog 48 #[.agg #[.int .u64 u.a0, .int .u64 u.a1, .int .u64 u.a2, .int .u64 u.a3, .int .u64 u.a4, .int .u64 u.a5, .int .u64 u.a6, .int .u64 u.a7]] w (fun e w' => e = .returned (.int .i64 sn) ∧ Lat w w'))
  (cm : Int) (hcm : ¬ 0 < cm) (HC : ∀ w, Calls Tryz.prog 64 #[.agg #[.int .u64 u.a0, .int .u64 u.a1, .int .u64 u.a2, .int .u64 u.a3, .int .u64 u.a4, .int .u64 u.a5, .int .u64 u.a6, .int .u64 u.a7], .agg #[.int .u64 v.a0, .int .u64 v.a1, .int .u64 v.a2, .int .u64 v.a3, .int .u64 v.a4, .int .u64 v.a5, .int .u64 v.a6, .int .u64 v.a7]] w (fun e w' => e = .returned (.int .i64 cm) ∧ Lat w w')) (xw : W8) (t : Nat) (en : Int) (hen : (en == 0) = false) (HW : ∀ w, Calls Tryz.prog 14 #[.agg #[.int .u64 s], .agg #[.int .u64 v.a0, .int .u64 v.a1, .int .u64 v.a2, .int .u64 v.a3, .int .u64 v.a4, .int .u64 v.a5, .int .u64 v.a6, .int .u64 v.a7]] w (WidEnd w xw t en)) (w : World) :
  Calls Tryz.prog 29 #[.agg #[.int .u64 s], .agg #[.int .u64 u.a0, .int .u64 u.a1, .int .u64 u.a2, .int .u64 u.a3, .int .u64 u.a4, .int .u64 u.a5, .int .u64 u.a6, .int .u64 u.a7, .int .u64 v.a0, .int .u64 v.a1, .int .u64 v.a2, .int .u64 v.a3, .int .u64 v.a4, .int .u64 v.a5, .int .u64 v.a6, .int .u64 v.a7]] w (CoinEnd w false 0 en) := by
 have hd1 : decide (sn < 0) = false := decide_eq_false (by omega)
 have hd2 : decide (0 < cm) = false := decide_eq_false hcm
 have HWH := Lib.hid HW
 clear HW
 go_enter Tryz.func29, Tryz.ntmps29
 go_wp2_with fail
 refine name3 (Q := fun W => Calls _ _ _ W _) ?_
 intro W1 l1 hs1 k2 k3 k5
 refine (HK W1).mono ?_
 rintro e W2 ⟨rfl, l2⟩
 replace k2 := k2.later l2
 replace k3 := k3.later l2
 replace k5 := k5.later l2
 have L2 := l1.trans l2
 have hs2 : w.heap.size + 3 ≤ W2.heap.size := by have := l2.size; omega
 clear l1 l2 hs1 HK
 have d0 := k3.cell 0
 have d1 := k3.cell 1
 have d2 := k3.cell 2
 have d3 := k3.cell 3
 have d4 := k3.cell 4
 have d5 := k3.cell 5
 have d6 := k3.cell 6
 have d7 := k3.cell 7
 go_wp2_with fail
 refine (HG W2).mono ?_
 rintro e W3 ⟨rfl, l3⟩
 replace k2 := k2.later l3
 replace k3 := k3.later l3
 replace k5 := k5.later l3
 have L3 := L2.trans l3
 have hs3 : w.heap.size + 3 ≤ W3.heap.size := by have := l3.size; omega
 clear d0 d1 d2 d3 d4 d5 d6 d7
 clear l3 L2 hs2 HG
 have d0 := k3.cell 0
 have d1 := k3.cell 1
 have d2 := k3.cell 2
 have d3 := k3.cell 3
 have d4 := k3.cell 4
 have d5 := k3.cell 5
 have d6 := k3.cell 6
 have d7 := k3.cell 7
 have d8 := k3.cell 8
 have d9 := k3.cell 9
 have d10 := k3.cell 10
 have d11 := k3.cell 11
 have d12 := k3.cell 12
 have d13 := k3.cell 13
 have d14 := k3.cell 14
 have d15 := k3.cell 15
 go_wp2_with fail
 refine (HC W3).mono ?_
 rintro e W4 ⟨rfl, l4⟩
 replace k2 := k2.later l4
 replace k3 := k3.later l4
 replace k5 := k5.later l4
 have L4 := L3.trans l4
 have hs4 : w.heap.size + 3 ≤ W4.heap.size := by have := l4.size; omega
 clear d0 d1 d2 d3 d4 d5 d6 d7 d8 d9 d10 d11 d12 d13 d14 d15
 clear l4 L3 hs3 HC
 have d0 := k3.cell 0
 have d1 := k3.cell 1
 have d2 := k3.cell 2
 have d3 := k3.cell 3
 have d4 := k3.cell 4
 have d5 := k3.cell 5
 have d6 := k3.cell 6
 have d7 := k3.cell 7
 have d8 := k3.cell 8
 have d9 := k3.cell 9
 have d10 := k3.cell 10
 have d11 := k3.cell 11
 have d12 := k3.cell 12
 have d13 := k3.cell 13
 have d14 := k3.cell 14
 have d15 := k3.cell 15
 have c2' : W4.cell? ⟨w.heap.size, 0, none⟩ = some (.int .u64 (s : Int)) := k2.cell 0
 go_wp2_with fail
 refine (HWH.out W4).mono ?_
 rintro e W5 ⟨rfl, l5⟩
 replace k3 := k3.later l5
 replace k5 := k5.later l5
 have L5 := L4.trans l5
 have hs5 : w.heap.size + 3 ≤ W5.heap.size := by have := l5.size; omega
 clear d0 d1 d2 d3 d4 d5 d6 d7 d8 d9 d10 d11 d12 d13 d14 d15
 clear l5 L4 hs4 HWH c2' k2
 go_upto_region 7 with (fail)
 refine name2 (Q := fun W => Code.wp _ _ _ _ W) ?_
 intro W6 l6 hs6 k8 k9
 replace k5 := k5.later l6
 have L6 := L5.trans l6
 clear l6 L5 k8 k9 k3
 have c5 : W6.cell? ⟨w.heap.size + 1 + 1, 0, none⟩ = some (.int .u64 0) := k5.cell 0
 have f5 := k5.frozen 0
 have h5 := k5.lt
 go_wp2
 refine name_set (Q := fun W => bodyPost _ _ _ _ _ W) k5 ?_
 intro V3 j5 _ _ l5
 have c6 : V3.cell? ⟨w.heap.size + 1 + 1, 0, none⟩ = some (.int .u64 0) := j5.cell 0
 refine bodyPost_ret (v := .tuple #[.bool false, .agg #[.int .u64 0], .int .i64 en]) (by simp [results, Tryz.results29, go_sem, c6]) rfl ?_
 exact ⟨rfl, l5.narrow L6 (by omega)⟩
set_option maxRecDepth 100000 in
set_option maxHeartbeats 8000000 in
theorem rcoin_ok (s : Nat) (u v : W8) (HK : ∀ w, Calls Tryz.prog 63 #[.agg #[.int .u64 u.a0, .int .u64 u.a1, .int .u64 u.a2, .int .u64 u.a3, .int .u64 u.a4, .int .u64 u.a5, .int .u64 u.a6, .int .u64 u.a7, .int .u64 v.a0, .int .u64 v.a1, .int .u64 v.a2, .int .u64 v.a3, .int .u64 v.a4, .int .u64 v.a5, .int .u64 v.a6, .int .u64 v.a7]] w (fun e w' => e = .returned (.bool true) ∧ Lat w w')) (sn : Int) (hsn : 0 ≤ sn) (HG : ∀ w, Calls Tryz.prog 48 #[.agg #[.int .u64 u.a0, .int .u64 u.a1, .int .u64 u.a2, .int .u64 u.a3, .int .u64 u.a4, .int .u64 u.a5, .int .u64 u.a6, .int .u64 u.a7]] w (fun e w' => e = .returned (.int .i64 sn) ∧ Lat w w'))
  (cm : Int) (hcm : ¬ 0 < cm) (HC : ∀ w, Calls Tryz.prog 64 #[.agg #[.int .u64 u.a0, .int .u64 u.a1, .int .u64 u.a2, .int .u64 u.a3, .int .u64 u.a4, .int .u64 u.a5, .int .u64 u.a6, .int .u64 u.a7], .agg #[.int .u64 v.a0, .int .u64 v.a1, .int .u64 v.a2, .int .u64 v.a3, .int .u64 v.a4, .int .u64 v.a5, .int .u64 v.a6, .int .u64 v.a7]] w (fun e w' => e = .returned (.int .i64 cm) ∧ Lat w w')) (xw : W8) (t : Nat) (HW : ∀ w, Calls Tryz.prog 14 #[.agg #[.int .u64 s], .agg #[.int .u64 v.a0, .int .u64 v.a1, .int .u64 v.a2, .int .u64 v.a3, .int .u64 v.a4, .int .u64 v.a5, .int .u64 v.a6, .int .u64 v.a7]] w (WidEnd w xw t 0))
  (c2 : Int) (HC2 : ∀ w, Calls Tryz.prog 64 #[.agg #[.int .u64 xw.a0, .int .u64 xw.a1, .int .u64 xw.a2, .int .u64 xw.a3, .int .u64 xw.a4, .int .u64 xw.a5, .int .u64 xw.a6, .int .u64 xw.a7], .agg #[.int .u64 u.a0, .int .u64 u.a1, .int .u64 u.a2, .int .u64 u.a3, .int .u64 u.a4, .int .u64 u.a5, .int .u64 u.a6, .int .u64 u.a7]] w (fun e w' => e = .returned (.int .i64 c2) ∧ Lat w w')) (w : World) :
  Calls Tryz.prog 29 #[.agg #[.int .u64 s], .agg #[.int .u64 u.a0, .int .u64 u.a1, .int .u64 u.a2, .int .u64 u.a3, .int .u64 u.a4, .int .u64 u.a5, .int .u64 u.a6, .int .u64 u.a7, .int .u64 v.a0, .int .u64 v.a1, .int .u64 v.a2, .int .u64 v.a3, .int .u64 v.a4, .int .u64 v.a5, .int .u64 v.a6, .int .u64 v.a7]] w (CoinEnd w (decide (c2 < 0)) t 0) := by
 have hd1 : decide (sn < 0) = false := decide_eq_false (by omega)
 have hd2 : decide (0 < cm) = false := decide_eq_false hcm
 have HWH := Lib.hid HW
 have HC2H := Lib.hid HC2
 clear HW HC2
 go_enter Tryz.func29, Tryz.ntmps29
 go_wp2_with fail
 refine name3 (Q := fun W => Calls _ _ _ W _) ?_
 intro W1 l1 hs1 k2 k3 k5
 refine (HK W1).mono ?_
 rintro e W2 ⟨rfl, l2⟩
 replace k2 := k2.later l2
 replace k3 := k3.later l2
 replace k5 := k5.later l2
 have L2 := l1.trans l2
 have hs2 : w.heap.size + 3 ≤ W2.heap.size := by have := l2.size; omega
 clear l1 l2 hs1 HK
 have d0 := k3.cell 0
 have d1 := k3.cell 1
 have d2 := k3.cell 2
 have d3 := k3.cell 3
 have d4 := k3.cell 4
 have d5 := k3.cell 5
 have d6 := k3.cell 6
 have d7 := k3.cell 7
 go_wp2_with fail
 refine (HG W2).mono ?_
 rintro e W3 ⟨rfl, l3⟩
 replace k2 := k2.later l3
 replace k3 := k3.later l3
 replace k5 := k5.later l3
 have L3 := L2.trans l3
 have hs3 : w.heap.size + 3 ≤ W3.heap.size := by have := l3.size; omega
 clear d0 d1 d2 d3 d4 d5 d6 d7
 clear l3 L2 hs2 HG
 have d0 := k3.cell 0
 have d1 := k3.cell 1
 have d2 := k3.cell 2
 have d3 := k3.cell 3
 have d4 := k3.cell 4
 have d5 := k3.cell 5
 have d6 := k3.cell 6
 have d7 := k3.cell 7
 have d8 := k3.cell 8
 have d9 := k3.cell 9
 have d10 := k3.cell 10
 have d11 := k3.cell 11
 have d12 := k3.cell 12
 have d13 := k3.cell 13
 have d14 := k3.cell 14
 have d15 := k3.cell 15
 go_wp2_with fail
 refine (HC W3).mono ?_
 rintro e W4 ⟨rfl, l4⟩
 replace k2 := k2.later l4
 replace k3 := k3.later l4
 replace k5 := k5.later l4
 have L4 := L3.trans l4
 have hs4 : w.heap.size + 3 ≤ W4.heap.size := by have := l4.size; omega
 clear d0 d1 d2 d3 d4 d5 d6 d7 d8 d9 d10 d11 d12 d13 d14 d15
 clear l4 L3 hs3 HC
 have d0 := k3.cell 0
 have d1 := k3.cell 1
 have d2 := k3.cell 2
 have d3 := k3.cell 3
 have d4 := k3.cell 4
 have d5 := k3.cell 5
 have d6 := k3.cell 6
 have d7 := k3.cell 7
 have d8 := k3.cell 8
 have d9 := k3.cell 9
 have d10 := k3.cell 10
 have d11 := k3.cell 11
 have d12 := k3.cell 12
 have d13 := k3.cell 13
 have d14 := k3.cell 14
 have d15 := k3.cell 15
 have c2' : W4.cell? ⟨w.heap.size, 0, none⟩ = some (.int .u64 (s : Int)) := k2.cell 0
 go_wp2_with fail
 refine (HWH.out W4).mono ?_
 rintro e W5 ⟨rfl, l5⟩
 replace k3 := k3.later l5
 replace k5 := k5.later l5
 have L5 := L4.trans l5
 have hs5 : w.heap.size + 3 ≤ W5.heap.size := by have := l5.size; omega
 clear d0 d1 d2 d3 d4 d5 d6 d7 d8 d9 d10 d11 d12 d13 d14 d15
 clear l5 L4 hs4 HWH c2' k2
 go_upto_region 8 with (fail)
 refine name2 (Q := fun W => Code.wp _ _ _ _ W) ?_
 intro W6 l6 hs6 k8 k9
 replace k3 := k3.later l6
 replace k5 := k5.later l6
 have L6 := L5.trans l6
 clear l6 L5
 obtain ⟨g8, hg8⟩ : ∃ z, W5.heap.size = z := ⟨_, rfl⟩
 rw [hg8] at k8 k9 hs5 ⊢
 clear hg8 hs6
 have HC2 := HC2H.out
 obtain ⟨bb, hbb⟩ : ∃ bb, decide (c2 < 0) = bb := ⟨_, rfl⟩
 rw [hbb]
 have hne8 : g8 ∉ [w.heap.size + 1 + 1] := by simp; omega
 have hne9 : g8 + 1 ∉ [w.heap.size + 1 + 1] := by simp; omega
 have hne3 : w.heap.size + 1 ∉ [w.heap.size + 1 + 1] := by simp
 have R8 : ∀ w', LatS W6 [w.heap.size + 1 + 1] w' → w'.rangeAt g8 0 [.int .u64 xw.a0, .int .u64 xw.a1, .int .u64 xw.a2, .int .u64 xw.a3, .int .u64 xw.a4, .int .u64 xw.a5, .int .u64 xw.a6, .int .u64 xw.a7] := fun w' hl => Blk.rangeAll (l := [.int .u64 xw.a0, .int .u64 xw.a1, .int .u64 xw.a2, .int .u64 xw.a3, .int .u64 xw.a4, .int .u64 xw.a5, .int .u64 xw.a6, .int .u64 xw.a7]) (k8.keepS hne8 hl)
 have R3 : ∀ w', LatS W6 [w.heap.size + 1 + 1] w' → w'.rangeAt (w.heap.size + 1) 0 [.int .u64 u.a0, .int .u64 u.a1, .int .u64 u.a2, .int .u64 u.a3, .int .u64 u.a4, .int .u64 u.a5, .int .u64 u.a6, .int .u64 u.a7] := fun w' hl => Blk.rangePre (l := [.int .u64 u.a0, .int .u64 u.a1, .int .u64 u.a2, .int .u64 u.a3, .int .u64 u.a4, .int .u64 u.a5, .int .u64 u.a6, .int .u64 u.a7]) (r := [.int .u64 v.a0, .int .u64 v.a1, .int .u64 v.a2, .int .u64 v.a3, .int .u64 v.a4, .int .u64 v.a5, .int .u64 v.a6, .int .u64 v.a7]) (k3.keepS hne3 hl)
 have R9 : ∀ w', LatS W6 [w.heap.size + 1 + 1] w' → w'.cell? ⟨g8 + 1, 0, none⟩ = some (.int .u64 (t : Int)) := fun w' hl => (k9.keepS hne9 hl).cell 0
 have L0 := Lat.drew W6
 refine wp_region_held_drew (S := fun w' => LatS W6 [w.heap.size + 1 + 1] w') (by kernel_rfl) (L0.s _) (fun hHeld => ?_)
 generalize W6.drew = V0 at L0 hHeld ⊢
 refine' wpAnyH_take (i := 0) rfl (by kernel_rfl) (by kernel_rfl) (by kernel_rfl) (fun _ _ _ h => h) (yieldsIf_load_mid (by rfl) 26 (.tmp 7) rfl g8 0 rfl _ _ R8 Tryz.underlying26 rfl wideInfo8) hHeld ?_
 simp only [Act.put, List.getElem_toArray, List.getElem_cons_succ, List.getElem_cons_zero, List.setIfInBounds_toArray, List.set_cons_zero, List.set_cons_succ]
 refine wpAnyH_take (i := 1) (v := .pointer (some ⟨w.heap.size + 1, 0, none⟩)) rfl (by kernel_rfl) (by kernel_rfl) (by kernel_rfl) (fun _ _ _ h => h) (Or.inl ⟨by rfl, by intro w' hS; go_simp⟩) hHeld ?_
 simp only [Act.put, List.getElem_toArray, List.getElem_cons_succ, List.getElem_cons_zero, List.setIfInBounds_toArray, List.set_cons_zero, List.set_cons_succ]
 refine' wpAnyH_take (i := 2) rfl (by kernel_rfl) (by kernel_rfl) (by kernel_rfl) (fun _ _ _ h => h) (yieldsIf_load_mid (by rfl) 26 (.tmp 40) rfl (w.heap.size + 1) 0 rfl _ _ R3 Tryz.underlying26 rfl wideInfo8) hHeld ?_
 simp only [Act.put, List.getElem_toArray, List.getElem_cons_succ, List.getElem_cons_zero, List.setIfInBounds_toArray, List.set_cons_zero, List.set_cons_succ]
 refine wpAnyH_take (i := 5) (v := .agg #[.int .u64 (t : Int)]) rfl (by kernel_rfl) (by kernel_rfl) (by kernel_rfl) (fun _ _ _ h => h) (Or.inl ⟨by rfl, by intro w' hS; have hc := R9 w' hS; go_simp⟩) hHeld ?_
 simp only [Act.put, List.getElem_toArray, List.getElem_cons_succ, List.getElem_cons_zero, List.setIfInBounds_toArray, List.set_cons_zero, List.set_cons_succ]
 refine wpAnyH_ready (rs := [3]) (by kernel_rfl) (by simp) (AllReadyH.cons rfl (fun K hK => ?_) AllReadyH.nil)
 go_simp
 refine (HC2 _).mono ?_
 rintro e V1 ⟨rfl, lg⟩
 have L1 := L0.trans lg
 clear lg
 refine hK.out _ _ (L1.s _) (fun hHeld1 => ?_)
 clear hK K
 try simp only [Act.put, List.getElem_toArray, List.getElem_cons_succ, List.getElem_cons_zero, List.setIfInBounds_toArray, List.set_cons_zero, List.set_cons_succ]
 refine wpAnyH_take (i := 4) (v := .bool bb) rfl (by kernel_rfl) (by kernel_rfl) (by kernel_rfl) (fun _ _ _ h => h) (Or.inl ⟨by rfl, by intro w' hS; go_simp⟩) hHeld1 ?_
 simp only [Act.put, List.getElem_toArray, List.getElem_cons_succ, List.getElem_cons_zero, List.setIfInBounds_toArray, List.set_cons_zero, List.set_cons_succ]
 refine wpAnyH_take (i := 6) (v := .bool bb) rfl (by kernel_rfl) (by kernel_rfl) (by kernel_rfl) (fun _ _ _ h => h) (Or.inl ⟨by rfl, by intro w' hS; go_simp⟩) hHeld1 ?_
 simp only [Act.put, List.getElem_toArray, List.getElem_cons_succ, List.getElem_cons_zero, List.setIfInBounds_toArray, List.set_cons_zero, List.set_cons_succ]
 refine wpAnyH_ready (rs := [7]) (by kernel_rfl) (by simp) (AllReadyH.cons rfl (fun K hK => ?_) AllReadyH.nil)
 rw [if_pos (by rfl)]
 have K5 := (k5.later L1)
 refine wp_store_mid 24 (.tmp 5) (.tmp 44) rfl (w.heap.size + 1 + 1) 0 #[.int .u64 (t : Int)] rfl rfl (K5.thereAll _ rfl) (by kernel_rfl) (by simp [Value.oneCell']) ?_
 have KS := K5.setCells #[.int .u64 (t : Int)] rfl
 have M9 : LatS W6 [w.heap.size + 1 + 1] (V1.setCells (w.heap.size + 1 + 1) 0 (#[.int .u64 (t : Int)] : Array Value).toList) := LatS.setCells (by simp) _ _ _ (L1.s _)
 have L9 : Lat w (V1.setCells (w.heap.size + 1 + 1) 0 (#[.int .u64 (t : Int)] : Array Value).toList) := Lat.setCells (by omega) _ _ _ (L6.trans L1)
 obtain ⟨V9, hV9⟩ : ∃ V, V1.setCells (w.heap.size + 1 + 1) 0 (#[.int .u64 (t : Int)] : Array Value).toList = V := ⟨_, rfl⟩
 rw [hV9] at KS M9 L9 ⊢
 clear hV9 K5
 refine hK.out _ _ M9 (fun hHeld2 => ?_)
 clear hK K
 try simp only [Act.put, List.getElem_toArray, List.getElem_cons_succ, List.getElem_cons_zero, List.setIfInBounds_toArray, List.set_cons_zero, List.set_cons_succ]
 refine wpAnyH_ready (rs := [8]) (by kernel_rfl) (by simp) (AllReadyH.cons rfl (fun K hK => ?_) AllReadyH.nil)
 go_simp
 refine hK.out _ _ M9 (fun hHeld3 => ?_)
 clear hK K
 try simp only [Act.put, List.getElem_toArray, List.getElem_cons_succ, List.getElem_cons_zero, List.setIfInBounds_toArray, List.set_cons_zero, List.set_cons_succ]
 refine wpAnyH_done (by kernel_rfl) ?_ _
 go_wp2
 have i5 : V9.cell? ⟨w.heap.size + 1 + 1, 0, none⟩ = some (.int .u64 (t : Int)) := KS.cell 0
 refine bodyPost_ret (v := .tuple #[.bool bb, .agg #[.int .u64 (t : Int)], .int .i64 0]) (by simp [results, Tryz.results29, go_sem, i5]) rfl ?_
 exact ⟨by rw [hbb], L9⟩
end Go.Proofs.YtogkkhaepfablaaGreat
