/- Several texts in one: LongsB, LongsC. -/
import Derived.Test.YtpmbglhbcjbkcaaGreatH07
import Derived.Deep.LoopGhost
namespace Go.Proofs.YtpmbglhbcjbkcaaGreat
set_option maxHeartbeats 16000000
set_option maxRecDepth 100000
open Go.RowKit
theorem znk (b : Bool) (x y : Int) : sgn b (x + y) = sgn b x + sgn b y := by
 cases b <;> simp [sgn, Int.neg_add]
theorem zjZ {b c : Bool} (h : b ≠ c) (x y : Int) : sgn b (x - y) = sgn b x + sgn c y := by
 cases b <;> cases c <;> simp [sgn] at h ⊢ <;> omega
theorem zj0 (b1 : Bool) (A1 : Option Addr) (n1 c1 : Nat) (x : Int) (A2 : Option Addr) (n2 c2 : Nat) (y : Int) (w : World) (h1 : Lg w b1 A1 n1 c1 x) (h2 : Lg w b1 A2 n2 c2 y) (hn : n1 ≤ 1000000) (hm : n2 ≤ 1000000) :
  Calls Tryz.prog 61 #[.agg #[.bool b1, .slice A1 n1 c1], .agg #[.bool b1, .slice A2 n2 c2]] w (LongPost w (x + y) (max n1 n2 + 1)) := by
 obtain ⟨hc1, xs, s1, r1, z1, _, v1⟩ := h1
 obtain ⟨hc2, ys, s2, r2, z2, _, v2⟩ := h2
 have V1 := Lib.hid v1
 have V2 := Lib.hid v2
 clear v1 v2
 go_enter Tryz.func61, Tryz.ntmps61
 go_wp2
 refine za0 (Q := fun W => Code.wp _ _ _ _ W) ?_
 intro W hl hs k1 k2 k3
 have a1 := k1.evS (gs := [w.heap.size + 1 + 1]) (by simp; try omega) 0 rfl
 have a2 := k1.evS (gs := [w.heap.size + 1 + 1]) (by simp; try omega) (0 + 1) rfl
 have a4 := k2.evS (gs := [w.heap.size + 1 + 1]) (by simp; try omega) (0 + 1) rfl
 have L0 := Lat.drew W
 have M0 := L0.s [w.heap.size + 1 + 1]
 go_region_held3 (fun w' => LatS W [w.heap.size + 1 + 1] w') (first | assumption | ((repeat refine LatS.set ?_ (by simp) _); assumption))
  (first
    | (go_at_call 100; refine (zjV A1 n1 c1 xs A2 n2 c2 ys _ (s1.later (hl.trans L0)) (s2.later (hl.trans L0)) r1 r2 hn hm).mono ?_; rintro e w1 ⟨A, n, c, zs, rfl, p1, p2, p3, p4, p5, p6, p7⟩; have L1 := L0.trans p6; have M1 := L1.s [w.heap.size + 1 + 1]; have P3 := Lib.hid p3; clear p3)
    | (go_at_call 99; refine (zaI b1 A n c _ zs p1 p2 p4 (by omega)).mono ?_; rintro e w2 ⟨b, m, rfl, q1, q2, q3⟩; have L2 := L1.trans q3; have M2 := L2.s [w.heap.size + 1 + 1]; have hk3 := k3.later L2; have c0 := hk3.cell 0; have c1' := hk3.cell 1; have f0 := hk3.frozen 0; have f1 := hk3.frozen 1))
 go_wp2
 refine bodyPost_ret (v := .agg #[.bool b, .slice A m c]) (by simp [results, Tryz.results61, go_sem, c0, c1']) rfl ?_
 have := LongPost.close hk3 q1 (hl.trans L2) (by omega) (Nat.le_trans q2 p5)
 rw [P3.out, znk, ← V1.out, ← V2.out] at this
 exact this
theorem ziY (b1 : Bool) (A1 : Option Addr) (n1 c1 : Nat) (x : Int) (b2 : Bool) (A2 : Option Addr) (n2 c2 : Nat) (y : Int) (w : World) (h1 : Lg w b1 A1 n1 c1 x) (h2 : Lg w b2 A2 n2 c2 y) (hb : b1 ≠ b2) (hn : n1 ≤ 1000000) (hm : n2 ≤ 1000000) :
  Calls Tryz.prog 61 #[.agg #[.bool b1, .slice A1 n1 c1], .agg #[.bool b2, .slice A2 n2 c2]] w (LongPost w (x + y) (max n1 n2 + 1)) := by
 obtain ⟨hc1, xs, s1, r1, z1, _, v1⟩ := h1
 obtain ⟨hc2, ys, s2, r2, z2, _, v2⟩ := h2
 have V1 := Lib.hid v1
 have V2 := Lib.hid v2
 clear v1 v2
 have hbb : (b1 == b2) = false := by simpa using hb
 have HB := Lib.hid hb
 clear hb
 go_enter Tryz.func61, Tryz.ntmps61
 go_wp2_with fail
 refine za0 (Q := fun W => Calls _ _ _ W _) ?_
 intro W hl hs k1 k2 k3
 refine (zch A1 n1 c1 xs A2 n2 c2 ys W (s1.later hl) (s2.later hl) r1 r2 z1 z2 hn hm).mono ?_
 intro e W1 hpost
 by_cases hge : val W64 ys ≤ val W64 xs
 ·obtain ⟨r, rfl, r0, r1', hl1⟩ := hpost.ge hge
  clear hpost
  have hr : ¬ r < 0 := by omega
  have hlw := hl.trans hl1
  have hlen := za5 r2 r1 z2 hge
  rw [s1.1, s2.1] at hlen
  have HGE := Lib.hid hge
  have hk1 := k1.later hl1
  have hk2 := k2.later hl1
  have hk3 := k3.later hl1
  have hs1 := hl1.size
  clear k1 k2 k3 hl hge
  go_wp2
  have a1 := hk1.evS (gs := [w.heap.size + 1 + 1]) (by simp; try omega) 0 rfl
  have a2 := hk1.evS (gs := [w.heap.size + 1 + 1]) (by simp; try omega) (0 + 1) rfl
  have a4 := hk2.evS (gs := [w.heap.size + 1 + 1]) (by simp; try omega) (0 + 1) rfl
  have L0 := Lat.drew W1
  have M0 := L0.s [w.heap.size + 1 + 1]
  go_region_held3 (fun w' => LatS W1 [w.heap.size + 1 + 1] w') (first | assumption | ((repeat refine LatS.set ?_ (by simp) _); assumption))
   (first
     | (go_at_call 102; refine (zdV A1 n1 c1 xs A2 n2 c2 ys _ (s1.later (hlw.trans L0)) (s2.later (hlw.trans L0)) r1 r2 hlen HGE.out hn).mono ?_; rintro e w1 ⟨A, n, c, zs, rfl, p1, p2, p3, p4, p5, p6, p7⟩; have L1 := L0.trans p6; have M1 := L1.s [w.heap.size + 1 + 1]; have P3 := Lib.hid p3; clear p3)
     | (go_at_call 99; refine (zaI b1 A n c _ zs p1 p2 p4 (by omega)).mono ?_; rintro e w2 ⟨b, m, rfl, q1, q2, q3⟩; have L2 := L1.trans q3; have M2 := L2.s [w.heap.size + 1 + 1]; have hk3' := hk3.later L2; have c0 := hk3'.cell 0; have c1' := hk3'.cell 1; have f0 := hk3'.frozen 0; have f1 := hk3'.frozen 1))
  go_wp2
  refine bodyPost_ret (v := .agg #[.bool b, .slice A m c]) (by simp [results, Tryz.results61, go_sem, c0, c1']) rfl ?_
  have := LongPost.close hk3' q1 (hlw.trans L2) (by omega) (N := max n1 n2 + 1) (by omega)
  rw [P3.out, zjZ HB.out, ← V1.out, ← V2.out] at this
  exact this
 ·obtain ⟨r, rfl, r0, r1', hl1⟩ := hpost.lt (by omega)
  clear hpost
  have hlw := hl.trans hl1
  have hge' : val W64 xs ≤ val W64 ys := by omega
  have hlen := za5 r1 r2 z1 hge'
  rw [s1.1, s2.1] at hlen
  have HGE := Lib.hid hge'
  have hk1 := k1.later hl1
  have hk2 := k2.later hl1
  have hk3 := k3.later hl1
  have hs1 := hl1.size
  clear k1 k2 k3 hl hge hge'
  have d0 := hk1.cell 0
  have d1 := hk1.cell (0 + 1)
  have d2 := hk2.cell 0
  have d3 := hk2.cell (0 + 1)
  have e0 := hk1.frozen 0
  have e1 := hk1.frozen (0 + 1)
  have e2 := hk2.frozen 0
  have e3 := hk2.frozen (0 + 1)
  go_wp2
  refine gen (Q := fun W => Code.wp _ _ _ _ W) _ ?_
  intro W2 hW2
  have g1 : Blk W2 w.heap.size 88 #[.bool b2, .slice A2 n2 c2] := by
   have := (((hk1.set 0 (.bool b2)).set 1 (.slice A2 n2 c2)).far (p := ⟨w.heap.size + 1, 0, none⟩) (by simp) (.bool b1)).far (p := ⟨w.heap.size + 1, 1, none⟩) (by simp) (.slice A1 n1 c1)
   rw [hW2]; simpa using this
  have g2 : Blk W2 (w.heap.size + 1) 88 #[.bool b1, .slice A1 n1 c1] := by
   have := (((hk2.far (p := ⟨w.heap.size, 0, none⟩) (by simp) (.bool b2)).far (p := ⟨w.heap.size, 1, none⟩) (by simp) (.slice A2 n2 c2)).set 0 (.bool b1)).set 1 (.slice A1 n1 c1)
   rw [hW2]; simpa using this
  have g3 : Blk W2 (w.heap.size + 1 + 1) 88 #[.bool false, .slice none 0 0] := by
   have := (((hk3.far (p := ⟨w.heap.size, 0, none⟩) (by simp; omega) (.bool b2)).far (p := ⟨w.heap.size, 1, none⟩) (by simp; omega) (.slice A2 n2 c2)).far (p := ⟨w.heap.size + 1, 0, none⟩) (by simp) (.bool b1)).far (p := ⟨w.heap.size + 1, 1, none⟩) (by simp) (.slice A1 n1 c1)
   rw [hW2]; exact this
  have hl2 : Lat w W2 := by
   rw [hW2]
   exact (((hlw.setCell (p := ⟨w.heap.size, 0, none⟩) (by simp) _).setCell (p := ⟨w.heap.size, 1, none⟩) (by simp) _).setCell (p := ⟨w.heap.size + 1, 0, none⟩) (by simp) _).setCell (p := ⟨w.heap.size + 1, 1, none⟩) (by simp) _
  clear hW2 d0 d1 d2 d3 e0 e1 e2 e3 hk1 hk2 hk3 hlw hl1 hs1 hs
  have a1 := g1.evS (gs := [w.heap.size + 1 + 1]) (by simp; try omega) 0 rfl
  have a2 := g1.evS (gs := [w.heap.size + 1 + 1]) (by simp; try omega) (0 + 1) rfl
  have a4 := g2.evS (gs := [w.heap.size + 1 + 1]) (by simp; try omega) (0 + 1) rfl
  have L0 := Lat.drew W2
  have M0 := L0.s [w.heap.size + 1 + 1]
  go_region_held3 (fun w' => LatS W2 [w.heap.size + 1 + 1] w') (first | assumption | ((repeat refine LatS.set ?_ (by simp) _); assumption))
   (first
     | (go_at_call 102; refine (zdV A2 n2 c2 ys A1 n1 c1 xs _ (s2.later (hl2.trans L0)) (s1.later (hl2.trans L0)) r2 r1 hlen HGE.out hm).mono ?_; rintro e w1 ⟨A, n, c, zs, rfl, p1, p2, p3, p4, p5, p6, p7⟩; have L1 := L0.trans p6; have M1 := L1.s [w.heap.size + 1 + 1]; have P3 := Lib.hid p3; clear p3)
     | (go_at_call 99; refine (zaI b2 A n c _ zs p1 p2 p4 (by omega)).mono ?_; rintro e w2 ⟨b, m, rfl, q1, q2, q3⟩; have L2 := L1.trans q3; have M2 := L2.s [w.heap.size + 1 + 1]; have hk3' := g3.later L2; have c0 := hk3'.cell 0; have c1' := hk3'.cell 1; have f0 := hk3'.frozen 0; have f1 := hk3'.frozen 1))
  go_wp2
  refine bodyPost_ret (v := .agg #[.bool b, .slice A m c]) (by simp [results, Tryz.results61, go_sem, c0, c1']) rfl ?_
  have := LongPost.close hk3' q1 (hl2.trans L2) (by omega) (N := max n1 n2 + 1) (by omega)
  rw [P3.out, zjZ (fun e => HB.out e.symm), ← V1.out, ← V2.out, Int.add_comm] at this
  exact this
theorem zbp (b1 : Bool) (A1 : Option Addr) (n1 c1 : Nat) (x : Int) (b2 : Bool) (A2 : Option Addr) (n2 c2 : Nat) (y : Int) (w : World) (h1 : Lg w b1 A1 n1 c1 x) (h2 : Lg w b2 A2 n2 c2 y) (hn : n1 ≤ 1000000) (hm : n2 ≤ 1000000) :
  Calls Tryz.prog 61 #[.agg #[.bool b1, .slice A1 n1 c1], .agg #[.bool b2, .slice A2 n2 c2]] w (LongPost w (x + y) (max n1 n2 + 1)) := by
 by_cases hb : b1 = b2
 ·subst hb
  exact zj0 b1 A1 n1 c1 x A2 n2 c2 y w h1 h2 hn hm
 ·exact ziY b1 A1 n1 c1 x b2 A2 n2 c2 y w h1 h2 hb hn hm
theorem zj1 (b1 : Bool) (A1 : Option Addr) (n1 c1 : Nat) (x : Int) (b2 : Bool) (A2 : Option Addr) (n2 c2 : Nat) (y : Int) (w : World) (h1 : Lg w b1 A1 n1 c1 x) (h2 : Lg w b2 A2 n2 c2 y) (hn : n1 ≤ 1000000) (hm : n2 ≤ 1000000) :
  Calls Tryz.prog 115 #[.agg #[.bool b1, .slice A1 n1 c1], .agg #[.bool b2, .slice A2 n2 c2]] w (LongPost w (x - y) (max n1 n2 + 1)) := by
 go_enter Tryz.func115, Tryz.ntmps115
 go_wp2
 refine za0 (Q := fun W => Code.wp _ _ _ _ W) ?_
 intro W hl hs k1 k2 k3
 have a1 := k1.evS (gs := [w.heap.size + 1 + 1]) (by simp; try omega) 0 rfl
 have a2 := k1.evS (gs := [w.heap.size + 1 + 1]) (by simp; try omega) (0 + 1) rfl
 have a3 := k2.evS (gs := [w.heap.size + 1 + 1]) (by simp; try omega) 0 rfl
 have a4 := k2.evS (gs := [w.heap.size + 1 + 1]) (by simp; try omega) (0 + 1) rfl
 have L0 := Lat.drew W
 have M0 := L0.s [w.heap.size + 1 + 1]
 go_region_held3 (fun w' => LatS W [w.heap.size + 1 + 1] w') (first | assumption | ((repeat refine LatS.set ?_ (by simp) _); assumption))
  (first
    | (go_at_call 79; refine (zbU b2 A2 n2 c2 y _ (h2.later (hl.trans L0)) hm).mono ?_; rintro e w1 ⟨b, A, n, c, rfl, p1, p2, p3⟩; have L1 := L0.trans p3; have M1 := L1.s [w.heap.size + 1 + 1])
    | (go_at_call 61; refine (zbp b1 A1 n1 c1 x b A n c (- y) _ (h1.later (hl.trans L1)) p1 hn (by omega)).mono ?_; rintro e w2 ⟨b', A', m, c', rfl, q1, q2, q3⟩; have L2 := L1.trans q3; have M2 := L2.s [w.heap.size + 1 + 1]; have hk3 := k3.later L2; have c0 := hk3.cell 0; have c1' := hk3.cell 1; have f0 := hk3.frozen 0; have f1 := hk3.frozen 1))
 go_wp2
 refine bodyPost_ret (v := .agg #[.bool b', .slice A' m c']) (by simp [results, Tryz.results115, go_sem, c0, c1']) rfl ?_
 exact LongPost.close hk3 q1 (hl.trans L2) (by omega) (by omega)
def zaq (x : Int) : Int := if x < 0 then -1 else if x = 0 then 0 else 1
theorem zfD (b1 : Bool) (A1 : Option Addr) (n1 c1 : Nat) (x : Int) (w : World) (h1 : Lg w b1 A1 n1 c1 x) (hn : n1 ≤ 2000000) :
  Calls Tryz.prog 89 #[.agg #[.bool b1, .slice A1 n1 c1]] w (fun e w' => e = .returned (.int .i64 (zaq x)) ∧ Lat w w') := by
 obtain ⟨hc1, xs, s1, r1, z1, hne, v1⟩ := h1
 cases b1 with
 | true =>
   have hx : Hid (zaq x = -1) := by
    have := zaX zaf r1 z1 (hne rfl)
    simp only [sgn, if_true] at v1
    show _ = _
    rw [zaq, if_pos (by omega)]
   rw [hx.out]
   go_enter Tryz.func89, Tryz.ntmps89
   go_wp2
   go_ret
   exact ⟨rfl, Lat.alloc _ _⟩
 | false =>
   rcases Nat.eq_zero_or_pos n1 with rfl | hp
   ·have hx : Hid (zaq x = 0) := by
     have := List.eq_nil_of_length_eq_zero s1.1
     subst this
     have e : x = 0 := by simpa [sgn, val] using v1
     show _ = _
     rw [e]; rfl
    rw [hx.out]
    go_enter Tryz.func89, Tryz.ntmps89
    go_wp2
    go_ret
    exact ⟨rfl, Lat.alloc _ _⟩
   ·have hx : Hid (zaq x = 1) := by
     have hxs : xs ≠ [] := by intro e; have := s1.1; simp [e] at this; omega
     have := zaX zaf r1 z1 hxs
     simp only [sgn, if_false, Bool.false_eq_true] at v1
     show _ = _
     rw [zaq, if_neg (by omega), if_neg (by omega)]
    rw [hx.out]
    have hne : ((n1 : Int) == 0) = false := by simp; omega
    go_enter Tryz.func89, Tryz.ntmps89
    go_wp2
    go_ret
    exact ⟨rfl, Lat.alloc _ _⟩
theorem zcY (b1 : Bool) (A1 : Option Addr) (n1 c1 : Nat) (x : Int) (b2 : Bool) (A2 : Option Addr) (n2 c2 : Nat) (y : Int) (w : World) (h1 : Lg w b1 A1 n1 c1 x) (h2 : Lg w b2 A2 n2 c2 y) (hn : n1 ≤ 1000000) (hm : n2 ≤ 1000000) :
  Calls Tryz.prog 78 #[.agg #[.bool b1, .slice A1 n1 c1], .agg #[.bool b2, .slice A2 n2 c2]] w (fun e w' => e = .returned (.int .i64 (zaq (x - y))) ∧ Lat w w') := by
 go_enter Tryz.func78, Tryz.ntmps78
 go_wp2_with fail
 refine zaK (Q := fun W => Calls _ _ _ W _) ?_
 intro W hl hs k1 k2
 refine (zj1 b1 A1 n1 c1 x b2 A2 n2 c2 y W (h1.later hl) (h2.later hl) hn hm).mono ?_
 rintro e w1 ⟨b, A, n, c, rfl, p1, p2, p3⟩
 go_wp2_with fail
 refine (zfD b A n c (x - y) w1 p1 (by omega)).mono ?_
 rintro e w2 ⟨rfl, q1⟩
 go_wp2
 go_ret
 exact ⟨rfl, (hl.trans p3).trans q1⟩
theorem zn9 {w : World} {A : Option Addr} {n c : Nat} {xs : List Int} (hs : Sl w .u64 A n xs) (hr : InR W64 xs) (hz : Nz xs) (hc : n ≤ c) : Lg w false A n c (val W64 xs) :=
 ⟨hc, xs, hs, hr, hz, (fun h => by cases h), rfl⟩
theorem znl (b c : Bool) (x y : Int) : Int.gcd (sgn b x) (sgn c y) = Int.gcd x y := by
 cases b <;> cases c <;> simp [sgn]
theorem zdm (b1 : Bool) (A1 : Option Addr) (n1 c1 : Nat) (x : Int) (b2 : Bool) (A2 : Option Addr) (n2 c2 : Nat) (y : Int) (w : World) (h1 : Lg w b1 A1 n1 c1 x) (h2 : Lg w b2 A2 n2 c2 y) (hn : n1 ≤ 400000) (hm : n2 ≤ 400000) :
  Calls Tryz.prog 81 #[.agg #[.bool b1, .slice A1 n1 c1], .agg #[.bool b2, .slice A2 n2 c2]] w (LongPost w (Int.gcd x y) (max n1 n2)) := by
 obtain ⟨hc1, xs, s1, r1, z1, _, v1⟩ := h1
 obtain ⟨hc2, ys, s2, r2, z2, _, v2⟩ := h2
 have HG : Hid (Int.gcd x y = Int.gcd (val W64 xs) (val W64 ys)) := by show _ = _; rw [v1, v2, znl]
 clear v1 v2
 go_enter Tryz.func81, Tryz.ntmps81
 go_wp2
 refine za0 (Q := fun W => Code.wp _ _ _ _ W) ?_
 intro W hl hs k1 k2 k3
 have d1 := k1.cell (0 + 1)
 have d3 := k2.cell (0 + 1)
 go_quiet (fail)
 go_wp2
 refine gen (Q := fun W => Code.wp _ _ _ _ W) _ ?_
 intro W1 hW1
 have hl1 : Lat w W1 := by rw [hW1]; exact hl.trans (Lat.drewN _ _)
 have hk3 : Blk W1 (w.heap.size + 1 + 1) 88 #[.bool false, .slice none 0 0] := by rw [hW1]; exact k3
 clear hW1 d1 d3 k1 k2 k3 hs hl
 go_loopg [5, 6] (val W64 ys).toNat (fun gk a b wr => ∃ (A : Option Addr) (n c : Nat) (us : List Int) (B : Option Addr) (m d : Nat) (vs : List Int), a = .slice A n c ∧ b = .slice B m d ∧
  (Sl wr .u64 A n us ∧ InR W64 us ∧ Nz us ∧ n ≤ c ∧ n ≤ max n1 n2) ∧ (Sl wr .u64 B m vs ∧ InR W64 vs ∧ Nz vs ∧ m ≤ d ∧ m ≤ max n1 n2) ∧ Lat w wr ∧ Blk wr (w.heap.size + 1 + 1) 88 #[.bool false, .slice none 0 0] ∧
  Hid (Int.gcd x y = Int.gcd (val W64 us) (val W64 vs)) ∧ Hid (gk = (val W64 vs).toNat))
 case atStart => exact ⟨A1, n1, c1, xs, A2, n2, c2, ys, rfl, rfl, ⟨s1.later hl1, r1, z1, hc1, by omega⟩, ⟨s2.later hl1, r2, z2, hc2, by omega⟩, hl1, hk3, HG, rfl⟩
 case round =>
  clear hl1 hk3 HG
  obtain ⟨A, n, c, us, B, m, d, vs, rfl, rfl, ⟨u1, u2, u3, u4, u5⟩, ⟨v1, v2, v3, v4, v5⟩, hlr, hk, hg, hgk⟩ := hrel
  rcases Nat.eq_zero_or_pos m with rfl | hp
  ·have hG : Hid ((Int.gcd x y : Int) = val W64 us) := by
    have := List.eq_nil_of_length_eq_zero v1.1
    subst this
    show _ = _
    rw [hg.out, zdR, Int.gcd_zero_right]
    exact Int.natAbs_of_nonneg (zaj zaf u2)
   have c0 := hk.cell 0
   have c1' := hk.cell 1
   have f0 := hk.frozen 0
   have f1 := hk.frozen 1
   go_wp2
   refine bodyPost_ret (v := .agg #[.bool false, .slice A n c]) (by simp [results, Tryz.results81, go_sem, c0, c1']) rfl ?_
   rw [hG.out]
   exact LongPost.close hk (zn9 u1 u2 u3 u4) hlr (by omega) u5
  ·have hne : Hid (vs ≠ []) := by intro e; have := v1.1; simp [e] at this; omega
   have hvp : 0 < val W64 vs := zaX zaf v2 v3 hne.out
   go_wp2_with fail
   refine (zdX A n c us B m d vs wr u1 v1 u2 v2 u3 v3 u4 (by omega) (by omega) hne.out).mono ?_
   rintro e w2 ⟨Aq, nq, cq, qs, Ar, nr, cr, rs, rfl, ⟨q1, q2, q3, q4, q5⟩, ⟨r1', r2', r3', r4', r5'⟩, hl2⟩
   have hlt : val W64 rs < val W64 vs := by rw [r4']; exact Int.emod_lt_of_pos _ hvp
   have h0 := zaj zaf r2'
   have hlen := za5 r2' v2 r3' (by omega)
   rw [r1'.1, v1.1] at hlen
   have R4 := Lib.hid r4'
   clear q3 r4' q1 q2 q4 q5
   go_wp2
   go_roundg (val W64 rs).toNat
   case measure => rw [hgk.out]; omega
   case rel => exact ⟨B, m, d, vs, Ar, nr, cr, rs, rfl, rfl, ⟨v1.later hl2, v2, v3, v4, v5⟩, ⟨r1', r2', r3', r5', by omega⟩, hlr.trans hl2, hk.later hl2, by show _ = _; rw [hg.out, R4.out, zhU], rfl⟩
theorem ze5 {X Y q r : Int} (hY : Y ≠ 0) (h : X = q * Y + r) (h0 : 0 ≤ r) (h1 : r < Y.natAbs) : X / Y = q ∧ X % Y = r := by
 have hr : r / Y = 0 := by
  rcases Int.lt_or_lt_of_ne hY with hn | hp
  ·have e : Y = - (-Y) := by omega
   rw [e, Int.ediv_neg, Int.ediv_eq_zero_of_lt h0 (by omega)]; rfl
  ·exact Int.ediv_eq_zero_of_lt h0 (by omega)
 have hq : X / Y = q := by
  rw [h, Int.add_comm, Int.add_mul_ediv_right _ _ hY, hr]; omega
 refine ⟨hq, ?_⟩
 have := Int.emod_add_mul_ediv X Y
 rw [hq, Int.mul_comm] at this
 omega
theorem ze6 {b1 b2 : Bool} {vx vy : Int} (hy : 0 < vy) :
  (0 ≤ sgn b1 (vx % vy) → sgn b1 vx / sgn b2 vy = sgn (b1 != b2) (vx / vy) ∧ sgn b1 vx % sgn b2 vy = sgn b1 (vx % vy)) ∧
  (sgn b1 (vx % vy) < 0 → sgn b1 vx / sgn b2 vy = sgn (b1 != b2) (vx / vy) + (if b2 then 1 else -1) ∧ sgn b1 vx % sgn b2 vy = sgn b1 (vx % vy) + vy) := by
 have e := Int.emod_add_mul_ediv vx vy
 have m0 := Int.emod_nonneg vx (show vy ≠ 0 by omega)
 have m1 := Int.emod_lt_of_pos vx hy
 have hne : sgn b2 vy ≠ 0 := by cases b2 <;> simp [sgn] <;> omega
 have habs : ((sgn b2 vy).natAbs : Int) = vy := by cases b2 <;> simp [sgn] <;> omega
 have key : sgn b1 vx = sgn (b1 != b2) (vx / vy) * sgn b2 vy + sgn b1 (vx % vy) := by
  generalize vx / vy = q at *
  generalize vx % vy = r at *
  subst e
  cases b1 <;> cases b2 <;> simp [sgn] <;> grind
 refine ⟨fun h => ze5 hne key h ?_, fun h => ze5 hne ?_ ?_ ?_⟩
 ·rw [habs]
  cases b1 with
  | false => exact m1
  | true => simp [sgn] at h ⊢; omega
 ·rw [key]
  generalize sgn (b1 != b2) (vx / vy) = q
  generalize sgn b1 (vx % vy) = r
  cases b2 <;> simp [sgn] <;> grind
 ·cases b1 with
  | false => simp [sgn] at h; omega
  | true => simp [sgn]; omega
 ·rw [habs]; omega
end Go.Proofs.YtpmbglhbcjbkcaaGreat
