/- Several texts in one: Frac, RgD, DwA, DwF, Lv, DwW, DrI, Win. -/
import Derived.Test.YtogkkhaepfablaaGreatJ13
import Derived.Test.YtogkkhaepfablaaGreatJ19
import Derived.Test.YtogkkhaepfablaaGreatK02
import Derived.Deep.DeepCutAuto
import Derived.Test.YtogkkhaepfablaaGreatJ22
import Derived.Test.YtogkkhaepfablaaGreatK04
import Derived.Test.YtogkkhaepfablaaGreatJ18
import Derived.Test.YtogkkhaepfablaaGreatJ23
import Derived.Test.YtogkkhaepfablaaGreatK29
namespace Go.Proofs.YtogkkhaepfablaaGreat
open Go.RowKit
theorem low_pos {x y : Int} (hy : 0 < y) : lowN x y = x / Int.gcd x y ∧ lowD x y = y / Int.gcd x y := by
 rw [lowN, lowD, if_neg (by omega), if_neg (by omega)]; exact ⟨rfl, rfl⟩
theorem gcd_pos' {x y : Int} (hy : 0 < y) : (0 : Int) < Int.gcd x y := by
 have := Int.gcd_pos_of_ne_zero_right x (show y ≠ 0 by omega)
 omega
theorem low_mul {x y : Int} (hy : 0 < y) : lowN x y * Int.gcd x y = x ∧ lowD x y * Int.gcd x y = y := by
 obtain ⟨h1, h2⟩ := low_pos (x := x) hy
 rw [h1, h2]
 exact ⟨Int.ediv_mul_cancel (Int.gcd_dvd_left ..), Int.ediv_mul_cancel (Int.gcd_dvd_right ..)⟩
theorem lowD_pos {x y : Int} (hy : 0 < y) : 0 < lowD x y := by
 have h := (low_mul (x := x) hy).2
 have hg := gcd_pos' (x := x) hy
 rcases Int.lt_or_le 0 (lowD x y) with h1 | h1
 ·exact h1
 ·have := Int.mul_le_mul_of_nonneg_right h1 (Int.le_of_lt hg)
  omega
theorem low_ok {x y : Int} (hy : 0 < y) : ShOk (lowN x y) (lowD x y) := by
 refine ⟨lowD_pos hy, ?_⟩
 obtain ⟨h1, h2⟩ := low_pos (x := x) hy
 rw [h1, h2]
 exact Int.gcd_ediv_gcd_ediv_gcd (by have := gcd_pos' (x := x) hy; omega)
end Go.Proofs.YtogkkhaepfablaaGreat
namespace Go.Proofs.YtogkkhaepfablaaGreat
open Go.RowKit
set_option linter.unusedSimpArgs false
theorem rg_succ (k : Nat) : Value.int .i64 ((k : Int) + 1) = .int .i64 ((k + 1 : Nat) : Int) := by simp
theorem rg_up {b k : Nat} (h : k < b) : b - (intOf (.int .i64 ((k : Int) + 1))).toNat < b - (intOf (.int .i64 (k : Int))).toNat := by
 show b - ((k : Int) + 1).toNat < b - ((k : Int)).toNat
 omega
theorem name_long {w : World} {g : Nat} {t : TypeId} {b0 b' : Bool} {A0 A' : Option Addr} {n0 c0 n' c' : Nat} {Q : World → Prop} (hb : Blk w g t #[.bool b0, .slice A0 n0 c0])
  (h : ∀ W, Blk W g t #[.bool b', .slice A' n' c'] → LatP (· = g) w W → (∀ {b A n c z}, Rg w b A n c z → Rg W b A n c z) → Q W) :
  Q ((w.setCell ⟨g, 0, none⟩ (.bool b')).setCell ⟨g, 1, none⟩ (.slice A' n' c')) := by
 refine h _ ?_ ?_ ?_
 ·have := (hb.set 0 (.bool b')).set 1 (.slice A' n' c')
  simpa using this
 ·exact LatP.setCells [.bool b', .slice A' n' c'] w 0
 ·intro b A n c z hr
  have ha := hr.apart hb (no_i64 _ _ _ _)
  exact (hr.far (p := ⟨g, 0, none⟩) ha _).far (p := ⟨g, 1, none⟩) ha _
set_option maxRecDepth 100000 in
set_option maxHeartbeats 1000000 in
theorem rRaised_any (b1 : Bool) (A1 : Option Addr) (n1 c1 : Nat) (x : Int) (k : Nat) (w : World) (h1 : Rg w b1 A1 n1 c1 x) (hn : n1 ≤ 2) (hk : k ≤ 1000) :
  Calls Tryz.prog 37 #[.agg #[.bool b1, .slice A1 n1 c1], .int .i64 k] w (RefPost w (x ^ k) (2 + 2 * k)) := by
 go_enter Tryz.func37, Tryz.ntmps37
 go_upto_region 1 with (fail)
 refine name2 (Q := fun W => Code.wp _ _ _ _ W) ?_
 intro W hl hs k2 k4
 go_wp2_with fail
 refine (rLong1_any 1 W (by decide) (by decide)).mono ?_
 rintro e w1 ⟨b, A, n, c, rfl, r1, r2, l1⟩
 replace k2 := k2.later l1
 replace k4 := k4.later l1
 have L1 := hl.trans l1
 have R1 := h1.later L1
 have h4 := k4.lt
 clear h1 hl l1 hs
 go_upto_region 2 with (fail)
 refine name1 (Q := fun W => Code.wp _ _ _ _ W) ?_
 intro w2 l2 hs2 k5
 replace k2 := k2.later l2
 replace k4 := k4.later l2
 have L2 := L1.trans l2
 have R2 := R1.later l2
 replace r1 := r1.later l2
 obtain ⟨g5, hg5⟩ : ∃ z, w1.heap.size = z := ⟨_, rfl⟩
 rw [hg5] at k5 h4 ⊢
 obtain ⟨g4, hg4⟩ : ∃ z, w.heap.size + 1 = z := ⟨_, rfl⟩
 rw [hg4] at k4 h4 ⊢
 have hw4 : w.heap.size ≤ g4 := by omega
 clear hg5 hg4 L1 R1 l2 hs2
 go_wp2_with fail
 go_loopw [6] (fun i wr => ∃ (j : Nat) (b : Bool) (A : Option Addr) (n c : Nat), i = .int .i64 j ∧ j ≤ k ∧ Rg wr b A n c (x ^ j) ∧ n ≤ 2 + 2 * j ∧ Rg wr b1 A1 n1 c1 x ∧ Blk wr w.heap.size 85 #[.bool b1, .slice A1 n1 c1] ∧ Blk wr g4 85 #[.bool false, .slice none 0 0] ∧ Blk wr g5 85 #[.bool b, .slice A n c] ∧ Lat w wr) (fun i _ => k - (intOf i).toNat)
 case atStart => exact ⟨0, b, A, n, c, rfl, by omega, by rw [Int.pow_zero]; exact r1, by omega, R2, k2, k4, k5, L2⟩
 case round =>
  clear r1 r2 k2 k4 k5 L2 R2
  obtain ⟨j, b, A, n, c, rfl, hj, r1, r2, R2, k2, k4, k5, L2⟩ := hrel
  by_cases hjk : j < k
  ·have hjI : (j : Int) < (k : Int) := by omega
   have d0 := k2.cell 0
   have d1 := k2.cell 1
   have e0 := k5.cell 0
   have e1 := k5.cell 1
   go_wp2_with fail
   refine (rTimes_any b A n c (x ^ j) b1 A1 n1 c1 x wr r1 R2 (by omega) (by omega)).mono ?_
   rintro e w3 ⟨b', A', n', c', rfl, q1, q2, l3⟩
   replace k2 := k2.later l3
   replace k4 := k4.later l3
   replace k5 := k5.later l3
   have L3 := L2.trans l3
   have R3 := R2.later l3
   clear d0 d1 e0 e1 r1 R2 l3
   have e0 := k5.cell 0
   have e1 := k5.cell 1
   have f0 := k5.frozen 0
   have f1 := k5.frozen 1
   have hlt := k5.lt
   have hlt4 := k4.lt
   go_upto_region 4 with (fail)
   refine name_long (Q := fun W => Code.wp _ _ _ _ W) k5 ?_
   intro w4 j5 l4 hr4
   have j2 := k2.keepP l4 (by omega)
   have j4 := k4.keepP l4 (by omega)
   have L4 := l4.narrow L3 (by omega)
   go_wp2
   exact ⟨⟨j + 1, b', A', n', c', rg_succ j, hjk, by rw [Int.pow_succ]; exact hr4 q1, by omega, hr4 R3, j2, j4, j5, L4⟩, rg_up hjk⟩
  ·obtain rfl : j = k := by omega
   have e0 := k5.cell 0
   have e1 := k5.cell 1
   have f0 := k4.frozen 0
   have f1 := k4.frozen 1
   have d0 := k4.cell 0
   have d1 := k4.cell 1
   have hlt := k4.lt
   go_wp2
   refine name_long (Q := fun W => bodyPost _ _ _ _ _ W) k4 ?_
   intro w4 j4 l4 hr4
   have c0 := j4.cell 0
   have c1 := j4.cell 1
   refine bodyPost_ret (v := .agg #[.bool b, .slice A n c]) (by simp [results, Tryz.results37, go_sem, c0, c1]) rfl ?_
   exact ⟨b, A, n, c, rfl, hr4 r1, r2, l4.narrow L2 hw4⟩
end Go.Proofs.YtogkkhaepfablaaGreat
namespace Go.Proofs.YtogkkhaepfablaaGreat
open Go.RowKit
set_option linter.unusedSimpArgs false
def smallV (b : Bool) (less : Int) : Int := if b then -(less % 1000001) else less % 1000001
theorem smallV_in (b : Bool) {less : Int} : -1000000 ≤ smallV b less ∧ smallV b less ≤ 1000000 := by
 have h1 := Int.emod_nonneg less (show (1000001 : Int) ≠ 0 by decide)
 have h2 := Int.emod_lt_of_pos less (show (0 : Int) < 1000001 by decide)
 unfold smallV
 cases b
 ·rw [if_neg (by decide)]; omega
 ·rw [if_pos rfl]; omega
set_option maxRecDepth 100000 in
set_option maxHeartbeats 1000000 in
theorem rSmall_any (b : Bool) (A : Option Addr) (n c : Nat) (less : Int) (h : 0 ≤ less ∧ less < 4294967296) (w : World) :
  Calls Tryz.prog 55 #[.agg #[.bool b, .slice A n c, .int .u32 less]] w (fun e w' => e = .returned (.int .i64 (smallV b less)) ∧ Lat w w') := by
 have hm : less.tmod 1000001 = less % 1000001 := Int.tmod_eq_emod_of_nonneg h.1
 obtain ⟨q, hq⟩ : ∃ q, less % 1000001 = q := ⟨_, rfl⟩
 have hq2 : 0 ≤ q ∧ q < 1000001 := by omega
 have hw : wrap64 q = q := IntWalk.wrap64_in _ (by omega)
 have hwn : wrap64 (-q) = -q := IntWalk.wrap64_in _ (by omega)
 have hw32 : IntKind.u32.wrap q = q := by have : IntKind.u32.wrap q = q % 4294967296 := rfl; rw [this]; omega
 rw [hq] at hm
 have hV : smallV b less = if b then -q else q := by unfold smallV; rw [hq]
 rw [hV]
 clear hV hq
 go_enter Tryz.func55, Tryz.ntmps55
 go_upto_region 1 with (fail)
 refine name1 (Q := fun W => Code.wp _ _ _ _ W) ?_
 intro W hl hs k1
 have c0 := k1.cell 0
 have c1 := k1.cell 1
 have c2 := k1.cell 2
 cases b
 ·go_wp2
  go_ret
  exact ⟨rfl, hl⟩
 ·go_wp2
  go_ret
  exact ⟨rfl, hl⟩
set_option maxRecDepth 100000 in
set_option maxHeartbeats 2000000 in
theorem rWOf_any (n : Int) (h0 : -9223372036854775808 ≤ n) (h1 : n < 9223372036854775808) (w : World) :
  Calls Tryz.prog 12 #[.int .i64 n] w (fun e w' => e = .returned (.agg #[.int .u64 (W8.of n).a0, .int .u64 (W8.of n).a1, .int .u64 (W8.of n).a2, .int .u64 (W8.of n).a3, .int .u64 (W8.of n).a4, .int .u64 (W8.of n).a5, .int .u64 (W8.of n).a6, .int .u64 (W8.of n).a7]) ∧ Lat w w') := by
 have HL := fun w => rLong1_any n w h0 h1
 have hp : (9223372036854775808 : Int) ≤ P511 := by decide
 go_enter Tryz.func12, Tryz.ntmps12
 go_upto_region 1 with (fail)
 refine name1 (Q := fun W => Code.wp _ _ _ _ W) ?_
 intro W hl hs k2
 go_wp2_with fail
 refine (HL W).mono ?_
 rintro e w1 ⟨b, A, m, c, rfl, r1, r2, l1⟩
 replace k2 := k2.later l1
 have L1 := hl.trans l1
 go_wp2_with fail
 refine (rOut_any b A m c n w1 r1 (by omega)).mono ?_
 rintro e w2 ⟨u, r, rfl, hu, l2⟩
 obtain ⟨rfl, rfl⟩ : u = W8.of n ∧ r = 0 := by
  rcases hu with ⟨_, _, h, h'⟩ | ⟨h, _⟩
  ·exact ⟨h, h'⟩
  ·omega
 replace k2 := k2.later l2
 have L2 := L1.trans l2
 clear hu l1 l2 L1 r1 r2 hl hs HL
 obtain ⟨g, hg⟩ : ∃ g, w.heap.size = g := ⟨_, rfl⟩
 rw [hg] at k2 ⊢
 have hwg : w.heap.size ≤ g := by omega
 clear hg
 obtain ⟨u, hu⟩ : ∃ u, W8.of n = u := ⟨_, rfl⟩
 rw [hu]
 go_upto_region 2 with (fail)
 refine name1 (Q := fun W => Code.wp _ _ _ _ W) ?_
 intro W3 l3 hs3 k3
 replace k2 := k2.later l3
 have L3 := L2.trans l3
 have d0 := k3.cell 0
 have d1 := k3.cell 1
 have d2 := k3.cell 2
 have d3 := k3.cell 3
 have d4 := k3.cell 4
 have d5 := k3.cell 5
 have d6 := k3.cell 6
 have d7 := k3.cell 7
 have p0 := k2.cell 0
 have p1 := k2.cell 1
 have p2 := k2.cell 2
 have p3 := k2.cell 3
 have p4 := k2.cell 4
 have p5 := k2.cell 5
 have p6 := k2.cell 6
 have p7 := k2.cell 7
 have f0 := k2.frozen 0
 have f1 := k2.frozen 1
 have f2 := k2.frozen 2
 have f3 := k2.frozen 3
 have f4 := k2.frozen 4
 have f5 := k2.frozen 5
 have f6 := k2.frozen 6
 have f7 := k2.frozen 7
 have hlt := k2.lt
 go_wp2
 refine name_put8 (Q := fun W => bodyPost _ _ _ _ _ W) k2 ?_
 intro W4 k4 l4
 have e0 := k4.cell 0
 have e1 := k4.cell 1
 have e2 := k4.cell 2
 have e3 := k4.cell 3
 have e4 := k4.cell 4
 have e5 := k4.cell 5
 have e6 := k4.cell 6
 have e7 := k4.cell 7
 refine bodyPost_ret (v := .agg #[.int .u64 u.a0, .int .u64 u.a1, .int .u64 u.a2, .int .u64 u.a3, .int .u64 u.a4, .int .u64 u.a5, .int .u64 u.a6, .int .u64 u.a7]) (by simp [results, Tryz.results12, go_sem, e0, e1, e2, e3, e4, e5, e6, e7]) rfl ?_
 exact ⟨by rw [hu], l4.narrow L3 hwg⟩
end Go.Proofs.YtogkkhaepfablaaGreat
namespace Go.Proofs.YtogkkhaepfablaaGreat
open Go.RowKit
def RefF (w : World) (z : Int) (N : Nat) (e : Ending) (w' : World) : Prop :=
 ∃ b A n c, e = .returned (.agg #[.bool b, .slice A n c]) ∧ Rg w' b A n c z ∧ n ≤ N ∧ Lat w w' ∧ ∀ a, A = some a → w.heap.size ≤ a.block
def RefN (w : World) (z : Int) (N : Nat) (e : Ending) (w' : World) : Prop :=
 ∃ A n c, e = .returned (.agg #[.bool false, .slice A n c]) ∧ Rg w' false A n c z ∧ n ≤ N ∧ Lat w w'
theorem RefPost.nonneg {w w' : World} {z : Int} {N : Nat} {e : Ending} (h : RefPost w z N e w') (hz : 0 ≤ z) : RefN w z N e w' := by
 obtain ⟨b, A, n, c, rfl, h1, h2, h3⟩ := h
 cases b with
 | false => exact ⟨_, _, _, rfl, h1, h2, h3⟩
 | true => have := h1.neg_of; omega
end Go.Proofs.YtogkkhaepfablaaGreat
namespace Go.Proofs.YtogkkhaepfablaaGreat
open Go.RowKit
def LV (z : Int) (N : Nat) (v : Value) (w : World) : Prop := ∃ b A n c, v = .agg #[.bool b, .slice A n c] ∧ Rg w b A n c z ∧ n ≤ N
def LN (z : Int) (N : Nat) (v : Value) (w : World) : Prop := ∃ A n c, v = .agg #[.bool false, .slice A n c] ∧ Rg w false A n c z ∧ n ≤ N
section
variable {z : Int} {N B : Nat} {v : Value} {w w' : World} {e : Ending} {d : Prop}
theorem LV.mono (h : LV z N v w) (hl : Lat w w') : LV z N v w' := by
 obtain ⟨b, A, n, c, e, hr, hn⟩ := h
 exact ⟨b, A, n, c, e, hr.later hl, hn⟩
theorem LN.mono (h : LN z N v w) (hl : Lat w w') : LN z N v w' := by
 obtain ⟨A, n, c, e, hr, hn⟩ := h
 exact ⟨A, n, c, e, hr.later hl, hn⟩
theorem RefPost.run (h : RefPost w z N e w') : ∃ v, e = .returned v ∧ (Lat w w' ∧ (d → LV z N v w')) := by
 obtain ⟨b, A, n, c, e, hr, hn, hl⟩ := h
 exact ⟨_, e, hl, fun _ => ⟨b, A, n, c, rfl, hr, hn⟩⟩
theorem RefN.run (h : RefN w z N e w') : ∃ v, e = .returned v ∧ (Lat w w' ∧ (d → LN z N v w')) := by
 obtain ⟨A, n, c, e, hr, hn, hl⟩ := h
 exact ⟨_, e, hl, fun _ => ⟨A, n, c, rfl, hr, hn⟩⟩
end
end Go.Proofs.YtogkkhaepfablaaGreat
namespace Go.Proofs.YtogkkhaepfablaaGreat
open Go.RowKit
set_option linter.unusedSimpArgs false
set_option linter.unusedVariables false
theorem rg_nil (V : World) : Rg V false none 0 0 0 := ⟨Nat.le_refl _, [], Sl.nil _ _ _, (fun y h => absurd h (by simp)), (by first | exact trivial | simp [Nz]), (fun h => by cases h), by simp [sgn, val]⟩
end Go.Proofs.YtogkkhaepfablaaGreat
namespace Go.Proofs.YtogkkhaepfablaaGreat
open Go.RowKit
structure DrIn (w : World) (A : Option Addr) (n : Nat) (less : Int) : Prop where
 l0 : 0 ≤ less ∧ less < 4294967296
 s : ∃ xs, Sl w .u16 A n xs ∧ ∀ x ∈ xs, 0 ≤ x ∧ x ≤ 65535
end Go.Proofs.YtogkkhaepfablaaGreat
namespace Go.Proofs.YtogkkhaepfablaaGreat
open Go.RowKit
theorem wide_in {u v : W8} (hu : u.ok) (hv : v.ok) (w : World) : (Op.equalIn 10000 26 (.agg #[.int .u64 u.a0, .int .u64 u.a1, .int .u64 u.a2, .int .u64 u.a3, .int .u64 u.a4, .int .u64 u.a5, .int .u64 u.a6, .int .u64 u.a7]) (.agg #[.int .u64 v.a0, .int .u64 v.a1, .int .u64 v.a2, .int .u64 v.a3, .int .u64 v.a4, .int .u64 v.a5, .int .u64 v.a6, .int .u64 v.a7])).run Tryz.prog w = .ok (decide (u.mag = v.mag)) w := by
 obtain ⟨r, hr, hi⟩ := run_equalIn_deep (P := Tryz.prog) 9990 10 26 (by kernel_rfl) w 10 10 (.agg #[.int .u64 u.a0, .int .u64 u.a1, .int .u64 u.a2, .int .u64 u.a3, .int .u64 u.a4, .int .u64 u.a5, .int .u64 u.a6, .int .u64 u.a7]) (.agg #[.int .u64 v.a0, .int .u64 v.a1, .int .u64 v.a2, .int .u64 v.a3, .int .u64 v.a4, .int .u64 v.a5, .int .u64 v.a6, .int .u64 v.a7]) _ _ (by kernel_rfl) (by kernel_rfl) (key30 hu 8) (key30 hv 8)
 have e : r = decide (u.mag = v.mag) := by
  rw [litsW_inj] at hi
  rw [Bool.eq_iff_iff, decide_eq_true_eq, hi]
  exact ⟨fun h => by rw [h], fun h => W8.mag_inj hu hv h⟩
 rw [hr, e]
end Go.Proofs.YtogkkhaepfablaaGreat
