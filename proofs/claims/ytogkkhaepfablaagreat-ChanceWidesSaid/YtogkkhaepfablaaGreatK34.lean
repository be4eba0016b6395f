/- Several texts in one: RgD, DwA, Frac, DwB, DwC, DwF, InvL, Lv, DwW, DwD, InvM, CvA, CvB, Below, Frame, FrameC, CvC. -/
import Derived.Test.YtogkkhaepfablaaGreatJ19
import Derived.Test.YtogkkhaepfablaaGreatChP
import Derived.Deep.DeepCutAuto
import Derived.Test.YtogkkhaepfablaaGreatJ22
import Derived.Test.YtogkkhaepfablaaGreatChJ
import Derived.Test.YtogkkhaepfablaaGreatJ13
import Derived.Test.YtogkkhaepfablaaGreatJ23
import Derived.Test.YtogkkhaepfablaaGreatJ25
import Derived.Test.YtogkkhaepfablaaGreatChX
import Derived.Test.YtogkkhaepfablaaGreatJ18
import Derived.Test.YtogkkhaepfablaaGreatInv
import Derived.Test.YtogkkhaepfablaaGreatSlq
import Derived.Test.YtogkkhaepfablaaGreatJ28
import Derived.Test.YtogkkhaepfablaaGreatK30
import Derived.Test.YtogkkhaepfablaaGreatK31
import Derived.Test.YtogkkhaepfablaaGreatCwC
import Derived.Test.YtogkkhaepfablaaGreatRows
import Derived.Test.YtogkkhaepfablaaGreatJ01
import Derived.Below
import Derived.WalkKit
import Derived.ProofKit
import Derived.OpenShut
import Derived.ShutString
import Derived.ChangeSame
import Derived.ReadAgain
import Derived.Lib.SmallJoins
import Derived.Test.YtogkkhaepfablaaGreatCwD
import Derived.Deep.Strs

/- Chance: the reference's powers. -/
namespace Go.Proofs.YtogkkhaepfablaaGreat
open Go.RowKit
set_option linter.unusedSimpArgs false

theorem rg_succ (k : Nat) : Value.int .i64 ((k : Int) + 1) = .int .i64 ((k + 1 : Nat) : Int) := by simp
theorem rg_up {b k : Nat} (h : k < b) : b - (intOf (.int .i64 ((k : Int) + 1))).toNat < b - (intOf (.int .i64 (k : Int))).toNat := by
  show b - ((k : Int) + 1).toNat < b - ((k : Int)).toNat
  omega
/-- A number goes on where one block that holds no int is written. -/
theorem Rg.keepL {w W : World} {b : Bool} {A : Option Addr} {n c : Nat} {z : Int} {g : Nat} {t : TypeId} {cs : Array Value} (h : Rg w b A n c z) (hl : LatP (· = g) w W) (hb : Blk w g t cs) (hno : ∀ (j : Nat) (x : Int), cs[j]? ≠ some (.int .i64 x)) : Rg W b A n c z := by
  have ha := h.apart hb hno
  obtain ⟨hn, xs, hs, r⟩ := h
  refine ⟨hn, xs, ⟨hs.1, fun hp => ?_⟩, r⟩
  obtain ⟨a, e, hlt, hc⟩ := hs.2 hp
  refine ⟨a, e, Nat.lt_of_lt_of_le hlt hl.size, fun i x hx => ?_⟩
  have hk : W.heap[(a.add i).block]? = w.heap[(a.add i).block]? := by rw [block_add]; exact hl.block _ hlt (ha hp a e)
  exact (World.cell?_of_block hk).trans (hc i x hx)
/-- A number written over another one: the world under a name. -/
theorem name_long {w : World} {g : Nat} {t : TypeId} {b0 b' : Bool} {A0 A' : Option Addr} {n0 c0 n' c' : Nat} {Q : World → Prop} (hb : Blk w g t #[.bool b0, .slice A0 n0 c0])
    (h : ∀ W, Blk W g t #[.bool b', .slice A' n' c'] → LatP (· = g) w W → (∀ {b A n c z}, Rg w b A n c z → Rg W b A n c z) → Q W) :
    Q ((w.setCell ⟨g, 0, none⟩ (.bool b')).setCell ⟨g, 1, none⟩ (.slice A' n' c')) := by
  refine h _ ?_ ?_ ?_
  · have := (hb.set 0 (.bool b')).set 1 (.slice A' n' c')
    simpa using this
  · exact LatP.setCells [.bool b', .slice A' n' c'] w 0
  · intro b A n c z hr
    have ha := hr.apart hb (no_i64 _ _ _ _)
    exact (hr.far (p := ⟨g, 0, none⟩) ha _).far (p := ⟨g, 1, none⟩) ha _

set_option maxRecDepth 100000 in
set_option maxHeartbeats 1000000 in
theorem rRaised_any (b1 : Bool) (A1 : Option Addr) (n1 c1 : Nat) (x : Int) (k : Nat) (w : World) (h1 : Rg w b1 A1 n1 c1 x) (hn : n1 ≤ 2) (hk : k ≤ 1000) :
    Calls Tryz.prog 37 #[.agg #[.bool b1, .slice A1 n1 c1], .int .i64 k] w (RefPost w (x ^ k) (2 + 2 * k)) := by
  go_enter Tryz.func37, Tryz.ntmps37
  go_upto_region 1 with (fail)
  refine name2 (Q := fun W => Code.wp _ _ _ _ W) ?_
  intro W hl hs k2 k4
  go_wp2_with fail
  refine (rLong1_any 1 W (by decide) (by decide)).mono ?_
  rintro e w1 ⟨b, A, n, c, rfl, r1, r2, l1⟩
  replace k2 := k2.later l1
  replace k4 := k4.later l1
  have L1 := hl.trans l1
  have R1 := h1.later L1
  have h4 := k4.lt
  clear h1 hl l1 hs
  go_upto_region 2 with (fail)
  refine name1 (Q := fun W => Code.wp _ _ _ _ W) ?_
  intro w2 l2 hs2 k5
  replace k2 := k2.later l2
  replace k4 := k4.later l2
  have L2 := L1.trans l2
  have R2 := R1.later l2
  replace r1 := r1.later l2
  obtain ⟨g5, hg5⟩ : ∃ z, w1.heap.size = z := ⟨_, rfl⟩
  rw [hg5] at k5 h4 ⊢
  obtain ⟨g4, hg4⟩ : ∃ z, w.heap.size + 1 = z := ⟨_, rfl⟩
  rw [hg4] at k4 h4 ⊢
  have hw4 : w.heap.size ≤ g4 := by omega
  clear hg5 hg4 L1 R1 l2 hs2
  go_wp2_with fail
  go_loopw [6] (fun i wr => ∃ (j : Nat) (b : Bool) (A : Option Addr) (n c : Nat), i = .int .i64 j ∧ j ≤ k ∧ Rg wr b A n c (x ^ j) ∧ n ≤ 2 + 2 * j ∧ Rg wr b1 A1 n1 c1 x ∧ Blk wr w.heap.size 85 #[.bool b1, .slice A1 n1 c1] ∧ Blk wr g4 85 #[.bool false, .slice none 0 0] ∧ Blk wr g5 85 #[.bool b, .slice A n c] ∧ Lat w wr) (fun i _ => k - (intOf i).toNat)
  case atStart => exact ⟨0, b, A, n, c, rfl, by omega, by rw [Int.pow_zero]; exact r1, by omega, R2, k2, k4, k5, L2⟩
  case round =>
    clear r1 r2 k2 k4 k5 L2 R2
    obtain ⟨j, b, A, n, c, rfl, hj, r1, r2, R2, k2, k4, k5, L2⟩ := hrel
    by_cases hjk : j < k
    · have hjI : (j : Int) < (k : Int) := by omega
      have d0 := k2.cell 0
      have d1 := k2.cell 1
      have e0 := k5.cell 0
      have e1 := k5.cell 1
      go_wp2_with fail
      refine (rTimes_any b A n c (x ^ j) b1 A1 n1 c1 x wr r1 R2 (by omega) (by omega)).mono ?_
      rintro e w3 ⟨b', A', n', c', rfl, q1, q2, l3⟩
      replace k2 := k2.later l3
      replace k4 := k4.later l3
      replace k5 := k5.later l3
      have L3 := L2.trans l3
      have R3 := R2.later l3
      clear d0 d1 e0 e1 r1 R2 l3
      have e0 := k5.cell 0
      have e1 := k5.cell 1
      have f0 := k5.frozen 0
      have f1 := k5.frozen 1
      have hlt := k5.lt
      have hlt4 := k4.lt
      go_upto_region 4 with (fail)
      refine name_long (Q := fun W => Code.wp _ _ _ _ W) k5 ?_
      intro w4 j5 l4 hr4
      have j2 := k2.keepP l4 (by omega)
      have j4 := k4.keepP l4 (by omega)
      have L4 := l4.narrow L3 (by omega)
      go_wp2
      exact ⟨⟨j + 1, b', A', n', c', rg_succ j, hjk, by rw [Int.pow_succ]; exact hr4 q1, by omega, hr4 R3, j2, j4, j5, L4⟩, rg_up hjk⟩
    · obtain rfl : j = k := by omega
      have e0 := k5.cell 0
      have e1 := k5.cell 1
      have f0 := k4.frozen 0
      have f1 := k4.frozen 1
      have d0 := k4.cell 0
      have d1 := k4.cell 1
      have hlt := k4.lt
      go_wp2
      refine name_long (Q := fun W => bodyPost _ _ _ _ _ W) k4 ?_
      intro w4 j4 l4 hr4
      have c0 := j4.cell 0
      have c1 := j4.cell 1
      refine bodyPost_ret (v := .agg #[.bool b, .slice A n c]) (by simp [results, Tryz.results37, go_sem, c0, c1]) rfl ?_
      exact ⟨b, A, n, c, rfl, hr4 r1, r2, l4.narrow L2 hw4⟩
end Go.Proofs.YtogkkhaepfablaaGreat

/- The reference's drafts of numbers: Small, and Of. -/
namespace Go.Proofs.YtogkkhaepfablaaGreat
open Go.RowKit
set_option linter.unusedSimpArgs false

/-- A draft's small number. -/
def smallV (b : Bool) (less : Int) : Int := if b then -(less % 1000001) else less % 1000001
theorem smallV_in (b : Bool) {less : Int} : -1000000 ≤ smallV b less ∧ smallV b less ≤ 1000000 := by
  have h1 := Int.emod_nonneg less (show (1000001 : Int) ≠ 0 by decide)
  have h2 := Int.emod_lt_of_pos less (show (0 : Int) < 1000001 by decide)
  unfold smallV
  cases b
  · rw [if_neg (by decide)]; omega
  · rw [if_pos rfl]; omega
set_option maxRecDepth 100000 in
set_option maxHeartbeats 1000000 in
theorem rSmall_any (b : Bool) (A : Option Addr) (n c : Nat) (less : Int) (h : 0 ≤ less ∧ less < 4294967296) (w : World) :
    Calls Tryz.prog 55 #[.agg #[.bool b, .slice A n c, .int .u32 less]] w (fun e w' => e = .returned (.int .i64 (smallV b less)) ∧ Lat w w') := by
  have hm : less.tmod 1000001 = less % 1000001 := Int.tmod_eq_emod_of_nonneg h.1
  obtain ⟨q, hq⟩ : ∃ q, less % 1000001 = q := ⟨_, rfl⟩
  have hq2 : 0 ≤ q ∧ q < 1000001 := by omega
  have hw : wrap64 q = q := IntWalk.wrap64_in _ (by omega)
  have hwn : wrap64 (-q) = -q := IntWalk.wrap64_in _ (by omega)
  have hw32 : IntKind.u32.wrap q = q := by have : IntKind.u32.wrap q = q % 4294967296 := rfl; rw [this]; omega
  rw [hq] at hm
  have hV : smallV b less = if b then -q else q := by unfold smallV; rw [hq]
  rw [hV]
  clear hV hq
  go_enter Tryz.func55, Tryz.ntmps55
  go_upto_region 1 with (fail)
  refine name1 (Q := fun W => Code.wp _ _ _ _ W) ?_
  intro W hl hs k1
  have c0 := k1.cell 0
  have c1 := k1.cell 1
  have c2 := k1.cell 2
  cases b
  · go_wp2
    go_ret
    exact ⟨rfl, hl⟩
  · go_wp2
    go_ret
    exact ⟨rfl, hl⟩

set_option maxRecDepth 100000 in
set_option maxHeartbeats 2000000 in
theorem rWOf_any (n : Int) (h0 : -9223372036854775808 ≤ n) (h1 : n < 9223372036854775808) (w : World) :
    Calls Tryz.prog 12 #[.int .i64 n] w (fun e w' => e = .returned (.agg #[.int .u64 (W8.of n).a0, .int .u64 (W8.of n).a1, .int .u64 (W8.of n).a2, .int .u64 (W8.of n).a3, .int .u64 (W8.of n).a4, .int .u64 (W8.of n).a5, .int .u64 (W8.of n).a6, .int .u64 (W8.of n).a7]) ∧ Lat w w') := by
  have HL := fun w => rLong1_any n w h0 h1
  have hp : (9223372036854775808 : Int) ≤ P511 := by decide
  go_enter Tryz.func12, Tryz.ntmps12
  go_upto_region 1 with (fail)
  refine name1 (Q := fun W => Code.wp _ _ _ _ W) ?_
  intro W hl hs k2
  go_wp2_with fail
  refine (HL W).mono ?_
  rintro e w1 ⟨b, A, m, c, rfl, r1, r2, l1⟩
  replace k2 := k2.later l1
  have L1 := hl.trans l1
  go_wp2_with fail
  refine (rOut_any b A m c n w1 r1 (by omega)).mono ?_
  rintro e w2 ⟨u, r, rfl, hu, l2⟩
  obtain ⟨rfl, rfl⟩ : u = W8.of n ∧ r = 0 := by
    rcases hu with ⟨_, _, h, h'⟩ | ⟨h, _⟩
    · exact ⟨h, h'⟩
    · omega
  replace k2 := k2.later l2
  have L2 := L1.trans l2
  clear hu l1 l2 L1 r1 r2 hl hs HL
  obtain ⟨g, hg⟩ : ∃ g, w.heap.size = g := ⟨_, rfl⟩
  rw [hg] at k2 ⊢
  have hwg : w.heap.size ≤ g := by omega
  clear hg
  obtain ⟨u, hu⟩ : ∃ u, W8.of n = u := ⟨_, rfl⟩
  rw [hu]
  go_upto_region 2 with (fail)
  refine name1 (Q := fun W => Code.wp _ _ _ _ W) ?_
  intro W3 l3 hs3 k3
  replace k2 := k2.later l3
  have L3 := L2.trans l3
  have d0 := k3.cell 0
  have d1 := k3.cell 1
  have d2 := k3.cell 2
  have d3 := k3.cell 3
  have d4 := k3.cell 4
  have d5 := k3.cell 5
  have d6 := k3.cell 6
  have d7 := k3.cell 7
  have p0 := k2.cell 0
  have p1 := k2.cell 1
  have p2 := k2.cell 2
  have p3 := k2.cell 3
  have p4 := k2.cell 4
  have p5 := k2.cell 5
  have p6 := k2.cell 6
  have p7 := k2.cell 7
  have f0 := k2.frozen 0
  have f1 := k2.frozen 1
  have f2 := k2.frozen 2
  have f3 := k2.frozen 3
  have f4 := k2.frozen 4
  have f5 := k2.frozen 5
  have f6 := k2.frozen 6
  have f7 := k2.frozen 7
  have hlt := k2.lt
  go_wp2
  refine name_put8 (Q := fun W => bodyPost _ _ _ _ _ W) k2 ?_
  intro W4 k4 l4
  have e0 := k4.cell 0
  have e1 := k4.cell 1
  have e2 := k4.cell 2
  have e3 := k4.cell 3
  have e4 := k4.cell 4
  have e5 := k4.cell 5
  have e6 := k4.cell 6
  have e7 := k4.cell 7
  refine bodyPost_ret (v := .agg #[.int .u64 u.a0, .int .u64 u.a1, .int .u64 u.a2, .int .u64 u.a3, .int .u64 u.a4, .int .u64 u.a5, .int .u64 u.a6, .int .u64 u.a7]) (by simp [results, Tryz.results12, go_sem, e0, e1, e2, e3, e4, e5, e6, e7]) rfl ?_
  exact ⟨by rw [hu], l4.narrow L3 hwg⟩
end Go.Proofs.YtogkkhaepfablaaGreat

/- Fractions in lowest terms, and the shares that hold them; no program is in sight. -/
namespace Go.Proofs.YtogkkhaepfablaaGreat
open Go.RowKit

theorem low_pos {x y : Int} (hy : 0 < y) : lowN x y = x / Int.gcd x y ∧ lowD x y = y / Int.gcd x y := by
  rw [lowN, lowD, if_neg (by omega), if_neg (by omega)]; exact ⟨rfl, rfl⟩
theorem gcd_pos' {x y : Int} (hy : 0 < y) : (0 : Int) < Int.gcd x y := by
  have := Int.gcd_pos_of_ne_zero_right x (show y ≠ 0 by omega)
  omega
theorem low_mul {x y : Int} (hy : 0 < y) : lowN x y * Int.gcd x y = x ∧ lowD x y * Int.gcd x y = y := by
  obtain ⟨h1, h2⟩ := low_pos (x := x) hy
  rw [h1, h2]
  exact ⟨Int.ediv_mul_cancel (Int.gcd_dvd_left ..), Int.ediv_mul_cancel (Int.gcd_dvd_right ..)⟩
theorem lowD_pos {x y : Int} (hy : 0 < y) : 0 < lowD x y := by
  have h := (low_mul (x := x) hy).2
  have hg := gcd_pos' (x := x) hy
  rcases Int.lt_or_le 0 (lowD x y) with h1 | h1
  · exact h1
  · have := Int.mul_le_mul_of_nonneg_right h1 (Int.le_of_lt hg)
    omega
theorem low_ok {x y : Int} (hy : 0 < y) : ShOk (lowN x y) (lowD x y) := by
  refine ⟨lowD_pos hy, ?_⟩
  obtain ⟨h1, h2⟩ := low_pos (x := x) hy
  rw [h1, h2]
  exact Int.gcd_ediv_gcd_ediv_gcd (by have := gcd_pos' (x := x) hy; omega)
theorem low_cross {x y : Int} (hy : 0 < y) : lowN x y * y = x * lowD x y := by
  obtain ⟨h1, h2⟩ := low_mul (x := x) hy
  have e : lowN x y * y = lowN x y * (lowD x y * Int.gcd x y) := by rw [h2]
  have e' : x * lowD x y = lowN x y * Int.gcd x y * lowD x y := by rw [h1]
  rw [e, e']
  grind
theorem cop_dvd {a b c : Int} (h : Int.gcd a b = 1) (hd : a ∣ b * c) : a ∣ c := by
  have h1 : a.natAbs ∣ b.natAbs * c.natAbs := by rw [← Int.natAbs_mul]; exact Int.natAbs_dvd_natAbs.2 hd
  exact Int.natAbs_dvd_natAbs.1 (Nat.Coprime.dvd_of_dvd_mul_left h h1)
theorem frac_unique {n1 d1 n2 d2 : Int} (h1 : ShOk n1 d1) (h2 : ShOk n2 d2) (h : n1 * d2 = n2 * d1) : n1 = n2 ∧ d1 = d2 := by
  have e1 : d1 ∣ d2 := by
    refine cop_dvd (b := n1) (by rw [Int.gcd_comm]; exact h1.2) ?_
    rw [h]; exact Int.dvd_mul_left ..
  have e2 : d2 ∣ d1 := by
    refine cop_dvd (b := n2) (by rw [Int.gcd_comm]; exact h2.2) ?_
    rw [← h]; exact Int.dvd_mul_left ..
  have e : d1 = d2 := Int.dvd_antisymm (Int.le_of_lt h1.1) (Int.le_of_lt h2.1) e1 e2
  subst e
  refine ⟨?_, rfl⟩
  exact Int.eq_of_mul_eq_mul_right (by have := h1.1; omega) h
/-- The same number, the same lowest terms. -/
theorem low_congr {a b c d : Int} (hb : 0 < b) (hd : 0 < d) (h : a * d = c * b) : lowN a b = lowN c d ∧ lowD a b = lowD c d := by
  refine frac_unique (low_ok hb) (low_ok hd) ?_
  have h1 := low_cross (x := a) hb
  have h2 := low_cross (x := c) hd
  have e : (lowN a b * lowD c d) * (b * d) = (lowN c d * lowD a b) * (b * d) := by
    have e1 : (lowN a b * lowD c d) * (b * d) = (lowN a b * b) * (lowD c d * d) := by grind
    have e2 : (lowN c d * lowD a b) * (b * d) = (lowN c d * d) * (lowD a b * b) := by grind
    rw [e1, e2, h1, h2]
    have e3 : a * lowD a b * (lowD c d * d) = (a * d) * (lowD a b * lowD c d) := by grind
    have e4 : c * lowD c d * (lowD a b * b) = (c * b) * (lowD a b * lowD c d) := by grind
    rw [e3, e4, h]
  exact Int.eq_of_mul_eq_mul_right (by have := Int.mul_pos hb hd; omega) e
theorem low_abs {x y : Int} (hy : 0 < y) : (lowN x y).natAbs ≤ x.natAbs ∧ lowD x y ≤ y := by
  obtain ⟨h1, h2⟩ := low_mul (x := x) hy
  have hg := gcd_pos' (x := x) hy
  constructor
  · have : x.natAbs = (lowN x y).natAbs * (Int.gcd x y) := by
      conv => lhs; rw [← h1]
      rw [Int.natAbs_mul]; simp
    rw [this]
    exact Nat.le_mul_of_pos_right _ (by omega)
  · have := Int.mul_le_mul_of_nonneg_left (show (1 : Int) ≤ Int.gcd x y by omega) (Int.le_of_lt (lowD_pos (x := x) hy))
    omega
/-- The sign of a difference of fractions. -/
theorem side_scale {a k : Int} (hk : 0 < k) : sideOf (a * k) = sideOf a := by
  unfold sideOf
  rcases Int.lt_trichotomy a 0 with h | h | h
  · rw [if_pos h, if_pos (Int.mul_neg_of_neg_of_pos h hk)]
  · subst h; simp
  · have := Int.mul_pos h hk
    rw [if_neg (by omega), if_neg (by omega), if_neg (by omega), if_neg (by omega)]
theorem side_low {a b c d : Int} (hb : 0 < b) (hd : 0 < d) : sideOf (lowN a b * lowD c d - lowN c d * lowD a b) = sideOf (a * d - c * b) := by
  obtain ⟨h1, h2⟩ := low_mul (x := a) hb
  obtain ⟨h3, h4⟩ := low_mul (x := c) hd
  have hg := gcd_pos' (x := a) hb
  have hg' := gcd_pos' (x := c) hd
  have e : a * d - c * b = (lowN a b * lowD c d - lowN c d * lowD a b) * ((Int.gcd a b : Int) * (Int.gcd c d : Int)) := by
    generalize lowN a b = p at *
    generalize lowD a b = q at *
    generalize lowN c d = r at *
    generalize lowD c d = s at *
    generalize (Int.gcd a b : Int) = g at *
    generalize (Int.gcd c d : Int) = k at *
    rw [← h1, ← h2, ← h3, ← h4]
    grind
  rw [e, side_scale (Int.mul_pos hg hg')]

/-- The share of N / D. -/
def ShV (u v : W8) (N D : Int) : Prop := u = W8.of (lowN N D) ∧ v = W8.of (lowD N D)
/-- A fraction that is not too great. -/
def Fits (N D : Int) : Prop := 0 < D ∧ -P511 < N ∧ N < P511 ∧ D < P511
theorem Fits.low {N D : Int} (h : Fits N D) : -P511 ≤ lowN N D ∧ lowN N D < P511 ∧ -P511 ≤ lowD N D ∧ lowD N D < P511 := by
  obtain ⟨h0, h1, h2, h3⟩ := h
  obtain ⟨a1, a2⟩ := low_abs (x := N) h0
  have := lowD_pos (x := N) h0
  have := P511_pos
  omega
theorem ShV.facts {u v : W8} {N D : Int} (h : ShV u v N D) (hf : Fits N D) : u.ok ∧ v.ok ∧ u.toInt = lowN N D ∧ v.toInt = lowD N D ∧ ShOk u.toInt v.toInt := by
  obtain ⟨rfl, rfl⟩ := h
  obtain ⟨h1, h2, h3, h4⟩ := hf.low
  refine ⟨W8.of_ok _, W8.of_ok _, W8.of_toInt h1 h2, W8.of_toInt h3 h4, ?_⟩
  rw [W8.of_toInt h1 h2, W8.of_toInt h3 h4]
  exact low_ok hf.1
theorem ShV.congr {u v : W8} {a b c d : Int} (h : ShV u v a b) (hb : 0 < b) (hd : 0 < d) (he : a * d = c * b) : ShV u v c d := by
  obtain ⟨e1, e2⟩ := low_congr hb hd he
  unfold ShV at h ⊢
  rw [← e1, ← e2]
  exact h
/-- What a call leaves that returns the share of N / D, and no error. -/
def ShPost (w : World) (N D : Int) (e : Ending) (w' : World) : Prop := ∃ u v : W8, e = .returned (.tuple #[.agg #[.int .u64 u.a0, .int .u64 u.a1, .int .u64 u.a2, .int .u64 u.a3, .int .u64 u.a4, .int .u64 u.a5, .int .u64 u.a6, .int .u64 u.a7, .int .u64 v.a0, .int .u64 v.a1, .int .u64 v.a2, .int .u64 v.a3, .int .u64 v.a4, .int .u64 v.a5, .int .u64 v.a6, .int .u64 v.a7], .int .i64 0]) ∧ ShV u v N D ∧ Lat w w'
theorem SharePost.fits {w w' : World} {N D : Int} {e : Ending} (h : SharePost w (lowN N D) (lowD N D) e w') (hf : Fits N D) : ShPost w N D e w' := by
  obtain ⟨u, v, r, rfl, hs, hl⟩ := h
  obtain ⟨h1, h2, h3, h4⟩ := hf.low
  rcases hs with ⟨_, _, _, _, e1, e2, rfl⟩ | ⟨hbig, _⟩
  · exact ⟨u, v, rfl, ⟨e1, e2⟩, hl⟩
  · exfalso; omega
theorem fits_small {N D : Int} (h0 : 0 < D) (h1 : D ≤ 9223372036854775807) (h2 : -9223372036854775808 ≤ N) (h3 : N ≤ 9223372036854775807) : Fits N D := by
  have : (9223372036854775808 : Int) < P511 := by decide
  exact ⟨h0, by omega, by omega, by omega⟩
end Go.Proofs.YtogkkhaepfablaaGreat

/- The reference's Make, and made: a share of two wide numbers. -/
namespace Go.Proofs.YtogkkhaepfablaaGreat
open Go.RowKit
set_option linter.unusedSimpArgs false
set_option linter.unusedVariables false

theorem wide_in {u v : W8} (hu : u.ok) (hv : v.ok) (w : World) : (Op.equalIn 10000 26 (.agg #[.int .u64 u.a0, .int .u64 u.a1, .int .u64 u.a2, .int .u64 u.a3, .int .u64 u.a4, .int .u64 u.a5, .int .u64 u.a6, .int .u64 u.a7]) (.agg #[.int .u64 v.a0, .int .u64 v.a1, .int .u64 v.a2, .int .u64 v.a3, .int .u64 v.a4, .int .u64 v.a5, .int .u64 v.a6, .int .u64 v.a7])).run Tryz.prog w = .ok (decide (u.mag = v.mag)) w := by
  obtain ⟨r, hr, hi⟩ := run_equalIn_deep (P := Tryz.prog) 9990 10 26 (by kernel_rfl) w 10 10 (.agg #[.int .u64 u.a0, .int .u64 u.a1, .int .u64 u.a2, .int .u64 u.a3, .int .u64 u.a4, .int .u64 u.a5, .int .u64 u.a6, .int .u64 u.a7]) (.agg #[.int .u64 v.a0, .int .u64 v.a1, .int .u64 v.a2, .int .u64 v.a3, .int .u64 v.a4, .int .u64 v.a5, .int .u64 v.a6, .int .u64 v.a7]) _ _ (by kernel_rfl) (by kernel_rfl) (key30 hu 8) (key30 hv 8)
  have e : r = decide (u.mag = v.mag) := by
    rw [litsW_inj] at hi
    rw [Bool.eq_iff_iff, decide_eq_true_eq, hi]
    exact ⟨fun h => by rw [h], fun h => W8.mag_inj hu hv h⟩
  rw [hr, e]
theorem wide_zeroI {v : W8} (hv : v.ok) (w : World) : (Op.equalIn 10000 26 (.agg #[.int .u64 v.a0, .int .u64 v.a1, .int .u64 v.a2, .int .u64 v.a3, .int .u64 v.a4, .int .u64 v.a5, .int .u64 v.a6, .int .u64 v.a7]) (.agg #[.int .u64 0, .int .u64 0, .int .u64 0, .int .u64 0, .int .u64 0, .int .u64 0, .int .u64 0, .int .u64 0])).run Tryz.prog w = .ok (decide (v.toInt = 0)) w := by
  have h := wide_in hv W8.zero_ok w
  rw [show decide (v.mag = W8.zero.mag) = decide (v.toInt = 0) from decide_eq_decide.2 ?_] at h
  · exact h
  · constructor
    · intro e
      have : v = W8.zero := W8.mag_inj hv W8.zero_ok e
      rw [this]; decide
    · intro e
      have : v = W8.zero := by rw [W8.eq_of hv e, W8.zero_eq]
      rw [this]

set_option maxRecDepth 100000 in
set_option maxHeartbeats 4000000 in
theorem rMake_ok (u v : W8) (hu : u.ok) (hv : v.ok) (hz : v.toInt ≠ 0) (w : World) :
    Calls Tryz.prog 79 #[.agg #[.int .u64 u.a0, .int .u64 u.a1, .int .u64 u.a2, .int .u64 u.a3, .int .u64 u.a4, .int .u64 u.a5, .int .u64 u.a6, .int .u64 u.a7], .agg #[.int .u64 v.a0, .int .u64 v.a1, .int .u64 v.a2, .int .u64 v.a3, .int .u64 v.a4, .int .u64 v.a5, .int .u64 v.a6, .int .u64 v.a7]] w (SharePost w (lowN u.toInt v.toInt) (lowD u.toInt v.toInt)) := by
  have hd : ∀ w, (Op.equalIn 10000 26 (.agg #[.int .u64 v.a0, .int .u64 v.a1, .int .u64 v.a2, .int .u64 v.a3, .int .u64 v.a4, .int .u64 v.a5, .int .u64 v.a6, .int .u64 v.a7]) (.agg #[.int .u64 0, .int .u64 0, .int .u64 0, .int .u64 0, .int .u64 0, .int .u64 0, .int .u64 0, .int .u64 0])).run Tryz.prog w = .ok false w := fun w => by rw [wide_zeroI hv, decide_eq_false hz]
  have HX := rIn_any u hu
  have HY := rIn_any v hv
  have HZ := Lib.hid hz
  clear hu hv hz
  go_enter Tryz.func79, Tryz.ntmps79
  go_wp2
  refine name3 (Q := fun W => Code.wp _ _ _ _ W) ?_
  intro W hl hs k1 k2 k3
  have hne1 : w.heap.size ∉ [w.heap.size + 1 + 1] := by simp; omega
  have hne2 : w.heap.size + 1 ∉ [w.heap.size + 1 + 1] := by simp
  have a0 := k1.evS hne1 0 rfl
  have a1 := k1.evS hne1 1 rfl
  have a2 := k1.evS hne1 2 rfl
  have a3 := k1.evS hne1 3 rfl
  have a4 := k1.evS hne1 4 rfl
  have a5 := k1.evS hne1 5 rfl
  have a6 := k1.evS hne1 6 rfl
  have a7 := k1.evS hne1 7 rfl
  have d0 := k2.evS hne2 0 rfl
  have d1 := k2.evS hne2 1 rfl
  have d2 := k2.evS hne2 2 rfl
  have d3 := k2.evS hne2 3 rfl
  have d4 := k2.evS hne2 4 rfl
  have d5 := k2.evS hne2 5 rfl
  have d6 := k2.evS hne2 6 rfl
  have d7 := k2.evS hne2 7 rfl
  have L0 := Lat.drew W
  have M0 := L0.s [w.heap.size + 1 + 1]
  go_region_held3 (fun w' => LatS W [w.heap.size + 1 + 1] w') (first | (with_reducible assumption) | ((iterate 16 (refine LatS.set ?_ (by simp) _)); with_reducible assumption))
    (first
      | (have _h := HX; go_at_call 49; (with_reducible refine (HX _).mono ?_); rintro e w2 ⟨b1, A1, n1, c1, rfl, q1, q2, q3⟩; have L2 := L0.trans q3; have M2 := L2.s [w.heap.size + 1 + 1]; clear HX _h)
      | (have _h := HY; go_at_call 49; (with_reducible refine (HY _).mono ?_); rintro e w3 ⟨b3, A3, n3, c3, rfl, r1, r2, r3⟩; have L3 := L2.trans r3; have M3 := L3.s [w.heap.size + 1 + 1]; clear HY _h)
      | (go_at_call 96; refine (rLowest_any b1 A1 n1 c1 _ b3 A3 n3 c3 _ _ (q1.later r3) r1 HZ.out (by omega) (by omega)).mono ?_; rintro e w4 ⟨b, A, n, c, b', A', n', c', rfl, s1, s2, s3, s4, s5⟩; have L4 := L3.trans s5; have M4 := L4.s [w.heap.size + 1 + 1])
      | (go_at_call 95; refine (rrOut_any b A n c _ b' A' n' c' _ _ s1 s3 (by omega) (by omega)).mono ?_; rintro e w5 ⟨x, y, r, rfl, t1, t2⟩; have L5 := L4.trans t2; have M5 := L5.s [w.heap.size + 1 + 1]; have T1 := Lib.hid t1; clear t1; have K5 := k3.later L5
         have e0 := K5.cell 0
         have e1 := K5.cell 1
         have e2 := K5.cell 2
         have e3 := K5.cell 3
         have e4 := K5.cell 4
         have e5 := K5.cell 5
         have e6 := K5.cell 6
         have e7 := K5.cell 7
         have e8 := K5.cell 8
         have e9 := K5.cell 9
         have e10 := K5.cell 10
         have e11 := K5.cell 11
         have e12 := K5.cell 12
         have e13 := K5.cell 13
         have e14 := K5.cell 14
         have e15 := K5.cell 15
         have f0 := K5.frozen 0
         have f1 := K5.frozen 1
         have f2 := K5.frozen 2
         have f3 := K5.frozen 3
         have f4 := K5.frozen 4
         have f5 := K5.frozen 5
         have f6 := K5.frozen 6
         have f7 := K5.frozen 7
         have f8 := K5.frozen 8
         have f9 := K5.frozen 9
         have f10 := K5.frozen 10
         have f11 := K5.frozen 11
         have f12 := K5.frozen 12
         have f13 := K5.frozen 13
         have f14 := K5.frozen 14
         have f15 := K5.frozen 15
         have _u := True.intro))
  go_wp2
  refine bodyPost_ret (v := .tuple #[.agg #[.int .u64 x.a0, .int .u64 x.a1, .int .u64 x.a2, .int .u64 x.a3, .int .u64 x.a4, .int .u64 x.a5, .int .u64 x.a6, .int .u64 x.a7, .int .u64 y.a0, .int .u64 y.a1, .int .u64 y.a2, .int .u64 y.a3, .int .u64 y.a4, .int .u64 y.a5, .int .u64 y.a6, .int .u64 y.a7], .int .i64 r]) (by simp [results, Tryz.results79, go_sem, e0, e1, e2, e3, e4, e5, e6, e7, e8, e9, e10, e11, e12, e13, e14, e15]) rfl ?_
  refine ⟨x, y, r, rfl, T1.out, ?_⟩
  iterate 16 (refine Lat.setCell ?_ (by simp; try omega) _)
  exact hl.trans L5
set_option maxRecDepth 100000 in
set_option maxHeartbeats 4000000 in
theorem rMake_zero (u v : W8) (hv : v.ok) (hz : v.toInt = 0) (w : World) :
    Calls Tryz.prog 79 #[.agg #[.int .u64 u.a0, .int .u64 u.a1, .int .u64 u.a2, .int .u64 u.a3, .int .u64 u.a4, .int .u64 u.a5, .int .u64 u.a6, .int .u64 u.a7], .agg #[.int .u64 v.a0, .int .u64 v.a1, .int .u64 v.a2, .int .u64 v.a3, .int .u64 v.a4, .int .u64 v.a5, .int .u64 v.a6, .int .u64 v.a7]] w (fun e w' => e = .returned (.tuple #[.agg #[.int .u64 W8.zero.a0, .int .u64 W8.zero.a1, .int .u64 W8.zero.a2, .int .u64 W8.zero.a3, .int .u64 W8.zero.a4, .int .u64 W8.zero.a5, .int .u64 W8.zero.a6, .int .u64 W8.zero.a7, .int .u64 W8.zero.a0, .int .u64 W8.zero.a1, .int .u64 W8.zero.a2, .int .u64 W8.zero.a3, .int .u64 W8.zero.a4, .int .u64 W8.zero.a5, .int .u64 W8.zero.a6, .int .u64 W8.zero.a7], .int .i64 7]) ∧ Lat w w') := by
  have hd : ∀ w, (Op.equalIn 10000 26 (.agg #[.int .u64 v.a0, .int .u64 v.a1, .int .u64 v.a2, .int .u64 v.a3, .int .u64 v.a4, .int .u64 v.a5, .int .u64 v.a6, .int .u64 v.a7]) (.agg #[.int .u64 0, .int .u64 0, .int .u64 0, .int .u64 0, .int .u64 0, .int .u64 0, .int .u64 0, .int .u64 0])).run Tryz.prog w = .ok true w := fun w => by rw [wide_zeroI hv, decide_eq_true hz]
  clear hv hz
  go_enter Tryz.func79, Tryz.ntmps79
  go_upto_region 1 with (fail)
  refine name3 (Q := fun W => Code.wp _ _ _ _ W) ?_
  intro W hl hs k1 k2 k3
  have d0 := k2.cell 0
  have d1 := k2.cell 1
  have d2 := k2.cell 2
  have d3 := k2.cell 3
  have d4 := k2.cell 4
  have d5 := k2.cell 5
  have d6 := k2.cell 6
  have d7 := k2.cell 7
  have e0 := k3.cell 0
  have e1 := k3.cell 1
  have e2 := k3.cell 2
  have e3 := k3.cell 3
  have e4 := k3.cell 4
  have e5 := k3.cell 5
  have e6 := k3.cell 6
  have e7 := k3.cell 7
  have e8 := k3.cell 8
  have e9 := k3.cell 9
  have e10 := k3.cell 10
  have e11 := k3.cell 11
  have e12 := k3.cell 12
  have e13 := k3.cell 13
  have e14 := k3.cell 14
  have e15 := k3.cell 15
  have f0 := k3.frozen 0
  have f1 := k3.frozen 1
  have f2 := k3.frozen 2
  have f3 := k3.frozen 3
  have f4 := k3.frozen 4
  have f5 := k3.frozen 5
  have f6 := k3.frozen 6
  have f7 := k3.frozen 7
  have f8 := k3.frozen 8
  have f9 := k3.frozen 9
  have f10 := k3.frozen 10
  have f11 := k3.frozen 11
  have f12 := k3.frozen 12
  have f13 := k3.frozen 13
  have f14 := k3.frozen 14
  have f15 := k3.frozen 15
  have hlt := k3.lt
  go_wp2
  refine bodyPost_ret (v := .tuple #[.agg #[.int .u64 W8.zero.a0, .int .u64 W8.zero.a1, .int .u64 W8.zero.a2, .int .u64 W8.zero.a3, .int .u64 W8.zero.a4, .int .u64 W8.zero.a5, .int .u64 W8.zero.a6, .int .u64 W8.zero.a7, .int .u64 W8.zero.a0, .int .u64 W8.zero.a1, .int .u64 W8.zero.a2, .int .u64 W8.zero.a3, .int .u64 W8.zero.a4, .int .u64 W8.zero.a5, .int .u64 W8.zero.a6, .int .u64 W8.zero.a7], .int .i64 7]) (by simp [results, Tryz.results79, go_sem, e0, e1, e2, e3, e4, e5, e6, e7, e8, e9, e10, e11, e12, e13, e14, e15, W8.zero]) rfl ?_
  refine ⟨rfl, ?_⟩
  iterate 16 (refine Lat.setCell ?_ (by simp; try omega) _)
  exact hl
/-- A valid share whose parts lie in the range. -/
structure ShFit (N D : Int) : Prop where
  ok : ShOk N D
  n1 : -P511 ≤ N
  n2 : N < P511
  d2 : D < P511
theorem low_ok' {x y : Int} (hy : y ≠ 0) : ShOk (lowN x y) (lowD x y) := by
  rcases Int.lt_or_le 0 y with h | h
  · exact low_ok h
  · have hy' : 0 < -y := by omega
    have e : lowN x y = lowN (-x) (-y) ∧ lowD x y = lowD (-x) (-y) := by
      have hx := Int.gcd_dvd_left (a := x) (b := y)
      have hyd := Int.gcd_dvd_right (a := x) (b := y)
      have h2 : ¬ -y < 0 := by omega
      have h1 : y < 0 := by omega
      simp only [lowN, lowD, if_pos h1, if_neg h2, Int.gcd_neg, Int.neg_gcd, Int.neg_ediv_of_dvd hx, Int.neg_ediv_of_dvd hyd, and_self]
    rw [e.1, e.2]
    exact low_ok hy'
/-- What Make comes to. -/
def MakeC (u v x y : W8) (r : Int) : Prop := ∀ w, Calls Tryz.prog 79 #[.agg #[.int .u64 u.a0, .int .u64 u.a1, .int .u64 u.a2, .int .u64 u.a3, .int .u64 u.a4, .int .u64 u.a5, .int .u64 u.a6, .int .u64 u.a7], .agg #[.int .u64 v.a0, .int .u64 v.a1, .int .u64 v.a2, .int .u64 v.a3, .int .u64 v.a4, .int .u64 v.a5, .int .u64 v.a6, .int .u64 v.a7]] w (fun e w' => e = .returned (.tuple #[.agg #[.int .u64 x.a0, .int .u64 x.a1, .int .u64 x.a2, .int .u64 x.a3, .int .u64 x.a4, .int .u64 x.a5, .int .u64 x.a6, .int .u64 x.a7, .int .u64 y.a0, .int .u64 y.a1, .int .u64 y.a2, .int .u64 y.a3, .int .u64 y.a4, .int .u64 y.a5, .int .u64 y.a6, .int .u64 y.a7], .int .i64 r]) ∧ Lat w w')
theorem rMake_any (u v : W8) (hu : u.ok) (hv : v.ok) : ∃ x y r, MakeC u v x y r ∧ ((r = 0 ∧ ∃ N D, x = W8.of N ∧ y = W8.of D ∧ ShFit N D) ∨ (r == 0) = false) := by
  by_cases hz : v.toInt = 0
  · exact ⟨_, _, _, rMake_zero u v hv hz, .inr (by decide)⟩
  · have ho := low_ok' (x := u.toInt) hz
    by_cases hf : -P511 ≤ lowN u.toInt v.toInt ∧ lowN u.toInt v.toInt < P511 ∧ lowD u.toInt v.toInt < P511
    · have hp := ho.1
      refine ⟨_, _, 0, fun w => (rMake_ok u v hu hv hz w).mono ?_, .inl ⟨rfl, _, _, rfl, rfl, ho, hf.1, hf.2.1, hf.2.2⟩⟩
      rintro e w' ⟨x, y, r, rfl, h, hl⟩
      rcases h with ⟨_, _, _, _, rfl, rfl, rfl⟩ | ⟨h, _⟩
      · exact ⟨rfl, hl⟩
      · have := P511_pos; omega
    · refine ⟨W8.zero, W8.zero, 6, fun w => (rMake_ok u v hu hv hz w).mono ?_, .inr (by decide)⟩
      rintro e w' ⟨x, y, r, rfl, h, hl⟩
      rcases h with ⟨h1, h2, _, h4, _, _, _⟩ | ⟨_, rfl, rfl, rfl⟩
      · exact absurd ⟨h1, h2, h4⟩ hf
      · exact ⟨rfl, hl⟩
theorem rMake_one (u : W8) (hu : u.ok) : ∃ x y, MakeC u (W8.of 1) x y 0 ∧ ∃ N D, x = W8.of N ∧ y = W8.of D ∧ ShFit N D := by
  have h1 : (W8.of 1).toInt = 1 := W8.of_toInt (by decide) (by decide)
  have hN : lowN u.toInt 1 = u.toInt := by unfold lowN; rw [if_neg (by decide), Int.gcd_one]; simp
  have hD : lowD u.toInt 1 = 1 := by unfold lowD; rw [if_neg (by decide), Int.gcd_one]; rfl
  have hb := W8.toInt_bounds hu
  have hp : (1 : Int) < P511 := by decide
  refine ⟨W8.of u.toInt, W8.of 1, fun w => ?_, _, _, rfl, rfl, ⟨⟨by decide, by rw [Int.gcd_one]⟩, hb.1, hb.2, hp⟩⟩
  have := rMake_ok u (W8.of 1) hu (W8.of_ok 1) (by rw [h1]; decide) w
  rw [h1, hN, hD] at this
  refine this.mono ?_
  rintro e w' ⟨x, y, r, rfl, h, hl⟩
  rcases h with ⟨_, _, _, _, rfl, rfl, rfl⟩ | ⟨h, _⟩
  · exact ⟨rfl, hl⟩
  · omega
end Go.Proofs.YtogkkhaepfablaaGreat

/- The reference's made: a share of two wide numbers, valid whatever they are. -/
namespace Go.Proofs.YtogkkhaepfablaaGreat
open Go.RowKit
set_option linter.unusedSimpArgs false
set_option linter.unusedVariables false

theorem name_put16 {w : World} {g : Nat} {t : TypeId} {c0 c1 c2 c3 c4 c5 c6 c7 c8 c9 c10 c11 c12 c13 c14 c15 v0 v1 v2 v3 v4 v5 v6 v7 v8 v9 v10 v11 v12 v13 v14 v15 : Value} {Q : World → Prop} (hb : Blk w g t #[c0, c1, c2, c3, c4, c5, c6, c7, c8, c9, c10, c11, c12, c13, c14, c15])
    (h : ∀ W', Blk W' g t #[v0, v1, v2, v3, v4, v5, v6, v7, v8, v9, v10, v11, v12, v13, v14, v15] → LatP (· = g) w W' → Q W') : Q ((((((((((((((((w.setCell ⟨g, 0, none⟩ v0).setCell ⟨g, 1, none⟩ v1).setCell ⟨g, 2, none⟩ v2).setCell ⟨g, 3, none⟩ v3).setCell ⟨g, 4, none⟩ v4).setCell ⟨g, 5, none⟩ v5).setCell ⟨g, 6, none⟩ v6).setCell ⟨g, 7, none⟩ v7).setCell ⟨g, 8, none⟩ v8).setCell ⟨g, 9, none⟩ v9).setCell ⟨g, 10, none⟩ v10).setCell ⟨g, 11, none⟩ v11).setCell ⟨g, 12, none⟩ v12).setCell ⟨g, 13, none⟩ v13).setCell ⟨g, 14, none⟩ v14).setCell ⟨g, 15, none⟩ v15) := by
  refine h _ ?_ ((((((((((((((((LatP.setc w g 0 v0).trans (LatP.setc (w.setCell ⟨g, 0, none⟩ v0) g 1 v1)).trans (LatP.setc ((w.setCell ⟨g, 0, none⟩ v0).setCell ⟨g, 1, none⟩ v1) g 2 v2)).trans (LatP.setc (((w.setCell ⟨g, 0, none⟩ v0).setCell ⟨g, 1, none⟩ v1).setCell ⟨g, 2, none⟩ v2) g 3 v3)).trans (LatP.setc ((((w.setCell ⟨g, 0, none⟩ v0).setCell ⟨g, 1, none⟩ v1).setCell ⟨g, 2, none⟩ v2).setCell ⟨g, 3, none⟩ v3) g 4 v4)).trans (LatP.setc (((((w.setCell ⟨g, 0, none⟩ v0).setCell ⟨g, 1, none⟩ v1).setCell ⟨g, 2, none⟩ v2).setCell ⟨g, 3, none⟩ v3).setCell ⟨g, 4, none⟩ v4) g 5 v5)).trans (LatP.setc ((((((w.setCell ⟨g, 0, none⟩ v0).setCell ⟨g, 1, none⟩ v1).setCell ⟨g, 2, none⟩ v2).setCell ⟨g, 3, none⟩ v3).setCell ⟨g, 4, none⟩ v4).setCell ⟨g, 5, none⟩ v5) g 6 v6)).trans (LatP.setc (((((((w.setCell ⟨g, 0, none⟩ v0).setCell ⟨g, 1, none⟩ v1).setCell ⟨g, 2, none⟩ v2).setCell ⟨g, 3, none⟩ v3).setCell ⟨g, 4, none⟩ v4).setCell ⟨g, 5, none⟩ v5).setCell ⟨g, 6, none⟩ v6) g 7 v7)).trans (LatP.setc ((((((((w.setCell ⟨g, 0, none⟩ v0).setCell ⟨g, 1, none⟩ v1).setCell ⟨g, 2, none⟩ v2).setCell ⟨g, 3, none⟩ v3).setCell ⟨g, 4, none⟩ v4).setCell ⟨g, 5, none⟩ v5).setCell ⟨g, 6, none⟩ v6).setCell ⟨g, 7, none⟩ v7) g 8 v8)).trans (LatP.setc (((((((((w.setCell ⟨g, 0, none⟩ v0).setCell ⟨g, 1, none⟩ v1).setCell ⟨g, 2, none⟩ v2).setCell ⟨g, 3, none⟩ v3).setCell ⟨g, 4, none⟩ v4).setCell ⟨g, 5, none⟩ v5).setCell ⟨g, 6, none⟩ v6).setCell ⟨g, 7, none⟩ v7).setCell ⟨g, 8, none⟩ v8) g 9 v9)).trans (LatP.setc ((((((((((w.setCell ⟨g, 0, none⟩ v0).setCell ⟨g, 1, none⟩ v1).setCell ⟨g, 2, none⟩ v2).setCell ⟨g, 3, none⟩ v3).setCell ⟨g, 4, none⟩ v4).setCell ⟨g, 5, none⟩ v5).setCell ⟨g, 6, none⟩ v6).setCell ⟨g, 7, none⟩ v7).setCell ⟨g, 8, none⟩ v8).setCell ⟨g, 9, none⟩ v9) g 10 v10)).trans (LatP.setc (((((((((((w.setCell ⟨g, 0, none⟩ v0).setCell ⟨g, 1, none⟩ v1).setCell ⟨g, 2, none⟩ v2).setCell ⟨g, 3, none⟩ v3).setCell ⟨g, 4, none⟩ v4).setCell ⟨g, 5, none⟩ v5).setCell ⟨g, 6, none⟩ v6).setCell ⟨g, 7, none⟩ v7).setCell ⟨g, 8, none⟩ v8).setCell ⟨g, 9, none⟩ v9).setCell ⟨g, 10, none⟩ v10) g 11 v11)).trans (LatP.setc ((((((((((((w.setCell ⟨g, 0, none⟩ v0).setCell ⟨g, 1, none⟩ v1).setCell ⟨g, 2, none⟩ v2).setCell ⟨g, 3, none⟩ v3).setCell ⟨g, 4, none⟩ v4).setCell ⟨g, 5, none⟩ v5).setCell ⟨g, 6, none⟩ v6).setCell ⟨g, 7, none⟩ v7).setCell ⟨g, 8, none⟩ v8).setCell ⟨g, 9, none⟩ v9).setCell ⟨g, 10, none⟩ v10).setCell ⟨g, 11, none⟩ v11) g 12 v12)).trans (LatP.setc (((((((((((((w.setCell ⟨g, 0, none⟩ v0).setCell ⟨g, 1, none⟩ v1).setCell ⟨g, 2, none⟩ v2).setCell ⟨g, 3, none⟩ v3).setCell ⟨g, 4, none⟩ v4).setCell ⟨g, 5, none⟩ v5).setCell ⟨g, 6, none⟩ v6).setCell ⟨g, 7, none⟩ v7).setCell ⟨g, 8, none⟩ v8).setCell ⟨g, 9, none⟩ v9).setCell ⟨g, 10, none⟩ v10).setCell ⟨g, 11, none⟩ v11).setCell ⟨g, 12, none⟩ v12) g 13 v13)).trans (LatP.setc ((((((((((((((w.setCell ⟨g, 0, none⟩ v0).setCell ⟨g, 1, none⟩ v1).setCell ⟨g, 2, none⟩ v2).setCell ⟨g, 3, none⟩ v3).setCell ⟨g, 4, none⟩ v4).setCell ⟨g, 5, none⟩ v5).setCell ⟨g, 6, none⟩ v6).setCell ⟨g, 7, none⟩ v7).setCell ⟨g, 8, none⟩ v8).setCell ⟨g, 9, none⟩ v9).setCell ⟨g, 10, none⟩ v10).setCell ⟨g, 11, none⟩ v11).setCell ⟨g, 12, none⟩ v12).setCell ⟨g, 13, none⟩ v13) g 14 v14)).trans (LatP.setc (((((((((((((((w.setCell ⟨g, 0, none⟩ v0).setCell ⟨g, 1, none⟩ v1).setCell ⟨g, 2, none⟩ v2).setCell ⟨g, 3, none⟩ v3).setCell ⟨g, 4, none⟩ v4).setCell ⟨g, 5, none⟩ v5).setCell ⟨g, 6, none⟩ v6).setCell ⟨g, 7, none⟩ v7).setCell ⟨g, 8, none⟩ v8).setCell ⟨g, 9, none⟩ v9).setCell ⟨g, 10, none⟩ v10).setCell ⟨g, 11, none⟩ v11).setCell ⟨g, 12, none⟩ v12).setCell ⟨g, 13, none⟩ v13).setCell ⟨g, 14, none⟩ v14) g 15 v15))
  have := ((((((((((((((((hb.set 0 v0).set 1 v1).set 2 v2).set 3 v3).set 4 v4).set 5 v5).set 6 v6).set 7 v7).set 8 v8).set 9 v9).set 10 v10).set 11 v11).set 12 v12).set 13 v13).set 14 v14).set 15 v15)
  simpa using this

set_option maxRecDepth 100000 in
set_option maxHeartbeats 4000000 in
theorem rMade_first (u v x y : W8) (H : MakeC u v x y 0) (w : World) :
    Calls Tryz.prog 56 #[.agg #[.int .u64 u.a0, .int .u64 u.a1, .int .u64 u.a2, .int .u64 u.a3, .int .u64 u.a4, .int .u64 u.a5, .int .u64 u.a6, .int .u64 u.a7], .agg #[.int .u64 v.a0, .int .u64 v.a1, .int .u64 v.a2, .int .u64 v.a3, .int .u64 v.a4, .int .u64 v.a5, .int .u64 v.a6, .int .u64 v.a7]] w (fun e w' => e = .returned (.agg #[.int .u64 x.a0, .int .u64 x.a1, .int .u64 x.a2, .int .u64 x.a3, .int .u64 x.a4, .int .u64 x.a5, .int .u64 x.a6, .int .u64 x.a7, .int .u64 y.a0, .int .u64 y.a1, .int .u64 y.a2, .int .u64 y.a3, .int .u64 y.a4, .int .u64 y.a5, .int .u64 y.a6, .int .u64 y.a7]) ∧ Lat w w') := by
  go_enter Tryz.func56, Tryz.ntmps56
  go_upto_region 1 with (fail)
  refine name3 (Q := fun W => Code.wp _ _ _ _ W) ?_
  intro W hl hs k1 k2 k3
  have a0 := k1.cell 0
  have a1 := k1.cell 1
  have a2 := k1.cell 2
  have a3 := k1.cell 3
  have a4 := k1.cell 4
  have a5 := k1.cell 5
  have a6 := k1.cell 6
  have a7 := k1.cell 7
  have d0 := k2.cell 0
  have d1 := k2.cell 1
  have d2 := k2.cell 2
  have d3 := k2.cell 3
  have d4 := k2.cell 4
  have d5 := k2.cell 5
  have d6 := k2.cell 6
  have d7 := k2.cell 7
  go_wp2_with fail
  refine (H W).mono ?_
  rintro e w1 ⟨rfl, l1⟩
  replace k3 := k3.later l1
  have L1 := hl.trans l1
  clear a0 a1 a2 a3 a4 a5 a6 a7
  clear d0 d1 d2 d3 d4 d5 d6 d7
  clear k1 k2 H
  go_upto_region 2 with (fail)
  refine name1 (Q := fun W => Code.wp _ _ _ _ W) ?_
  intro w2 l2 hs2 k5
  replace k3 := k3.later l2
  have L2 := L1.trans l2
  have a0 := k5.cell 0
  have a1 := k5.cell 1
  have a2 := k5.cell 2
  have a3 := k5.cell 3
  have a4 := k5.cell 4
  have a5 := k5.cell 5
  have a6 := k5.cell 6
  have a7 := k5.cell 7
  have a8 := k5.cell 8
  have a9 := k5.cell 9
  have a10 := k5.cell 10
  have a11 := k5.cell 11
  have a12 := k5.cell 12
  have a13 := k5.cell 13
  have a14 := k5.cell 14
  have a15 := k5.cell 15
  have e0 := k3.cell 0
  have e1 := k3.cell 1
  have e2 := k3.cell 2
  have e3 := k3.cell 3
  have e4 := k3.cell 4
  have e5 := k3.cell 5
  have e6 := k3.cell 6
  have e7 := k3.cell 7
  have e8 := k3.cell 8
  have e9 := k3.cell 9
  have e10 := k3.cell 10
  have e11 := k3.cell 11
  have e12 := k3.cell 12
  have e13 := k3.cell 13
  have e14 := k3.cell 14
  have e15 := k3.cell 15
  have f0 := k3.frozen 0
  have f1 := k3.frozen 1
  have f2 := k3.frozen 2
  have f3 := k3.frozen 3
  have f4 := k3.frozen 4
  have f5 := k3.frozen 5
  have f6 := k3.frozen 6
  have f7 := k3.frozen 7
  have f8 := k3.frozen 8
  have f9 := k3.frozen 9
  have f10 := k3.frozen 10
  have f11 := k3.frozen 11
  have f12 := k3.frozen 12
  have f13 := k3.frozen 13
  have f14 := k3.frozen 14
  have f15 := k3.frozen 15
  have hlt := k3.lt
  go_wp2
  refine bodyPost_ret (v := .agg #[.int .u64 x.a0, .int .u64 x.a1, .int .u64 x.a2, .int .u64 x.a3, .int .u64 x.a4, .int .u64 x.a5, .int .u64 x.a6, .int .u64 x.a7, .int .u64 y.a0, .int .u64 y.a1, .int .u64 y.a2, .int .u64 y.a3, .int .u64 y.a4, .int .u64 y.a5, .int .u64 y.a6, .int .u64 y.a7]) (by simp [results, Tryz.results56, go_sem, e0, e1, e2, e3, e4, e5, e6, e7, e8, e9, e10, e11, e12, e13, e14, e15]) rfl ?_
  refine ⟨rfl, ?_⟩
  iterate 16 (refine Lat.setCell ?_ (by simp; try omega) _)
  exact L2
set_option maxRecDepth 100000 in
set_option maxHeartbeats 4000000 in
theorem rMade_second (u v x0 y0 x y : W8) (r : Int) (hr : (r == 0) = false) (H : MakeC u v x0 y0 r) (H2 : MakeC u (W8.of 1) x y 0) (w : World) :
    Calls Tryz.prog 56 #[.agg #[.int .u64 u.a0, .int .u64 u.a1, .int .u64 u.a2, .int .u64 u.a3, .int .u64 u.a4, .int .u64 u.a5, .int .u64 u.a6, .int .u64 u.a7], .agg #[.int .u64 v.a0, .int .u64 v.a1, .int .u64 v.a2, .int .u64 v.a3, .int .u64 v.a4, .int .u64 v.a5, .int .u64 v.a6, .int .u64 v.a7]] w (fun e w' => e = .returned (.agg #[.int .u64 x.a0, .int .u64 x.a1, .int .u64 x.a2, .int .u64 x.a3, .int .u64 x.a4, .int .u64 x.a5, .int .u64 x.a6, .int .u64 x.a7, .int .u64 y.a0, .int .u64 y.a1, .int .u64 y.a2, .int .u64 y.a3, .int .u64 y.a4, .int .u64 y.a5, .int .u64 y.a6, .int .u64 y.a7]) ∧ Lat w w') := by
  unfold MakeC at H H2
  have hr' : (r != 0) = true := by simp only [bne, hr]; rfl
  have HO := fun w => rWOf_any 1 (by decide) (by decide) w
  go_enter Tryz.func56, Tryz.ntmps56
  go_upto_region 1 with (fail)
  refine name3 (Q := fun W => Code.wp _ _ _ _ W) ?_
  intro W hl hs k1 k2 k3
  have a0 := k1.cell 0
  have a1 := k1.cell 1
  have a2 := k1.cell 2
  have a3 := k1.cell 3
  have a4 := k1.cell 4
  have a5 := k1.cell 5
  have a6 := k1.cell 6
  have a7 := k1.cell 7
  have d0 := k2.cell 0
  have d1 := k2.cell 1
  have d2 := k2.cell 2
  have d3 := k2.cell 3
  have d4 := k2.cell 4
  have d5 := k2.cell 5
  have d6 := k2.cell 6
  have d7 := k2.cell 7
  go_wp2_with fail
  refine (H W).mono ?_
  rintro e w1 ⟨rfl, l1⟩
  replace k1 := k1.later l1
  replace k3 := k3.later l1
  have L1 := hl.trans l1
  clear a0 a1 a2 a3 a4 a5 a6 a7
  clear d0 d1 d2 d3 d4 d5 d6 d7
  clear k2 H
  obtain ⟨g2, hg2⟩ : ∃ z, w.heap.size = z := ⟨_, rfl⟩
  obtain ⟨g4, hg4⟩ : ∃ z, w.heap.size + 1 + 1 = z := ⟨_, rfl⟩
  have hw4 : w.heap.size ≤ g4 := by omega
  have h24 : g2 < g4 := by omega
  rw [hg2] at k1
  rw [hg4] at k3
  rw [hg4, hg2]
  clear hg2 hg4
  have h4l := k3.lt
  go_upto_region 2 with (fail)
  refine name1 (Q := fun W => Code.wp _ _ _ _ W) ?_
  intro w2 l2 hs2 k5
  replace k1 := k1.later l2
  replace k3 := k3.later l2
  have L2 := L1.trans l2
  obtain ⟨g5, hg5⟩ : ∃ z, w1.heap.size = z := ⟨_, rfl⟩
  have h45 : g4 < g5 := by omega
  rw [hg5] at k5 ⊢
  clear hg5 h4l
  have hne1 : g2 ∉ [g5] := by simp; omega
  have hw5 : w.heap.size ≤ g5 := by omega
  have a0 := k1.evS hne1 0 rfl
  have a1 := k1.evS hne1 1 rfl
  have a2 := k1.evS hne1 2 rfl
  have a3 := k1.evS hne1 3 rfl
  have a4 := k1.evS hne1 4 rfl
  have a5 := k1.evS hne1 5 rfl
  have a6 := k1.evS hne1 6 rfl
  have a7 := k1.evS hne1 7 rfl
  clear l1 l2 hs2 hs hl L1
  go_upto_region 3 with (fail)
  have L0 := Lat.drew w2
  have M0 := L0.s [g5]
  go_region_held3 (fun w' => LatS w2 [g5] w') (first | (with_reducible assumption) | ((iterate 16 (refine LatS.set ?_ (by simp) _)); with_reducible assumption))
    (first
      | (have _h := HO; go_at_call 12; (with_reducible refine (HO _).mono ?_); rintro e w3 ⟨rfl, q3⟩; have L3 := L0.trans q3; have M3 := L3.s [g5]; clear HO _h)
      | (have _h := H2; go_at_call 79; (with_reducible refine (H2 _).mono ?_); rintro e w4 ⟨rfl, r3⟩; have L4 := L3.trans r3; have M4 := L4.s [g5]; clear H2 _h; have K5 := k5.later L4
         have e0 := K5.cell 0
         have e1 := K5.cell 1
         have e2 := K5.cell 2
         have e3 := K5.cell 3
         have e4 := K5.cell 4
         have e5 := K5.cell 5
         have e6 := K5.cell 6
         have e7 := K5.cell 7
         have e8 := K5.cell 8
         have e9 := K5.cell 9
         have e10 := K5.cell 10
         have e11 := K5.cell 11
         have e12 := K5.cell 12
         have e13 := K5.cell 13
         have e14 := K5.cell 14
         have e15 := K5.cell 15
         have f0 := K5.frozen 0
         have f1 := K5.frozen 1
         have f2 := K5.frozen 2
         have f3 := K5.frozen 3
         have f4 := K5.frozen 4
         have f5 := K5.frozen 5
         have f6 := K5.frozen 6
         have f7 := K5.frozen 7
         have f8 := K5.frozen 8
         have f9 := K5.frozen 9
         have f10 := K5.frozen 10
         have f11 := K5.frozen 11
         have f12 := K5.frozen 12
         have f13 := K5.frozen 13
         have f14 := K5.frozen 14
         have f15 := K5.frozen 15
         have _u := True.intro))
  go_upto_region 4 with (fail)
  refine name_put16 (Q := fun W => Code.wp _ _ _ _ W) K5 ?_
  intro W6 k6 lp6
  clear e0 e1 e2 e3 e4 e5 e6 e7 e8 e9 e10 e11 e12 e13 e14 e15
  clear f0 f1 f2 f3 f4 f5 f6 f7 f8 f9 f10 f11 f12 f13 f14 f15
  replace k3 := (k3.later L4).keepP lp6 (by omega)
  have L6 := lp6.narrow (L2.trans L4) hw5
  clear K5 M0 M3 M4 lp6 L4 L3 k5
  have b0 := k6.cell 0
  have b1 := k6.cell 1
  have b2 := k6.cell 2
  have b3 := k6.cell 3
  have b4 := k6.cell 4
  have b5 := k6.cell 5
  have b6 := k6.cell 6
  have b7 := k6.cell 7
  have b8 := k6.cell 8
  have b9 := k6.cell 9
  have b10 := k6.cell 10
  have b11 := k6.cell 11
  have b12 := k6.cell 12
  have b13 := k6.cell 13
  have b14 := k6.cell 14
  have b15 := k6.cell 15
  have e0 := k3.cell 0
  have e1 := k3.cell 1
  have e2 := k3.cell 2
  have e3 := k3.cell 3
  have e4 := k3.cell 4
  have e5 := k3.cell 5
  have e6 := k3.cell 6
  have e7 := k3.cell 7
  have e8 := k3.cell 8
  have e9 := k3.cell 9
  have e10 := k3.cell 10
  have e11 := k3.cell 11
  have e12 := k3.cell 12
  have e13 := k3.cell 13
  have e14 := k3.cell 14
  have e15 := k3.cell 15
  have f0 := k3.frozen 0
  have f1 := k3.frozen 1
  have f2 := k3.frozen 2
  have f3 := k3.frozen 3
  have f4 := k3.frozen 4
  have f5 := k3.frozen 5
  have f6 := k3.frozen 6
  have f7 := k3.frozen 7
  have f8 := k3.frozen 8
  have f9 := k3.frozen 9
  have f10 := k3.frozen 10
  have f11 := k3.frozen 11
  have f12 := k3.frozen 12
  have f13 := k3.frozen 13
  have f14 := k3.frozen 14
  have f15 := k3.frozen 15
  have hlt := k3.lt
  go_wp2
  refine name_put16 (Q := fun W => bodyPost _ _ _ _ _ W) k3 ?_
  intro W7 k7 lp7
  have c0 := k7.cell 0
  have c1 := k7.cell 1
  have c2 := k7.cell 2
  have c3 := k7.cell 3
  have c4 := k7.cell 4
  have c5 := k7.cell 5
  have c6 := k7.cell 6
  have c7 := k7.cell 7
  have c8 := k7.cell 8
  have c9 := k7.cell 9
  have c10 := k7.cell 10
  have c11 := k7.cell 11
  have c12 := k7.cell 12
  have c13 := k7.cell 13
  have c14 := k7.cell 14
  have c15 := k7.cell 15
  refine bodyPost_ret (v := .agg #[.int .u64 x.a0, .int .u64 x.a1, .int .u64 x.a2, .int .u64 x.a3, .int .u64 x.a4, .int .u64 x.a5, .int .u64 x.a6, .int .u64 x.a7, .int .u64 y.a0, .int .u64 y.a1, .int .u64 y.a2, .int .u64 y.a3, .int .u64 y.a4, .int .u64 y.a5, .int .u64 y.a6, .int .u64 y.a7]) (by simp [results, Tryz.results56, go_sem, c0, c1, c2, c3, c4, c5, c6, c7, c8, c9, c10, c11, c12, c13, c14, c15]) rfl ?_
  exact ⟨rfl, lp7.narrow L6 hw4⟩
/-- made answers a valid share, whatever the two numbers are. -/
theorem rMade_any (u v : W8) (hu : u.ok) (hv : v.ok) : ∃ N D, ShFit N D ∧ ∀ w, Calls Tryz.prog 56 #[.agg #[.int .u64 u.a0, .int .u64 u.a1, .int .u64 u.a2, .int .u64 u.a3, .int .u64 u.a4, .int .u64 u.a5, .int .u64 u.a6, .int .u64 u.a7], .agg #[.int .u64 v.a0, .int .u64 v.a1, .int .u64 v.a2, .int .u64 v.a3, .int .u64 v.a4, .int .u64 v.a5, .int .u64 v.a6, .int .u64 v.a7]] w (fun e w' => e = .returned (.agg #[.int .u64 (W8.of N).a0, .int .u64 (W8.of N).a1, .int .u64 (W8.of N).a2, .int .u64 (W8.of N).a3, .int .u64 (W8.of N).a4, .int .u64 (W8.of N).a5, .int .u64 (W8.of N).a6, .int .u64 (W8.of N).a7, .int .u64 (W8.of D).a0, .int .u64 (W8.of D).a1, .int .u64 (W8.of D).a2, .int .u64 (W8.of D).a3, .int .u64 (W8.of D).a4, .int .u64 (W8.of D).a5, .int .u64 (W8.of D).a6, .int .u64 (W8.of D).a7]) ∧ Lat w w') := by
  obtain ⟨x, y, r, H, h⟩ := rMake_any u v hu hv
  rcases h with ⟨rfl, N, D, rfl, rfl, hf⟩ | hr
  · exact ⟨N, D, hf, rMade_first u v _ _ H⟩
  · obtain ⟨x2, y2, H2, N, D, rfl, rfl, hf⟩ := rMake_one u hu
    exact ⟨N, D, hf, rMade_second u v x y _ _ r hr H H2⟩
end Go.Proofs.YtogkkhaepfablaaGreat

/- The reference's sums, with what is known of where they lie. -/
namespace Go.Proofs.YtogkkhaepfablaaGreat
open Go.RowKit

/-- Digits in new memory. -/
def DigF (w : World) (z : Int) (N : Nat) (e : Ending) (w' : World) : Prop :=
  ∃ A n c xs, e = .returned (.slice A n c) ∧ Sl w' .i64 A n xs ∧ InR B32 xs ∧ val B32 xs = z ∧ n ≤ c ∧ n ≤ N ∧ Lat w w' ∧ ∀ a, A = some a → w.heap.size ≤ a.block
/-- What made leaves: its digits are those that came in. -/
def MadeF (w : World) (A : Option Addr) (z : Int) (N : Nat) (e : Ending) (w' : World) : Prop :=
  ∃ b n c, e = .returned (.agg #[.bool b, .slice A n c]) ∧ Rg w' b A n c z ∧ n ≤ N ∧ Lat w w'
/-- A number in new memory. -/
def RefF (w : World) (z : Int) (N : Nat) (e : Ending) (w' : World) : Prop :=
  ∃ b A n c, e = .returned (.agg #[.bool b, .slice A n c]) ∧ Rg w' b A n c z ∧ n ≤ N ∧ Lat w w' ∧ ∀ a, A = some a → w.heap.size ≤ a.block
theorem MadeF.close {w w2 : World} {g t : Nat} {b b0 : Bool} {A A0 : Option Addr} {n c n0 c0 N : Nat} {z : Int} (hk : Blk w2 g t #[.bool b0, .slice A0 n0 c0]) (hlg : Rg w2 b A n c z) (hL : Lat w w2) (hg : w.heap.size ≤ g) (hn : n ≤ N) :
    MadeF w A z N (.returned (.agg #[.bool b, .slice A n c])) ((w2.setCell ⟨g, 0, none⟩ (.bool b)).setCell ⟨g, 1, none⟩ (.slice A n c)) := by
  have ha := hlg.apart hk (no_i64 _ _ _ _)
  exact ⟨_, _, _, rfl, (hlg.far (p := ⟨g, 0, none⟩) ha _).far (p := ⟨g, 1, none⟩) ha _, hn, (hL.setCell (p := ⟨g, 0, none⟩) hg _).setCell (p := ⟨g, 1, none⟩) hg _⟩
theorem RefF.of {w w' : World} {b : Bool} {A : Option Addr} {n c N : Nat} {z : Int} (h : RefPost w z N (.returned (.agg #[.bool b, .slice A n c])) w') (hf : ∀ a, A = some a → w.heap.size ≤ a.block) : RefF w z N (.returned (.agg #[.bool b, .slice A n c])) w' := by
  obtain ⟨b', A', n', c', e, h1, h2, h3⟩ := h
  cases e
  exact ⟨_, _, _, _, rfl, h1, h2, h3, hf⟩

set_option maxHeartbeats 4000000 in
theorem more_fresh (A1 : Option Addr) (n1 c1 : Nat) (xs : List Int) (A2 : Option Addr) (n2 c2 : Nat) (ys : List Int) (w : World) (h1 : Sl w .i64 A1 n1 xs) (h2 : Sl w .i64 A2 n2 ys) (hx : InR B32 xs) (hy : InR B32 ys)
    (hn : n1 ≤ 1000000) (hm : n2 ≤ 1000000) :
    Calls Tryz.prog 71 #[.slice A1 n1 c1, .slice A2 n2 c2] w (DigF w (val B32 xs + val B32 ys) (max n1 n2 + 1)) := by
  go_enter Tryz.func71, Tryz.ntmps71
  go_wp2
  go_loopw [5, 6, 7] (fun v bt i wr => ∃ (k : Nat) (c : Int) (os : List Int), i = .int .i64 k ∧ bt = .int .i64 c ∧ Own wr w.heap.size 3 .i64 v os ∧ MorInv B32 xs ys (max n1 n2) k c os ∧ Lat w wr) (fun _ _ i _ => max n1 n2 + 1 - (intOf i).toNat)
  case atStart => exact ⟨0, 0, [], rfl, rfl, Own.nil _ _ _ _, MorInv.start B32 xs ys _, Lat.refl _⟩
  case round =>
    obtain ⟨k, c, os, rfl, rfl, hown, hinv, hlr⟩ := hrel
    have hc0 := hinv.1.1
    have hc1 := hinv.1.2
    have hlen := Lib.hid hinv.2.1
    have hkN := hinv.2.2.2.2.1
    have hend := Lib.hid hinv.2.2.2.2.2
    have hwl := hlr.size
    have hol : os.length ≤ 1000001 := by have := hlen.out; omega
    rcases (h1.later hlr).digit hx k with ⟨hlt, a, x, rfl, hgx, rx0, rx1, hcell⟩ | ⟨hlt, hgx⟩
    · rcases (h2.later hlr).digit hy k with ⟨hlt2, a', y, rfl, hgy, ry0, ry1, hcell2⟩ | ⟨hlt2, hgy⟩
      · have hst := hinv.step B32_one (by omega) hgx.out hgy.out ⟨rx0, rx1⟩ ⟨ry0, ry1⟩ (by omega)
        go_wp2_with (at_builtin; refine wpList_push rfl _ _ 71 rfl w.heap.size 3 3 .i64 8 Tryz.underlying71 infoI64 (by decide) _ os [_] _ rfl wr (by rfl) hown 1 rfl (by decide) (by rfl) (by omega) hwl ?_; intro v' w1 hown1 hlat1)
        go_roundw
        case rel => exact ⟨k + 1, _, _, by go_num, rfl, hown1, hst, hlat1 w hlr (Nat.le_refl _)⟩
        case measure => simp [intOf]; omega
      · have hst := hinv.step B32_one (by omega) hgx.out hgy.out ⟨rx0, rx1⟩ ⟨Int.le_refl _, B32_pos⟩ (by omega)
        rw [Int.add_zero] at hst
        go_wp2_with (at_builtin; refine wpList_push rfl _ _ 71 rfl w.heap.size 3 3 .i64 8 Tryz.underlying71 infoI64 (by decide) _ os [_] _ rfl wr (by rfl) hown 1 rfl (by decide) (by rfl) (by omega) hwl ?_; intro v' w1 hown1 hlat1)
        go_roundw
        case rel => exact ⟨k + 1, _, _, by go_num, rfl, hown1, hst, hlat1 w hlr (Nat.le_refl _)⟩
        case measure => simp [intOf]; omega
    · rcases (h2.later hlr).digit hy k with ⟨hlt2, a', y, rfl, hgy, ry0, ry1, hcell2⟩ | ⟨hlt2, hgy⟩
      · have hst := hinv.step B32_one (by omega) hgx.out hgy.out ⟨Int.le_refl _, B32_pos⟩ ⟨ry0, ry1⟩ (by omega)
        rw [Int.add_zero] at hst
        go_wp2_with (at_builtin; refine wpList_push rfl _ _ 71 rfl w.heap.size 3 3 .i64 8 Tryz.underlying71 infoI64 (by decide) _ os [_] _ rfl wr (by rfl) hown 1 rfl (by decide) (by rfl) (by omega) hwl ?_; intro v' w1 hown1 hlat1)
        go_roundw
        case rel => exact ⟨k + 1, _, _, by go_num, rfl, hown1, hst, hlat1 w hlr (Nat.le_refl _)⟩
        case measure => simp [intOf]; omega
      · by_cases hcp : 0 < c
        · have hkle : k ≤ max n1 n2 := by
            rcases Nat.lt_or_ge (max n1 n2) k with h | h
            · have := hend.out (by omega); omega
            · exact h
          have hst := hinv.step B32_one hkle hgx.out hgy.out ⟨Int.le_refl _, B32_pos⟩ ⟨Int.le_refl _, B32_pos⟩ (fun _ => ⟨rfl, rfl⟩)
          rw [Int.add_zero, Int.add_zero] at hst
          go_wp2_with (at_builtin; refine wpList_push rfl _ _ 71 rfl w.heap.size 3 3 .i64 8 Tryz.underlying71 infoI64 (by decide) _ os [_] _ rfl wr (by rfl) hown 1 rfl (by decide) (by rfl) (by omega) hwl ?_; intro v' w1 hown1 hlat1)
          go_roundw
          case rel => exact ⟨k + 1, _, _, by go_num, rfl, hown1, hst, hlat1 w hlr (Nat.le_refl _)⟩
          case measure => simp [intOf]; omega
        · obtain rfl : c = 0 := by omega
          obtain ⟨r1, r2, r3, r4⟩ := hinv.done (by have := h1.1; omega) (by have := h2.1; omega)
          have R4 := Lib.hid r4
          have R2 := Lib.hid r2
          clear r2 r4
          obtain ⟨A3, c3, rfl, hs1, hc1', hfr⟩ := hown.form
          go_wp2
          go_ret
          exact ⟨A3, _, c3, os, rfl, hs1, r1, R4.out, hc1', by have := R2.out; omega, hlr, fun a h => (hfr a h).1⟩
set_option maxHeartbeats 1000000 in
theorem made_same (below : Bool) (A : Option Addr) (n c : Nat) (w : World) (xs : List Int) (hs : Sl w .i64 A n xs) (hr : InR B32 xs) (hc : n ≤ c) (hn : n ≤ 3000000) :
    Calls Tryz.prog 69 #[.bool below, .slice A n c] w (MadeF w A (sgn below (val B32 xs)) n) := by
  go_enter Tryz.func69, Tryz.ntmps69
  go_wp2_with fail
  refine name1 (Q := fun W => Calls _ _ _ W _) ?_
  intro W hl hsz hb
  refine (cut_any A n c W xs (hs.later hl) hc hn).mono ?_
  rintro e w1 ⟨m, rfl, q1, q2, q3, q4, q5⟩
  have K := hb.later q5
  have L := hl.trans q5
  have c0 := K.cell 0
  have c1 := K.cell 1
  have f0 := K.frozen 0
  have f1 := K.frozen 1
  have hrm : InR B32 (xs.take m) := fun y hy => hr y (List.mem_of_mem_take hy)
  have hln := hs.1
  have hq1 := q1.1
  have Q3 := Lib.hid q3
  have Q2 := Lib.hid q2
  have hmn : m ≤ n := by omega
  clear q3 q2 q4
  by_cases hm : 0 < m
  · have hd : decide ((0 : Int) < m) = true := by simp; exact hm
    have hrg : Rg w1 below A m c (sgn below (val B32 xs)) := ⟨by omega, _, q1, hrm, Q2.out, (fun _ => by intro e; rw [e] at hq1; simp at hq1; omega), by rw [Q3.out]⟩
    cases below
    all_goals
      go_wp2
      refine bodyPost_ret (v := .agg #[.bool _, .slice A m c]) (by simp [results, Tryz.results69, go_sem, c0, c1]; rfl) rfl ?_
      exact MadeF.close K hrg L (Nat.le_refl _) hmn
  · obtain rfl : m = 0 := by omega
    have h0 : val B32 xs = 0 := by rw [← Q3.out]; simp [val]
    have hrg : Rg w1 false A 0 c (sgn below (val B32 xs)) := ⟨by omega, _, q1, hrm, Q2.out, (fun h => by cases h), by rw [← Q3.out]; cases below <;> simp [sgn, val]⟩
    clear h0
    cases below
    all_goals
      go_wp2
      refine bodyPost_ret (v := .agg #[.bool false, .slice A 0 c]) (by simp [results, Tryz.results69, go_sem, c0, c1]) rfl ?_
      exact MadeF.close K hrg L (Nat.le_refl _) (by omega)
set_option maxHeartbeats 400000 in
theorem rPlus_fresh (b1 : Bool) (A1 : Option Addr) (n1 c1 : Nat) (x : Int) (A2 : Option Addr) (n2 c2 : Nat) (y : Int) (w : World) (h1 : Rg w b1 A1 n1 c1 x) (h2 : Rg w b1 A2 n2 c2 y) (hn : n1 ≤ 1000000) (hm : n2 ≤ 1000000) :
    Calls Tryz.prog 43 #[.agg #[.bool b1, .slice A1 n1 c1], .agg #[.bool b1, .slice A2 n2 c2]] w (RefF w (x + y) (max n1 n2 + 1)) := by
  obtain ⟨hc1, xs, s1, r1, z1, _, v1⟩ := h1
  obtain ⟨hc2, ys, s2, r2, z2, _, v2⟩ := h2
  have V1 := Lib.hid v1
  have V2 := Lib.hid v2
  clear v1 v2
  go_enter Tryz.func43, Tryz.ntmps43
  go_wp2
  refine name3 (Q := fun W => Code.wp _ _ _ _ W) ?_
  intro W hl hs k1 k2 k3
  have a1 := k1.evS (gs := [w.heap.size + 1 + 1]) (by simp; try omega) 0 rfl
  have a2 := k1.evS (gs := [w.heap.size + 1 + 1]) (by simp; try omega) (0 + 1) rfl
  have a4 := k2.evS (gs := [w.heap.size + 1 + 1]) (by simp; try omega) (0 + 1) rfl
  have L0 := Lat.drew W
  have M0 := L0.s [w.heap.size + 1 + 1]
  go_region_held3 (fun w' => LatS W [w.heap.size + 1 + 1] w') (first | assumption | ((repeat refine LatS.set ?_ (by simp) _); assumption))
    (first
      | (go_at_call 71; refine (more_fresh A1 n1 c1 xs A2 n2 c2 ys _ (s1.later (hl.trans L0)) (s2.later (hl.trans L0)) r1 r2 hn hm).mono ?_; rintro e w1 ⟨A, n, c, zs, rfl, p1, p2, p3, p4, p5, p6, p7⟩; have L1 := L0.trans p6; have M1 := L1.s [w.heap.size + 1 + 1]; have P3 := Lib.hid p3; clear p3)
      | (go_at_call 69; refine (made_same b1 A n c _ zs p1 p2 p4 (by omega)).mono ?_; rintro e w2 ⟨b, m, c', rfl, q1, q2, q3⟩; have L2 := L1.trans q3; have M2 := L2.s [w.heap.size + 1 + 1]; have hk3 := k3.later L2; have c0 := hk3.cell 0; have c1' := hk3.cell 1; have f0 := hk3.frozen 0; have f1 := hk3.frozen 1))
  go_wp2
  refine bodyPost_ret (v := .agg #[.bool b, .slice A m c']) (by simp [results, Tryz.results43, go_sem, c0, c1']) rfl ?_
  have := RefPost.close hk3 q1 (hl.trans L2) (by omega) (Nat.le_trans q2 p5)
  rw [P3.out, rs_add, ← V1.out, ← V2.out] at this
  exact RefF.of this (fun a h => Nat.le_trans hl.size (Nat.le_trans L0.size (p7 a h)))

/-- A number appended to a list in memory of its own: what else lay there stays. -/
theorem wpList_pushG {P : Program} {ops : Array Oper} {rest : List Oper} {o : Oper} {a : Act} {Q : Exit → Act → World → Prop} (hgd : o.guard = none) (s x : Operand) (t : TypeId)
    (ho : o.op = .call { callee := .builtin .append, args := #[s, x], argTypes := #[t, t] })
    (B : Nat) (E T : TypeId) (k : IntKind) (by_ : Nat) (ht : P.underlying t = some (.slice E)) (hinfo : (P.info? E).map (fun i => (i.zero, i.size, i.bytes)) = some (some (.int k 0), 1, by_)) (hby : by_ ≤ 8)
    (v : Value) (xs ys : List Int) (cs : Array Value) (hcs : cs = nums k ys) (W : World) (hs : a.eval s = v) (hown : Own W B E k v xs)
    (m : Nat) (hm : ys.length = m) (hm0 : 0 < m) (hx : a.eval x = .slice (some ⟨W.heap.size, 0, none⟩) m m) (hlen : xs.length + m ≤ 17000000000000) (hB : B ≤ W.heap.size)
    (h : ∀ v' w', Own w' B E k v' (xs ++ ys) → (∀ W0, Lat W0 W → W0.heap.size ≤ B → Lat W0 w') → (∀ q, q < W.heap.size → ¬ some q = v.ownBlock → w'.heap[q]? = W.heap[q]?) → W.heap.size ≤ w'.heap.size → wpList P ops Q rest (a.put o.dst v') w') : wpList P ops Q (o :: rest) a (W.alloc (.cells cs T)) := by
  obtain ⟨i0, hi, hz0, hz1, hz2⟩ := info_parts hinfo
  subst hcs
  have hown1 := Own.later hown (Lat.alloc W (.cells (nums k ys) T))
  have hb := Blk.new W T (nums k ys)
  subst hm
  refine wpList_append_own _ hgd s x t ho B E i0 (.int k 0) 1 by_ ht hi hz0 hz1 hz2 rfl (by decide) v xs.length _ hs hown1 ⟨W.heap.size, 0, none⟩ ys.length ys.length (ys.map (Value.int k)) hx (by simp) ?_ ?_ ?_ ?_ ?_ ?_
  · intro j u hu
    have e : (⟨W.heap.size, 0, none⟩ : Addr).add j = ⟨W.heap.size, j, none⟩ := by unfold Addr.add; split <;> simp_all
    rw [e, hb.cell j]
    simpa [nums] using hu
  · exact ints_oneCell _ _
  · unfold maxLen; omega
  · have := Nat.mul_le_mul_left (xs.length + ys.length) hby; omega
  · simp; omega
  · intro v' w' h1 h2 _
    have la := Lat.alloc W (.cells (nums k ys) T)
    refine h v' w' ?_ (fun W0 hl hle => Own.lat hown1 (hl.trans (Lat.alloc _ _)) hle h2) (fun q hq hn => (h2.block q (Nat.lt_of_lt_of_le hq la.size) hn).trans (Below.block la q hq)) (Nat.le_trans la.size h2.size)
    unfold Own
    rw [List.length_append, List.map_append]
    exact h1
theorem Sl.kept' {w W : World} {k : IntKind} {A : Option Addr} {n : Nat} {xs : List Int} (h : Sl W k A n xs) (hs : W.heap.size ≤ w.heap.size) (hk : ∀ a, A = some a → a.block < W.heap.size → w.heap[a.block]? = W.heap[a.block]?) : Sl w k A n xs := by
  refine ⟨h.1, fun hn => ?_⟩
  obtain ⟨a, e, hlt, hc⟩ := h.2 hn
  refine ⟨a, e, Nat.lt_of_lt_of_le hlt hs, fun j x hx => ?_⟩
  rw [← hc j x hx]
  exact World.cell?_of_block (by rw [block_add]; exact hk a e hlt)
theorem Rg.kept {w W : World} {b : Bool} {A : Option Addr} {n c : Nat} {z : Int} (h : Rg W b A n c z) (hs : W.heap.size ≤ w.heap.size) (hk : ∀ a, A = some a → a.block < W.heap.size → w.heap[a.block]? = W.heap[a.block]?) : Rg w b A n c z := by
  obtain ⟨hn, xs, h1, r⟩ := h
  exact ⟨hn, xs, h1.kept' hs hk, r⟩
theorem Own.kept {w w' : World} {B : Nat} {E : TypeId} {k : IntKind} {v : Value} {xs : List Int} (h : Own w B E k v xs) (hk : ∀ g, B ≤ g → v.ownBlock = some g → w'.heap[g]? = w.heap[g]?) : Own w' B E k v xs := by
  obtain ⟨h1, h2⟩ := h
  refine ⟨h1, ?_⟩
  rcases h2 with h2 | ⟨g, cap, cur, a1, a2, a3, a4⟩
  · exact .inl h2
  · refine .inr ⟨g, cap, cur, a1, a2, ?_, a4⟩
    rw [hk g a2 (by rw [a1]; rfl)]; exact a3
theorem Own.at_ {w : World} {B : Nat} {E : TypeId} {k : IntKind} {v : Value} {xs : List Int} (h : Own w B E k v xs) : ∀ q, v.ownBlock = some q → B ≤ q ∧ q < w.heap.size := by
  intro q hq
  obtain ⟨h1, h2⟩ := h
  rcases h2 with ⟨rfl, _⟩ | ⟨g, cap, cur, rfl, hb, hg, _⟩
  · cases hq
  · have e : g = q := by simpa [Value.ownBlock] using hq
    subst e
    refine ⟨hb, ?_⟩
    rcases Nat.lt_or_ge g w.heap.size with hlt | hge
    · exact hlt
    · rw [Array.getElem?_eq_none hge] at hg; cases hg
/-- A number that is not negative. -/
def RefN (w : World) (z : Int) (N : Nat) (e : Ending) (w' : World) : Prop :=
  ∃ A n c, e = .returned (.agg #[.bool false, .slice A n c]) ∧ Rg w' false A n c z ∧ n ≤ N ∧ Lat w w'
theorem RefPost.nonneg {w w' : World} {z : Int} {N : Nat} {e : Ending} (h : RefPost w z N e w') (hz : 0 ≤ z) : RefN w z N e w' := by
  obtain ⟨b, A, n, c, rfl, h1, h2, h3⟩ := h
  cases b with
  | false => exact ⟨_, _, _, rfl, h1, h2, h3⟩
  | true => have := h1.neg_of; omega
def RefFN (w : World) (z : Int) (N : Nat) (e : Ending) (w' : World) : Prop :=
  ∃ A n c, e = .returned (.agg #[.bool false, .slice A n c]) ∧ Rg w' false A n c z ∧ n ≤ N ∧ Lat w w' ∧ ∀ a, A = some a → w.heap.size ≤ a.block
theorem RefF.nonneg {w w' : World} {z : Int} {N : Nat} {e : Ending} (h : RefF w z N e w') (hz : 0 ≤ z) : RefFN w z N e w' := by
  obtain ⟨b, A, n, c, rfl, h1, h2, h3, h4⟩ := h
  cases b with
  | false => exact ⟨_, _, _, rfl, h1, h2, h3, h4⟩
  | true => have := h1.neg_of; omega
end Go.Proofs.YtogkkhaepfablaaGreat

/- A region that draws its order and ends in one operation that waits for all others (a store): by slots. -/
namespace Go.Proofs.YtogkkhaepfablaaGreat
open Go.RowKit
set_option linter.unusedSimpArgs false

set_option maxHeartbeats 2000000 in
theorem wp_region_slotsL {P : Program} {ops : Array Oper} {Q : Exit → Act → World → Prop} {id : Nat} {a : Act} {w : World} (rows : List SRow) (base : List (Nat × Value)) (N n : Nat) (tbl : List (List Nat))
    (hm : P.follows .mixedOrders = true) (o9 : Oper) (ho9 : ops[n]? = some o9) (hg9 : o9.guard = none) (hn : ops.size = n + 1) (ht : depsOf ops = tbl) (hd : ((List.range (n + 1)).all fun i => ((tbl[i]?).getD []).all fun j => decide (j < i)) = true)
    (hup : ((List.range n).all fun i => (List.range (n + 1)).any fun k => decide (i < k) && ((tbl[k]?).getD []).contains i) = true) (hk : (ops.toList.take n).map keyO = rows.map SRow.key)
    (hdis : distinct rows base N = true) (hsz : a.tmps.size = N) (hdf : a.defers = []) (hb : ∀ k v, base.lookup k = some v → Slot a k v) (hstep : AllSteps P rows base w rows)
    (hend : ∀ a W, a.tmps.size = N → a.defers = [] → Lat w W → (∀ k v, base.lookup k = some v → Slot a k v) → (∀ (j : Nat) r d, rows[j]? = some r → r.dst = some d → ∃ v, Slot a d v ∧ r.V v W) → o9.wp P a W (fun a' w' => Q .normal a' w') Q) : (Code.region id ops true).wp P Q a w := by
  have hrow : ∀ {i : Nat} {o : Oper}, i < n → ops[i]? = some o → ∃ r, rows[i]? = some r ∧ keyO o = r.key := by
    intro i o hi ho
    have h1 : ((ops.toList.take n).map keyO)[i]? = some (keyO o) := by simp [ho, List.getElem?_take, hi]
    rw [hk, List.getElem?_map] at h1
    cases hr : rows[i]? with
    | none => rw [hr] at h1; cases h1
    | some r => rw [hr] at h1; simp only [Option.map_some, Option.some.injEq] at h1; exact ⟨r, rfl, h1.symm⟩
  simp only [distinct, Bool.and_eq_true] at hdis
  obtain ⟨hdis1, hdis2⟩ := hdis
  have hdst : ∀ {i : Nat} {r : SRow} {d : Tmp}, rows[i]? = some r → r.dst = some d → d < N ∧ base.lookup d = none := by
    intro i r d h1 h2
    have := List.all_eq_true.1 hdis1 d (List.mem_filterMap.2 ⟨r, List.mem_of_getElem? h1, h2⟩)
    simpa using this
  have hlen : rows.length = n := by
    have := congrArg List.length hk
    simp at this
    omega
  have hreach : ∀ m : Nat, (∀ i, m.testBit i = true → ∀ j ∈ (tbl[i]?).getD [], m.testBit j = true) → (∀ j ∈ (tbl[n]?).getD [], m.testBit j = true) → ∀ i, i < n → m.testBit i = true := by
    intro m hcl hde
    have : ∀ d i, i < n → n - i = d → m.testBit i = true := by
      intro d
      induction d using Nat.strongRecOn with
      | ind d ih =>
        intro i hi hd0
        have h1 := List.all_eq_true.1 hup i (List.mem_range.2 hi)
        obtain ⟨k, hk1, hk2⟩ := List.any_eq_true.1 h1
        have hk3 := List.mem_range.1 hk1
        simp only [Bool.and_eq_true, decide_eq_true_eq, List.contains_eq_mem] at hk2
        by_cases hkn : k = n
        · subst hkn; exact hde i hk2.2
        · exact hcl k (ih (n - k) (by omega) k (by omega) rfl) i hk2.2
    exact fun i hi => this _ i hi rfl
  have hstart : SInv rows base N w 0 a w.drew := ⟨hsz, hdf, Lat.drew w, hb, fun j r d h => by rw [Nat.zero_testBit] at h; cases h⟩
  let J : Nat → Act → World → Prop := fun m a W => (m.testBit n = false ∧ (∀ i, m.testBit i = true → ∀ j ∈ (tbl[i]?).getD [], m.testBit j = true) ∧ SInv rows base N w m a W) ∨ ((∀ i, i < n + 1 → m.testBit i = true) ∧ Q .normal a W)
  refine wp_region_inv (I := J) (n := n + 1) (tbl := tbl) (hm := hm) (hn := hn) (ht := ht) (hd := hd) (h0 := .inl ⟨by simp, fun i hi => (by rw [Nat.zero_testBit] at hi; cases hi), hstart⟩) ?_ ?_
  · intro i hi o m a w1 ho hmi hdeps hJ
    have hdepsT : ∀ j ∈ (tbl[i]?).getD [], m.testBit j = true := by rw [← ht]; exact hdeps
    rcases hJ with ⟨hbn, hcl, hI⟩ | ⟨hall, _⟩
    case inr => rw [hall i hi] at hmi; cases hmi
    by_cases hin : i = n
    · subst hin
      have hall := hreach m hcl hdepsT
      have hl := hend a w1 hI.size hI.defers hI.lat hI.base (fun j r d h1 h2 => hI.slot j r d (hall j (by rw [← hlen]; exact (List.getElem?_eq_some_iff.1 h1).1)) h1 h2)
      obtain rfl : o = o9 := by rw [ho] at ho9; cases ho9; rfl
      unfold wpOp
      rw [ho]
      have hw : Region.wanted o (yielded ops a.tmps) = true := by unfold Region.wanted; rw [hg9]
      simp only [if_pos hw]
      refine Or.inl (Oper.wp_mono (fun a' w' h => Or.inr ⟨fun k hk => ?_, h⟩) hl)
      rw [Nat.testBit_or, Nat.testBit_two_pow]
      by_cases e : i = k
      · simp [e]
      · rw [hall k (by omega)]; rfl
    have hi : i < n := by omega
    have hlift : ∀ a' W', SInv rows base N w (m ||| 2 ^ i) a' W' → J (m ||| 2 ^ i) a' W' := by
      intro a' W' h
      refine .inl ⟨?_, fun k hk j hj => ?_, h⟩
      · rw [Nat.testBit_or, Nat.testBit_two_pow, hbn]
        simp [hin]
      · rw [Nat.testBit_or, Nat.testBit_two_pow] at hk
        have : m.testBit j = true := by
          by_cases e : i = k
          · subst e; exact hdepsT j hj
          · rw [Bool.or_eq_true] at hk
            rcases hk with hk | hk
            · exact hcl k hk j hj
            · exact absurd (of_decide_eq_true hk) e
        rw [Nat.testBit_or, this]; rfl
    obtain ⟨r, hr, hkey⟩ := hrow hi ho
    obtain ⟨S1, S2, S3⟩ := hstep.get r (List.mem_of_getElem? hr)
    unfold SRow.key keyO at hkey
    simp only [Prod.mk.injEq] at hkey
    obtain ⟨ke1, ke2, ke3, ke4⟩ := hkey
    have hdeps' : ∀ j ∈ r.deps, m.testBit j = true := by
      intro j hj
      refine hdeps j ?_
      unfold depsOf
      rw [List.getElem?_map, Array.getElem?_toList, ho]
      simp only [Option.map_some, Option.getD_some]
      rw [ke4]
      exact hj
    have hw : Region.wanted o (yielded ops a.tmps) = true := by
      unfold Region.wanted
      cases hg : o.guard with
      | none => rfl
      | some p =>
        obtain ⟨j, b⟩ := p
        obtain ⟨rj, h1, ⟨d, h2⟩, h3, h4⟩ := S2 j b (by rw [← ke3, hg])
        obtain ⟨v, h5, h6⟩ := hI.slot j rj d (hdeps' j h3) h1 h2
        have h7 := h4 v w1 h6
        subst h7
        have hjn : j < n := by rw [← hlen]; exact (List.getElem?_eq_some_iff.1 h1).1
        have hj : j < ops.size := by omega
        obtain ⟨rj', h8, h9⟩ := hrow hjn (Array.getElem?_eq_getElem hj)
        rw [h1] at h8
        cases h8
        unfold SRow.key keyO at h9
        simp only [Prod.mk.injEq] at h9
        unfold yielded
        unfold Slot at h5
        have hd0 : ops[j].dst = some d := by rw [h9.2.1, h2]
        simp only [Array.getElem?_eq_getElem hj, Option.bind_some, hd0, h5]
        cases b <;> rfl
    have hput : ∀ v w', Lat w1 w' → (r.dst.isSome = true → r.V v w') → SInv rows base N w (m ||| 2 ^ i) (a.put o.dst v) w' := by
      intro v w' hl hv
      have hmono : ∀ j rj d, (m ||| 2 ^ i).testBit j = true → j ≠ i → rows[j]? = some rj → rj.dst = some d → ∃ v, Slot a d v ∧ rj.V v w' := by
        intro j rj d hj hne h1 h2
        have hj' : m.testBit j = true := by
          rw [Nat.testBit_or, Nat.testBit_two_pow] at hj
          have : ¬ i = j := fun e => hne e.symm
          simpa [this] using hj
        obtain ⟨u, h3, h4⟩ := hI.slot j rj d hj' h1 h2
        obtain ⟨T1, _, _⟩ := hstep.get rj (List.mem_of_getElem? h1)
        exact ⟨u, h3, T1 u _ _ h4 hl⟩
      cases hdd : r.dst with
      | none =>
        rw [hdd] at ke2
        rw [ke2]
        refine ⟨hI.size, hI.defers, hI.lat.trans hl, hI.base, fun j rj d hj h1 h2 => ?_⟩
        by_cases hne : j = i
        · subst hne
          rw [hr] at h1; cases h1
          rw [hdd] at h2; cases h2
        · exact hmono j rj d hj hne h1 h2
      | some d0 =>
        rw [hdd] at ke2
        rw [ke2]
        obtain ⟨hd0, hd1⟩ := hdst hr hdd
        have hv' := hv (by rw [hdd]; rfl)
        refine ⟨by simp [Act.put, hI.size], by simp [Act.put, hI.defers], hI.lat.trans hl, fun k u hk => ?_, fun j rj d hj h1 h2 => ?_⟩
        · have := hI.base k u hk
          unfold Slot at this ⊢
          simp only [Act.put]
          rw [Array.getElem?_setIfInBounds_ne (fun e => by subst e; rw [hd1] at hk; cases hk)]
          exact this
        · by_cases hne : j = i
          · subst hne
            rw [hr] at h1; cases h1
            rw [hdd] at h2; cases h2
            refine ⟨v, ?_, hv'⟩
            unfold Slot
            simp [Act.put, hI.size, hd0]
          · obtain ⟨u, h3, h4⟩ := hmono j rj d hj hne h1 h2
            refine ⟨u, ?_, h4⟩
            unfold Slot at h3 ⊢
            simp only [Act.put]
            rw [Array.getElem?_setIfInBounds_ne (fun e => by subst e; exact hne (go_inj hdis2 h1 hr h2 hdd))]
            exact h3
    have hruns := S3 a w1 hI.lat (fun k v hk => (hI.base k v hk).ev) (fun j rj d hj h1 h2 => by
      obtain ⟨v, h3, h4⟩ := hI.slot j rj d (hdeps' j hj) h1 h2
      exact ⟨v, h3.ev, h4⟩) o ke1
    unfold wpOp
    rw [ho]
    simp only [if_pos hw]
    refine Or.inl ?_
    unfold Oper.wp
    rcases hruns with ⟨v, w', h1, h2, h3⟩ | ⟨f, args, h1, h2⟩
    · rw [h1, Oper.upon_value]
      exact hlift _ _ (hput v w' h2 h3)
    · rw [h1, Oper.upon_enter]
      refine h2.mono fun e w' h => ?_
      obtain ⟨v, rfl, h3, h4⟩ := h
      exact hlift _ _ (hput v w' h3 h4)
  · intro m a W hall hJ
    rcases hJ with ⟨hbn, _, _⟩ | ⟨_, h⟩
    · rw [hall n (by omega)] at hbn; cases hbn
    · exact h
end Go.Proofs.YtogkkhaepfablaaGreat

/- Numbers of any length of the reference in the slots of a drawn region. -/
namespace Go.Proofs.YtogkkhaepfablaaGreat
open Go.RowKit

/-- A number in a slot. -/
def LV (z : Int) (N : Nat) (v : Value) (w : World) : Prop := ∃ b A n c, v = .agg #[.bool b, .slice A n c] ∧ Rg w b A n c z ∧ n ≤ N
def LN (z : Int) (N : Nat) (v : Value) (w : World) : Prop := ∃ A n c, v = .agg #[.bool false, .slice A n c] ∧ Rg w false A n c z ∧ n ≤ N
def LNF (z : Int) (N B : Nat) (v : Value) (w : World) : Prop := ∃ A n c, v = .agg #[.bool false, .slice A n c] ∧ Rg w false A n c z ∧ n ≤ N ∧ ∀ a, A = some a → B ≤ a.block
section
variable {z : Int} {N B : Nat} {v : Value} {w w' : World} {e : Ending} {d : Prop}
theorem LV.mono (h : LV z N v w) (hl : Lat w w') : LV z N v w' := by
  obtain ⟨b, A, n, c, e, hr, hn⟩ := h
  exact ⟨b, A, n, c, e, hr.later hl, hn⟩
theorem LN.mono (h : LN z N v w) (hl : Lat w w') : LN z N v w' := by
  obtain ⟨A, n, c, e, hr, hn⟩ := h
  exact ⟨A, n, c, e, hr.later hl, hn⟩
theorem LNF.mono (h : LNF z N B v w) (hl : Lat w w') : LNF z N B v w' := by
  obtain ⟨A, n, c, e, hr, hn⟩ := h
  exact ⟨A, n, c, e, hr.later hl, hn⟩
theorem RefPost.run (h : RefPost w z N e w') : ∃ v, e = .returned v ∧ (Lat w w' ∧ (d → LV z N v w')) := by
  obtain ⟨b, A, n, c, e, hr, hn, hl⟩ := h
  exact ⟨_, e, hl, fun _ => ⟨b, A, n, c, rfl, hr, hn⟩⟩
theorem RefN.run (h : RefN w z N e w') : ∃ v, e = .returned v ∧ (Lat w w' ∧ (d → LN z N v w')) := by
  obtain ⟨A, n, c, e, hr, hn, hl⟩ := h
  exact ⟨_, e, hl, fun _ => ⟨A, n, c, rfl, hr, hn⟩⟩
theorem RefFN.run (h : RefFN w z N e w') (hB : B ≤ w.heap.size) : ∃ v, e = .returned v ∧ (Lat w w' ∧ (d → LNF z N B v w')) := by
  obtain ⟨A, n, c, e, hr, hn, hl, hf⟩ := h
  exact ⟨_, e, hl, fun _ => ⟨A, n, c, rfl, hr, hn, fun a ha => Nat.le_trans hB (hf a ha)⟩⟩
end
end Go.Proofs.YtogkkhaepfablaaGreat

/- The reference's drafts of wide numbers: Within. -/
namespace Go.Proofs.YtogkkhaepfablaaGreat
open Go.RowKit
set_option linter.unusedSimpArgs false
set_option linter.unusedVariables false

theorem wi_rem {x lim q : Int} (h : 0 ≤ x) (e : x % lim = q) : x.tmod lim = q := by rw [Int.tmod_eq_emod_of_nonneg h]; exact e
theorem rg_nil (V : World) : Rg V false none 0 0 0 := ⟨Nat.le_refl _, [], Sl.nil _ _ _, (fun y h => absurd h (by simp)), (by first | exact trivial | simp [Nz]), (fun h => by cases h), by simp [sgn, val]⟩
theorem RefPost.leF {w w' : World} {z : Int} {N M : Nat} {e : Ending} (h : RefPost w z N e w') (hN : N ≤ M) : RefPost w z M e w' := by
  obtain ⟨b, A, n, c, e, hr, hn, hl⟩ := h
  exact ⟨b, A, n, c, e, hr, by omega, hl⟩
theorem RefF.le {w w' : World} {z : Int} {N M : Nat} {e : Ending} (h : RefF w z N e w') (hN : N ≤ M) : RefF w z M e w' := by
  obtain ⟨b, A, n, c, e, hr, hn, hl⟩ := h
  exact ⟨b, A, n, c, e, hr, by omega, hl⟩
theorem wi_raise (q : Nat) (hq : q < 511) : ∃ p : Int, 0 ≤ p ∧ ∀ A1 n1 c1 w, Rg w false A1 n1 c1 2 → n1 ≤ 2 → Calls Tryz.prog 37 #[.agg #[.bool false, .slice A1 n1 c1], .int .i64 q] w (RefN w p 1024) := by
  have hp0 : (0 : Int) ≤ 2 ^ q := Int.le_of_lt (Int.pow_pos (by decide))
  exact ⟨2 ^ q, hp0, fun A1 n1 c1 w h h' => (rRaised_any false A1 n1 c1 2 q w h h' (by omega)).mono fun e w' h => (h.leF (by omega)).nonneg hp0⟩
theorem wi_plus {wr : World} {A' : Option Addr} {n' c' k : Nat} {z p : Int} (hr : Rg wr false A' n' c' z) (hz : 0 ≤ z) (hn : n' ≤ 1100 + k) (hp : 0 ≤ p) : ∀ A1 n1 c1 w, Lat wr w → Rg w false A1 n1 c1 p → n1 ≤ 1024 → k ≤ 6 → Calls Tryz.prog 43 #[.agg #[.bool false, .slice A' n' c'], .agg #[.bool false, .slice A1 n1 c1]] w (RefFN w (z + p) (1100 + (k + 1))) := fun A1 n1 c1 w hl h h' hk =>
  (rPlus_fresh false A' n' c' z A1 n1 c1 p w (hr.later hl) h (by omega) (by omega)).mono fun e w' h => (h.le (by omega)).nonneg (by omega)
theorem wi_minus {wr : World} {A' : Option Addr} {n' c' k : Nat} {z r4 less : Int} {HM : Hid (less.tmod 4 = r4 ∧ IntKind.i64.wrap r4 = r4 ∧ IntKind.u32.wrap r4 = r4)} (hr : Rg wr false A' n' c' z) (hn : n' ≤ 1100 + k) (hk : k ≤ 6) : ∀ b2 A2 n2 c2 w, Lat wr w → Rg w b2 A2 n2 c2 r4 → n2 ≤ 2 → Calls Tryz.prog 44 #[.agg #[.bool false, .slice A' n' c'], .agg #[.bool b2, .slice A2 n2 c2]] w (RefPost w (z - r4) 1108) := fun b2 A2 n2 c2 w hl h h' =>
  (rMinus_any false A' n' c' z b2 A2 n2 c2 r4 w (hr.later hl) h (by omega) (by omega)).mono fun e w' h => h.leF (by omega)
structure WiQ (x lim : Int) (q : Nat) : Prop where
  e : x.tmod lim = (q : Int)
  w : wrap64 (q : Int) = (q : Int)
  h : q < 511
theorem wiQ {x lim : Int} (h : 0 ≤ x) (h1 : 1 ≤ lim) (h2 : lim ≤ 511) : ∃ q, WiQ x lim q := by
  have a1 := Int.emod_nonneg x (show lim ≠ 0 by omega)
  have a2 := Int.emod_lt_of_pos x (show (0 : Int) < lim by omega)
  obtain ⟨q, hq⟩ := Int.eq_ofNat_of_zero_le a1
  exact ⟨q, wi_rem h hq, IntWalk.wrap64_in _ (by omega), by omega⟩
noncomputable def wi13_rows (A' : Option Addr) (n' c' B0 q k : Nat) (z p : Int) : List SRow := [
  ⟨Op.load 85 (Operand.tmp 5), some 50, none, [], fun v _ => v = .agg #[.bool false, .slice A' n' c']⟩,
  ⟨Op.call { callee := Callee.value (Operand.func 38), args := #[Operand.const (Value.int IntKind.i64 2)], argTypes := #[3] }, some 51, none, [], LN 2 2⟩,
  ⟨Op.move (Operand.tmp 8), some 52, none, [], fun v _ => v = .int .i64 (q : Nat)⟩,
  ⟨Op.call { callee := Callee.value (Operand.func 37), args := #[Operand.tmp 51, Operand.tmp 52], argTypes := #[85, 3] }, some 53, none, [1, 2, 1], LN p 1024⟩,
  ⟨Op.call { callee := Callee.value (Operand.func 43), args := #[Operand.tmp 50, Operand.tmp 53], argTypes := #[85, 85] }, some 54, none, [0, 3, 3], LNF (z + p) (1100 + (k + 1)) B0⟩]
noncomputable def wi13_base (b : Bool) (a : Addr) (n c : Nat) (less lim : Int) (g2 g4 g5 : Nat) (A3 : Option Addr) (yl c3 k q : Nat) : List (Nat × Value) := [(0, .agg #[.bool b, .slice (some a) n c, .int .u32 less]), (1, .int .i64 lim), (2, .pointer (some ⟨g2, 0, none⟩)), (3, undef), (4, .pointer (some ⟨g4, 0, none⟩)), (5, .pointer (some ⟨g5, 0, none⟩)), (6, .slice A3 yl c3), (7, .int .i64 (k : Nat)), (8, .int .i64 (q : Nat)), (11, undef), (12, undef), (13, .agg #[.bool false, .slice none 0 0]), (59, undef), (60, undef), (61, undef), (62, undef), (63, undef), (64, undef), (65, undef), (66, undef), (67, undef), (68, undef), (69, undef), (70, undef), (71, undef), (72, undef), (73, undef), (74, undef), (75, undef)]
set_option maxRecDepth 100000 in
set_option maxHeartbeats 4000000 in
theorem wi13_steps (V : World) (A' : Option Addr) (n' c' B0 : Nat) (z p : Int) (b : Bool) (a : Addr) (n c : Nat) (less lim : Int) (g2 g4 g5 : Nat) (A3 : Option Addr) (yl c3 k q : Nat) (hB0 : B0 ≤ V.heap.size) (R5 : ∀ w', Lat V w' → w'.rangeAt g5 0 [.bool false, .slice A' n' c']) (J85 : (Tryz.prog.info? 85).map (·.size) = some 2)
    (HL2 : ∀ w, Calls Tryz.prog 38 #[.int .i64 2] w (RefN w 2 2))
    (HR : ∀ A1 n1 c1 w, Rg w false A1 n1 c1 2 → n1 ≤ 2 → Calls Tryz.prog 37 #[.agg #[.bool false, .slice A1 n1 c1], .int .i64 (q : Nat)] w (RefN w p 1024))
    (HP : ∀ A1 n1 c1 w, Lat V w → Rg w false A1 n1 c1 p → n1 ≤ 1024 → Calls Tryz.prog 43 #[.agg #[.bool false, .slice A' n' c'], .agg #[.bool false, .slice A1 n1 c1]] w (RefFN w (z + p) (1100 + (k + 1)))) :
    AllSteps Tryz.prog (wi13_rows A' n' c' B0 q k z p) (wi13_base b a n c less lim g2 g4 g5 A3 yl c3 k q) V (wi13_rows A' n' c' B0 q k z p) := by
  refine AllSteps.next (fun _ _ _ h _ => h) (fun j b h => by cases h) (fun a w hl hb hd o ho => by have e1 := hb 5 _ rfl; exact Runs.val (yv_load (S := Lat V) e1 R5 Tryz.underlying85 rfl J85 o w ho hl) ⟨Lat.refl _, fun _ => rfl⟩) ?_
  refine AllSteps.next (fun _ _ _ h hl => h.mono hl) (fun j b h => by cases h) (fun a w hl hb hd o ho => by exact Runs.call (yv_call (f := 38) (fun _ => by go_simp) o ho (by simp only [List.map_toArray, List.map_cons, List.map_nil, eval_const])) ((HL2 w).mono fun e w' h => h.run)) ?_
  refine AllSteps.next (fun _ _ _ h _ => h) (fun j b h => by cases h) (fun a w hl hb hd o ho => by have e1 := hb 8 _ rfl; exact Runs.val (yv_move (S := fun _ => True) e1 o w ho trivial) ⟨Lat.refl _, fun _ => rfl⟩) ?_
  refine AllSteps.next (fun _ _ _ h hl => h.mono hl) (fun j b h => by cases h) (fun a w hl hb hd o ho => by obtain ⟨v1, e1, q1⟩ := hd 1 _ _ (by simp) rfl rfl; obtain ⟨A1, n1, c1, rfl, r1, m1⟩ := (show LN 2 2 v1 w from q1); obtain ⟨v2, e2, q2⟩ := hd 2 _ _ (by simp) rfl rfl; subst q2; exact Runs.call (yv_call (f := 37) (fun _ => by go_simp) o ho (by simp only [List.map_toArray, List.map_cons, List.map_nil, eval_const, e1, e2])) ((HR A1 n1 c1 w r1 m1).mono fun e w' h => h.run)) ?_
  refine AllSteps.next (fun _ _ _ h hl => h.mono hl) (fun j b h => by cases h) (fun a w hl hb hd o ho => by obtain ⟨v1, e1, q1⟩ := hd 0 _ _ (by simp) rfl rfl; subst q1; obtain ⟨v2, e2, q2⟩ := hd 3 _ _ (by simp) rfl rfl; obtain ⟨A2, n2, c2, rfl, r2, m2⟩ := (show LN p 1024 v2 w from q2); exact Runs.call (yv_call (f := 43) (fun _ => by go_simp) o ho (by simp only [List.map_toArray, List.map_cons, List.map_nil, eval_const, e1, e2])) ((HP A2 n2 c2 w hl r2 m2).mono fun e w' h => h.run (Nat.le_trans hB0 hl.size))) ?_
  exact AllSteps.none
noncomputable def wi15_rows (A' : Option Addr) (n' c' k : Nat) (z r4 less : Int) (g2 : Nat) : List SRow := [
  ⟨Op.load 85 (Operand.tmp 5), some 59, none, [], fun v _ => v = .agg #[.bool false, .slice A' n' c']⟩,
  ⟨Op.fieldAddr 30 (Operand.tmp 2) 2, some 60, none, [], fun v _ => v = .pointer (some ⟨g2, 2, none⟩)⟩,
  ⟨Op.load 28 (Operand.tmp 60), some 61, none, [1], fun v _ => v = .int .u32 less⟩,
  ⟨Op.binOp BinOp.rem 28 (Operand.tmp 61) (Operand.const (Value.int IntKind.u32 4)) 28, some 62, none, [2], fun v _ => v = .int .u32 r4⟩,
  ⟨Op.convert 28 3 (Operand.tmp 62), some 63, none, [3], fun v _ => v = .int .i64 r4⟩,
  ⟨Op.call { callee := Callee.value (Operand.func 38), args := #[Operand.tmp 63], argTypes := #[3] }, some 64, none, [4], LV r4 2⟩,
  ⟨Op.call { callee := Callee.value (Operand.func 44), args := #[Operand.tmp 59, Operand.tmp 64], argTypes := #[85, 85] }, some 65, none, [0, 5, 5], LV (z - r4) 1108⟩]
noncomputable def wi15_base (g2 g4 g5 : Nat) : List (Nat × Value) := [(2, .pointer (some ⟨g2, 0, none⟩)), (4, .pointer (some ⟨g4, 0, none⟩)), (5, .pointer (some ⟨g5, 0, none⟩))]
set_option maxRecDepth 100000 in
set_option maxHeartbeats 4000000 in
theorem wi15_steps (V : World) (A' : Option Addr) (n' c' k : Nat) (z r4 less : Int) (g2 g4 g5 : Nat) (R5 : ∀ w', Lat V w' → w'.rangeAt g5 0 [.bool false, .slice A' n' c']) (J85 : (Tryz.prog.info? 85).map (·.size) = some 2) (R2 : ∀ w', Lat V w' → w'.cell? ⟨g2, 2, none⟩ = some (.int .u32 less))
    (hm : less.tmod 4 = r4) (hw4 : IntKind.i64.wrap r4 = r4) (hw32 : IntKind.u32.wrap r4 = r4)
    (HL4 : ∀ w, Calls Tryz.prog 38 #[.int .i64 r4] w (RefPost w r4 2))
    (HMN : ∀ b2 A2 n2 c2 w, Lat V w → Rg w b2 A2 n2 c2 r4 → n2 ≤ 2 → Calls Tryz.prog 44 #[.agg #[.bool false, .slice A' n' c'], .agg #[.bool b2, .slice A2 n2 c2]] w (RefPost w (z - r4) 1108)) :
    AllSteps Tryz.prog (wi15_rows A' n' c' k z r4 less g2) (wi15_base g2 g4 g5) V (wi15_rows A' n' c' k z r4 less g2) := by
  refine AllSteps.next (fun _ _ _ h _ => h) (fun j b h => by cases h) (fun a w hl hb hd o ho => by have e1 := hb 5 _ rfl; exact Runs.val (yv_load (S := Lat V) e1 R5 Tryz.underlying85 rfl J85 o w ho hl) ⟨Lat.refl _, fun _ => rfl⟩) ?_
  refine AllSteps.next (fun _ _ _ h _ => h) (fun j b h => by cases h) (fun a w hl hb hd o ho => by have e1 := hb 2 _ rfl; obtain ⟨d, op, ty, p, af, g⟩ := o; simp only at ho; subst ho; have ec : ∀ v, a.eval (.const v) = v := fun _ => rfl; exact Runs.val (by unfold execOp; generalize a.eval = ev at e1 ec ⊢; simp only [e1, ec]; go_simp) ⟨Lat.refl _, fun _ => rfl⟩) ?_
  refine AllSteps.next (fun _ _ _ h _ => h) (fun j b h => by cases h) (fun a w hl hb hd o ho => by obtain ⟨v1, e1, q1⟩ := hd 1 _ _ (by simp) rfl rfl; subst q1; obtain ⟨d, op, ty, p, af, g⟩ := o; simp only at ho; subst ho; have ec : ∀ v, a.eval (.const v) = v := fun _ => rfl; exact Runs.val (by unfold execOp; generalize a.eval = ev at e1 ec ⊢; simp only [e1, ec]; have hc := R2 w hl; go_simp) ⟨Lat.refl _, fun _ => rfl⟩) ?_
  refine AllSteps.next (fun _ _ _ h _ => h) (fun j b h => by cases h) (fun a w hl hb hd o ho => by obtain ⟨v1, e1, q1⟩ := hd 2 _ _ (by simp) rfl rfl; subst q1; obtain ⟨d, op, ty, p, af, g⟩ := o; simp only at ho; subst ho; have ec : ∀ v, a.eval (.const v) = v := fun _ => rfl; exact Runs.val (by unfold execOp; generalize a.eval = ev at e1 ec ⊢; simp only [e1, ec]; go_simp) ⟨Lat.refl _, fun _ => rfl⟩) ?_
  refine AllSteps.next (fun _ _ _ h _ => h) (fun j b h => by cases h) (fun a w hl hb hd o ho => by obtain ⟨v1, e1, q1⟩ := hd 3 _ _ (by simp) rfl rfl; subst q1; obtain ⟨d, op, ty, p, af, g⟩ := o; simp only at ho; subst ho; have ec : ∀ v, a.eval (.const v) = v := fun _ => rfl; exact Runs.val (by unfold execOp; generalize a.eval = ev at e1 ec ⊢; simp only [e1, ec]; go_simp) ⟨Lat.refl _, fun _ => rfl⟩) ?_
  refine AllSteps.next (fun _ _ _ h hl => h.mono hl) (fun j b h => by cases h) (fun a w hl hb hd o ho => by obtain ⟨v1, e1, q1⟩ := hd 4 _ _ (by simp) rfl rfl; subst q1; exact Runs.call (yv_call (f := 38) (fun _ => by go_simp) o ho (by simp only [List.map_toArray, List.map_cons, List.map_nil, eval_const, e1])) ((HL4 w).mono fun e w' h => h.run)) ?_
  refine AllSteps.next (fun _ _ _ h hl => h.mono hl) (fun j b h => by cases h) (fun a w hl hb hd o ho => by obtain ⟨v1, e1, q1⟩ := hd 0 _ _ (by simp) rfl rfl; subst q1; obtain ⟨v2, e2, q2⟩ := hd 5 _ _ (by simp) rfl rfl; obtain ⟨b2, A2, n2, c2, rfl, r2, m2⟩ := (show LV r4 2 v2 w from q2); exact Runs.call (yv_call (f := 44) (fun _ => by go_simp) o ho (by simp only [List.map_toArray, List.map_cons, List.map_nil, eval_const, e1, e2])) ((HMN b2 A2 n2 c2 w hl r2 m2).mono fun e w' h => h.run)) ?_
  exact AllSteps.none
theorem spell76 (T : Array Value) (h : T.size = 76) : ∃ f : Nat → Value, (∀ k, f k = T.getD k undef) ∧ T = #[f 0, f 1, f 2, f 3, f 4, f 5, f 6, f 7, f 8, f 9, f 10, f 11, f 12, f 13, f 14, f 15, f 16, f 17, f 18, f 19, f 20, f 21, f 22, f 23, f 24, f 25, f 26, f 27, f 28, f 29, f 30, f 31, f 32, f 33, f 34, f 35, f 36, f 37, f 38, f 39, f 40, f 41, f 42, f 43, f 44, f 45, f 46, f 47, f 48, f 49, f 50, f 51, f 52, f 53, f 54, f 55, f 56, f 57, f 58, f 59, f 60, f 61, f 62, f 63, f 64, f 65, f 66, f 67, f 68, f 69, f 70, f 71, f 72, f 73, f 74, f 75] := ⟨fun k => T.getD k undef, fun _ => rfl, (spell 76 T h).trans (by kernel_rfl)⟩
set_option maxRecDepth 100000 in
set_option maxHeartbeats 4000000 in
theorem rWithin_any (b : Bool) (A : Option Addr) (n c : Nat) (xs : List Int) (less lim : Int) (w : World) (hs : Sl w .u16 A n xs) (hx : ∀ x ∈ xs, 0 ≤ x ∧ x ≤ 65535) (hl : 0 ≤ less ∧ less < 4294967296) (h1 : 1 ≤ lim) (h2 : lim ≤ 511) :
    Calls Tryz.prog 11 #[.agg #[.bool b, .slice A n c, .int .u32 less], .int .i64 lim] w (fun e w' => ∃ u : W8, e = .returned (.agg #[.int .u64 u.a0, .int .u64 u.a1, .int .u64 u.a2, .int .u64 u.a3, .int .u64 u.a4, .int .u64 u.a5, .int .u64 u.a6, .int .u64 u.a7]) ∧ u.ok ∧ Lat w w') := by
  have HX := Lib.hid hx
  have HQ : Hid (∀ x, 0 ≤ x → ∃ q, WiQ x lim q) := fun x h => wiQ h h1 h2
  have hlim0 : (lim == 0) = false := by rw [beq_eq_false_iff_ne]; omega
  have hlimN : ¬ lim = 0 := by omega
  have hm : less.tmod 4 = less % 4 := Int.tmod_eq_emod_of_nonneg hl.1
  obtain ⟨r4, hr4⟩ : ∃ q, less % 4 = q := ⟨_, rfl⟩
  have hq2 : 0 ≤ r4 ∧ r4 < 4 := by omega
  have hw4 : IntKind.i64.wrap r4 = r4 := by rw [IntWalk.i64_left]; exact IntWalk.wrap64_in _ (by omega)
  have hw32 : IntKind.u32.wrap r4 = r4 := by have : IntKind.u32.wrap r4 = r4 % 4294967296 := rfl; rw [this]; omega
  rw [hr4] at hm
  have HL4 := Lib.hid (fun w => rLong1_any r4 w (by omega) (by omega))
  have HL2 := Lib.hid (fun w => (rLong1_any 2 w (by decide) (by decide)).mono fun e w' h => h.nonneg (by decide))
  have HM := Lib.hid (And.intro hm (And.intro hw4 hw32))
  clear hx hl h1 h2 hq2 hr4 hm hw4 hw32
  go_enter Tryz.func11, Tryz.ntmps11
  go_upto_region 1 with (fail)
  refine name2 (Q := fun W => Code.wp _ _ _ _ W) ?_
  intro W lw hsz k2 k4
  obtain ⟨g4, hg4⟩ : ∃ z, w.heap.size + 1 = z := ⟨_, rfl⟩
  obtain ⟨g2, hg2⟩ : ∃ z, w.heap.size = z := ⟨_, rfl⟩
  have hb : w.heap.size ≤ g2 ∧ g2 < g4 := by omega
  rw [hg4] at k4
  rw [hg2] at k2
  rw [hg4, hg2]
  clear hg4 hg2 hsz
  have h4l := k4.lt
  go_upto_region 2 with (fail)
  refine name1 (Q := fun W => Code.wp _ _ _ _ W) ?_
  intro V lv hsz k5
  obtain ⟨g5, hg5⟩ : ∃ z, W.heap.size = z := ⟨_, rfl⟩
  have h45 : g4 < g5 := by omega
  rw [hg5] at k5 ⊢
  replace k2 := k2.later lv
  replace k4 := k4.later lv
  have LV0 := lw.trans lv
  clear lv lw hsz hg5 h4l
  obtain ⟨B, hB⟩ : ∃ B, V.heap.size = B := ⟨_, rfl⟩
  have h5B : g5 < B := by have := k5.lt; omega
  have hw2 : w.heap.size ≤ g2 := hb.1
  have hw5 : w.heap.size ≤ g5 := by omega
  have ho0 : Own V B 3 .i64 (.slice none 0 0) [] := Own.nil _ _ _ _
  have hr0 : Rg V false none 0 0 0 := rg_nil V
  go_upto_region 4 with (fail)
  go_loopw [6, 7] (fun v i wr => ∃ (k : Nat) (ys : List Int) (A' : Option Addr) (n' c' : Nat) (z : Int), i = .int .i64 k ∧ k ≤ 6 ∧ ys.length ≤ k ∧ Own wr B 3 .i64 v ys ∧ 0 ≤ z ∧ Rg wr false A' n' c' z ∧ n' ≤ 1100 + k ∧ Blk wr g2 30 #[.bool b, .slice A n c, .int .u32 less] ∧ Blk wr g4 26 #[.int .u64 W8.zero.a0, .int .u64 W8.zero.a1, .int .u64 W8.zero.a2, .int .u64 W8.zero.a3, .int .u64 W8.zero.a4, .int .u64 W8.zero.a5, .int .u64 W8.zero.a6, .int .u64 W8.zero.a7] ∧ Blk wr g5 85 #[.bool false, .slice A' n' c'] ∧ Lat w wr ∧ B ≤ wr.heap.size) (fun _ i _ => 6 - (intOf i).toNat)
  case atStart => exact ⟨0, [], none, 0, 0, 0, rfl, by omega, by simp, ho0, by omega, hr0, by omega, k2, k4, k5, LV0, by omega⟩
  case round =>
    clear ho0 hr0 k2 k4 k5 LV0 hB
    obtain ⟨k, ys, A', n', c', z, rfl, hk6, hyk, hown, hz, hr, hn', k2, k4, k5, L, hBw⟩ := hrel
    have e0 := k2.cell 0
    have e1 := k2.cell 1
    have e2 := k2.cell 2
    by_cases hlt : k < n ∧ k < 6
    · obtain ⟨hkn, hk⟩ := hlt
      obtain ⟨a, x, rfl, ha, hxk, hcell⟩ := (hs.later L).at hkn
      have hx := HX.out x (List.mem_of_getElem? hxk)
      have hx0 := hx.1
      have hx1 := hx.2
      obtain ⟨q, hq⟩ := HQ.out x hx0
      obtain ⟨hqe, hqw, hq5⟩ := hq
      have hkI : (k : Int) < 6 := by omega
      have hknI : (k : Int) < (n : Int) := by omega
      clear hxk hx
      obtain ⟨A3, c3, rfl, hsl, hcc, hfr⟩ := hown.form
      go_wp2_with fail
      go_loopw [9, 10] (fun is j W => ∃ (jj : Nat) (bb : Bool), is = .bool bb ∧ j = .int .i64 jj ∧ jj ≤ ys.length ∧ W = wr) (fun _ j _ => ys.length - (intOf j).toNat)
      case atStart => exact ⟨0, false, rfl, rfl, by omega, rfl⟩
      case round =>
        obtain ⟨jj, bb, rfl, rfl, hjl, rfl⟩ := hrel
        by_cases hjy : jj < ys.length
        · obtain ⟨a3, y, rfl, ha3, hyj, hcy⟩ := hsl.at hjy
          have hjI : (jj : Int) < (ys.length : Int) := by omega
          cases bb with
          | true =>
            go_wp2
            go_roundw
            case rel => exact ⟨jj + 1, _, rfl, by go_num, by omega, trivial⟩
            case measure => simp [intOf]; omega
          | false =>
            go_wp2
            go_roundw
            case rel => exact ⟨jj + 1, _, rfl, by go_num, by omega, trivial⟩
            case measure => simp [intOf]; omega
        · obtain rfl : jj = ys.length := by omega
          cases bb with
          | true =>
            go_wp2
            go_roundw
            case rel => exact ⟨k + 1, ys, A', n', c', z, by go_num, by omega, by omega, hown, hz, hr, by omega, k2, k4, k5, L, hBw⟩
            case measure => simp [intOf]; omega
          | false =>
            obtain ⟨p, hp0, HR⟩ := wi_raise q hq5
            have HP := wi_plus (c' := c') (p := p) hr hz hn' hp0
            have hzp : 0 ≤ z + p := Int.add_nonneg hz hp0
            have HRH := Lib.hid HR
            have HPH := Lib.hid HP
            clear HR HP hp0 e0 e1 e2 hcell hqe hsl
            go_upto_region 13 with (fail)
            have HPk := fun A1 n1 c1 w h1 h2 h3 => HPH.out A1 n1 c1 w h1 h2 h3 hk6
            have R5 : ∀ w', Lat wr w' → w'.rangeAt g5 0 [.bool false, .slice A' n' c'] := fun w' hl => (k5.later hl).rangeAll
            have J85 : (Tryz.prog.info? 85).map (·.size) = some 2 := by kernel_rfl
            rename_i KN hKN
            refine wp_region_slotsL (wi13_rows A' n' c' wr.heap.size q k z p) (wi13_base b a n c less lim g2 g4 g5 A3 ys.length c3 k q) 76 5 [[], [], [], [1, 2, 1], [0, 3, 3], [4, 4, 0, 1, 2, 3, 4]] (by kernel_rfl) _ rfl rfl (by kernel_rfl) (by kernel_rfl) (by kernel_rfl) (by kernel_rfl) (by kernel_rfl) (by kernel_rfl) (by rfl) rfl ?_ ?_ ?_
            ·
              exact base_of (base_cons (by rfl) (base_cons (by rfl) (base_cons (by rfl) (base_cons (by rfl) (base_cons (by rfl) (base_cons (by rfl) (base_cons (by rfl) (base_cons (by rfl) (base_cons (by rfl) (base_cons (by rfl) (base_cons (by rfl) (base_cons (by rfl) (base_cons (by rfl) (base_cons (by rfl) (base_cons (by rfl) (base_cons (by rfl) (base_cons (by rfl) (base_cons (by rfl) (base_cons (by rfl) (base_cons (by rfl) (base_cons (by rfl) (base_cons (by rfl) (base_cons (by rfl) (base_cons (by rfl) (base_cons (by rfl) (base_cons (by rfl) (base_cons (by rfl) (base_cons (by rfl) (base_cons (by rfl) (base_nil _))))))))))))))))))))))))))))))
            · exact wi13_steps wr A' n' c' wr.heap.size z p b a n c less lim g2 g4 g5 A3 ys.length c3 k q (Nat.le_refl _) R5 J85 HL2.out HRH.out HPk
            · intro a9 W9 hsz9 hdf9 hL9 hbs hsl
              obtain ⟨v9, h09, qv9⟩ := hsl 4 _ _ rfl rfl
              obtain ⟨A6, n6, c6, rfl, s1, s2, s4⟩ := (show LNF (z + p) (1100 + (k + 1)) wr.heap.size v9 W9 from qv9)
              have K9 := k5.later hL9
              refine wp_store_mid 85 (.tmp 5) (.tmp 54) rfl g5 0 #[.bool false, .slice A6 n6 c6] (hbs 5 _ rfl).ev h09.ev (K9.thereAll _ rfl) (by kernel_rfl) (by simp [Value.oneCell']) ?_
              refine hKN _ _ ?_
              obtain ⟨T9, df9⟩ := a9
              obtain rfl : df9 = [] := hdf9
              obtain ⟨f, hf, rfl⟩ := spell76 T9 hsz9
              have x0 : f 0 = .agg #[.bool b, .slice (some a) n c, .int .u32 less] := (hf 0).trans (slot_getD (hbs 0 _ rfl))
              have x1 : f 1 = .int .i64 lim := (hf 1).trans (slot_getD (hbs 1 _ rfl))
              have x2 : f 2 = .pointer (some ⟨g2, 0, none⟩) := (hf 2).trans (slot_getD (hbs 2 _ rfl))
              have x3 : f 3 = undef := (hf 3).trans (slot_getD (hbs 3 _ rfl))
              have x4 : f 4 = .pointer (some ⟨g4, 0, none⟩) := (hf 4).trans (slot_getD (hbs 4 _ rfl))
              have x5 : f 5 = .pointer (some ⟨g5, 0, none⟩) := (hf 5).trans (slot_getD (hbs 5 _ rfl))
              have x6 : f 6 = .slice A3 ys.length c3 := (hf 6).trans (slot_getD (hbs 6 _ rfl))
              have x7 : f 7 = .int .i64 (k : Nat) := (hf 7).trans (slot_getD (hbs 7 _ rfl))
              have x8 : f 8 = .int .i64 (q : Nat) := (hf 8).trans (slot_getD (hbs 8 _ rfl))
              have x11 : f 11 = undef := (hf 11).trans (slot_getD (hbs 11 _ rfl))
              have x12 : f 12 = undef := (hf 12).trans (slot_getD (hbs 12 _ rfl))
              have x13 : f 13 = .agg #[.bool false, .slice none 0 0] := (hf 13).trans (slot_getD (hbs 13 _ rfl))
              have x59 : f 59 = undef := (hf 59).trans (slot_getD (hbs 59 _ rfl))
              have x60 : f 60 = undef := (hf 60).trans (slot_getD (hbs 60 _ rfl))
              have x61 : f 61 = undef := (hf 61).trans (slot_getD (hbs 61 _ rfl))
              have x62 : f 62 = undef := (hf 62).trans (slot_getD (hbs 62 _ rfl))
              have x63 : f 63 = undef := (hf 63).trans (slot_getD (hbs 63 _ rfl))
              have x64 : f 64 = undef := (hf 64).trans (slot_getD (hbs 64 _ rfl))
              have x65 : f 65 = undef := (hf 65).trans (slot_getD (hbs 65 _ rfl))
              have x66 : f 66 = undef := (hf 66).trans (slot_getD (hbs 66 _ rfl))
              have x67 : f 67 = undef := (hf 67).trans (slot_getD (hbs 67 _ rfl))
              have x68 : f 68 = undef := (hf 68).trans (slot_getD (hbs 68 _ rfl))
              have x69 : f 69 = undef := (hf 69).trans (slot_getD (hbs 69 _ rfl))
              have x70 : f 70 = undef := (hf 70).trans (slot_getD (hbs 70 _ rfl))
              have x71 : f 71 = undef := (hf 71).trans (slot_getD (hbs 71 _ rfl))
              have x72 : f 72 = undef := (hf 72).trans (slot_getD (hbs 72 _ rfl))
              have x73 : f 73 = undef := (hf 73).trans (slot_getD (hbs 73 _ rfl))
              have x74 : f 74 = undef := (hf 74).trans (slot_getD (hbs 74 _ rfl))
              have x75 : f 75 = undef := (hf 75).trans (slot_getD (hbs 75 _ rfl))
              clear hbs hsl hf hsz9 h09 qv9 hKN
              simp only [Act.put, x0, x1, x2, x3, x4, x5, x6, x7, x8, x11, x12, x13, x59, x60, x61, x62, x63, x64, x65, x66, x67, x68, x69, x70, x71, x72, x73, x74, x75]
              clear x0 x1 x2 x3 x4 x5 x6 x7 x8 x11 x12 x13 x59 x60 x61 x62 x63 x64 x65 x66 x67 x68 x69 x70 x71 x72 x73 x74 x75
              refine name_long (Q := fun W => Code.wp _ _ _ _ W) K9 ?_
              intro w5 j5 lp hrg
              have hownL := hown.later hL9
              have hown5 : Own w5 B 3 .i64 (.slice A3 ys.length c3) ys := hownL.kept (fun g hg hq => lp.block g (hownL.at_ g hq).2 (by omega))
              have r5 := hrg s1
              have j2 := (k2.later hL9).keepP lp (by omega)
              have j4 := (k4.later hL9).keepP lp (by omega)
              have L5 := lp.narrow (L.trans hL9) hw5
              have hB5 : B ≤ w5.heap.size := by have := lp.size; have := hL9.size; omega
              have hfrs : ∀ a, A6 = some a → ∀ q, Value.ownBlock (.slice A3 ys.length c3) = some q → a.block ≠ q := fun a ha q hq => by
                have h1 := s4 a ha
                have h2 := (hown.at_ q hq).2
                omega
              have hOB := Lib.hid (fun q h => (hown5.at_ q h).1)
              have HF := Lib.hid hfrs
              clear K9 hownL hown s4 s1 lp hrg k2 k4 k5 L hL9 hr hfr hfrs
              go_wp2_with (at_builtin; refine wpList_pushG rfl _ _ 71 rfl B 3 3 .i64 8 Tryz.underlying71 infoI64 (by decide) _ ys [_] _ rfl w5 (by rfl) hown5 1 rfl (by decide) (by rfl) (by omega) hB5 ?_; intro v' w6 hown6 hlat6 hblk6 hsz6)
              have no : ∀ g, g < B → ¬ some g = Value.ownBlock (.slice A3 ys.length c3) := fun g hg h => by have := hOB.out g h.symm; omega
              have m2 : Blk w6 g2 30 #[.bool b, .slice (some a) n c, .int .u32 less] := (hblk6 g2 (by omega) (no g2 (by omega))).trans j2
              have m4 : Blk w6 g4 26 #[.int .u64 W8.zero.a0, .int .u64 W8.zero.a1, .int .u64 W8.zero.a2, .int .u64 W8.zero.a3, .int .u64 W8.zero.a4, .int .u64 W8.zero.a5, .int .u64 W8.zero.a6, .int .u64 W8.zero.a7] := (hblk6 g4 (by omega) (no g4 (by omega))).trans j4
              have m5 : Blk w6 g5 85 #[.bool false, .slice A6 n6 c6] := (hblk6 g5 (by omega) (no g5 (by omega))).trans j5
              have r6 := r5.kept hsz6 (fun a ha hlt => hblk6 _ hlt (fun h => HF.out a ha _ h.symm rfl))
              have L6 := hlat6 w L5 (by omega)
              go_roundw
              case rel => exact ⟨k + 1, ys ++ [(q : Int)], A6, n6, c6, z + p, by go_num, by omega, by simp; omega, hown6, by omega, r6, by omega, m2, m4, m5, L6, by omega⟩
              case measure => simp [intOf]; omega
    · have hend : ¬ ((k : Int) < (n : Int)) ∨ ((k : Int) < (n : Int) ∧ ¬ ((k : Int) < 6)) := by omega
      have hw4 : w.heap.size ≤ g4 := by omega
      have HMN := wi_minus (c' := c') (k := k) (HM := HM) hr hn' hk6
      rcases hend with hend | ⟨hend, hend6⟩
      all_goals
        go_upto_region 15 with (fail)
        have R5 : ∀ w', Lat wr w' → w'.rangeAt g5 0 [.bool false, .slice A' n' c'] := fun w' hl => (k5.later hl).rangeAll
        have J85 : (Tryz.prog.info? 85).map (·.size) = some 2 := by kernel_rfl
        have R2 : ∀ w', Lat wr w' → w'.cell? ⟨g2, 2, none⟩ = some (.int .u32 less) := fun w' hl => (k2.later hl).cell 2
        rename_i KN hKN
        refine wp_region_slotsL (wi15_rows A' n' c' k z r4 less g2) (wi15_base g2 g4 g5) 76 7 [[], [], [1], [2], [3], [4], [0, 5, 5], [6, 6, 0, 1, 2, 3, 4, 5, 6]] (by kernel_rfl) _ rfl rfl (by kernel_rfl) (by kernel_rfl) (by kernel_rfl) (by kernel_rfl) (by kernel_rfl) (by kernel_rfl) (by rfl) rfl ?_ ?_ ?_
        ·
          exact base_of (base_cons (by rfl) (base_cons (by rfl) (base_cons (by rfl) (base_nil _))))
        · exact wi15_steps wr A' n' c' k z r4 less g2 g4 g5 R5 J85 R2 HM.out.1 HM.out.2.1 HM.out.2.2 HL4.out HMN
        · intro a9 W9 hsz9 hdf9 hL9 hbs hsl
          obtain ⟨v9, h09, qv9⟩ := hsl 6 _ _ rfl rfl
          obtain ⟨b6, A6, n6, c6, rfl, s1, s2⟩ := (show LV (z - r4) 1108 v9 W9 from qv9)
          have K9 := k5.later hL9
          refine wp_store_mid 85 (.tmp 5) (.tmp 65) rfl g5 0 #[.bool b6, .slice A6 n6 c6] (hbs 5 _ rfl).ev h09.ev (K9.thereAll _ rfl) (by kernel_rfl) (by simp [Value.oneCell']) ?_
          refine hKN _ _ ?_
          obtain ⟨T9, df9⟩ := a9
          obtain rfl : df9 = [] := hdf9
          obtain ⟨f, hf, rfl⟩ := spell76 T9 hsz9
          have x2 : f 2 = .pointer (some ⟨g2, 0, none⟩) := (hf 2).trans (slot_getD (hbs 2 _ rfl))
          have x4 : f 4 = .pointer (some ⟨g4, 0, none⟩) := (hf 4).trans (slot_getD (hbs 4 _ rfl))
          have x5 : f 5 = .pointer (some ⟨g5, 0, none⟩) := (hf 5).trans (slot_getD (hbs 5 _ rfl))
          clear hbs hsl hf hsz9 h09 qv9 hKN
          simp only [Act.put, x2, x4, x5]
          clear x2 x4 x5
          refine name_long (Q := fun W => Code.wp _ _ _ _ W) K9 ?_
          intro w5 j5 lp hrg
          have r5 := hrg s1
          have j2 := (k2.later hL9).keepP lp (by omega)
          have j4 := (k4.later hL9).keepP lp (by omega)
          have L5 := lp.narrow (L.trans hL9) hw5
          clear K9 s1 lp hrg k2 k4 k5 L hL9 hr HMN hown
          have d0 := j2.cell 0
          have y0 := j5.cell 0
          have y1 := j5.cell 1
          cases b with
          | false =>
            go_wp2_with fail
            refine (rOut_any _ _ _ _ _ w5 r5 (by omega)).mono ?_
            rintro e w6 ⟨u, r, rfl, hu, lu⟩
            have LU := L5
            clear d0 y0 y1 j2 j5 r5 L5
            have huo : u.ok := by
              rcases hu with ⟨_, _, rfl, _⟩ | ⟨_, rfl, _⟩
              · exact W8.of_ok _
              · exact W8.zero_ok
            replace j4 := j4.later lu
            have L6 := LU.trans lu
            clear hu lu LU
            go_upto_region 19 with (fail)
            refine name1 (Q := fun W => Code.wp _ _ _ _ W) ?_
            intro w8 l8 hs8 k11
            replace j4 := j4.later l8
            have d0 := k11.cell 0
            have d1 := k11.cell 1
            have d2 := k11.cell 2
            have d3 := k11.cell 3
            have d4 := k11.cell 4
            have d5 := k11.cell 5
            have d6 := k11.cell 6
            have d7 := k11.cell 7
            have p0 := j4.cell 0
            have p1 := j4.cell 1
            have p2 := j4.cell 2
            have p3 := j4.cell 3
            have p4 := j4.cell 4
            have p5 := j4.cell 5
            have p6 := j4.cell 6
            have p7 := j4.cell 7
            have f0 := j4.frozen 0
            have f1 := j4.frozen 1
            have f2 := j4.frozen 2
            have f3 := j4.frozen 3
            have f4 := j4.frozen 4
            have f5 := j4.frozen 5
            have f6 := j4.frozen 6
            have f7 := j4.frozen 7
            have hlt4 := j4.lt
            go_wp2
            refine name_put8 (Q := fun W => bodyPost _ _ _ _ _ W) j4 ?_
            intro w9 k9 l9
            have e0 := k9.cell 0
            have e1 := k9.cell 1
            have e2 := k9.cell 2
            have e3 := k9.cell 3
            have e4 := k9.cell 4
            have e5 := k9.cell 5
            have e6 := k9.cell 6
            have e7 := k9.cell 7
            refine bodyPost_ret (v := .agg #[.int .u64 u.a0, .int .u64 u.a1, .int .u64 u.a2, .int .u64 u.a3, .int .u64 u.a4, .int .u64 u.a5, .int .u64 u.a6, .int .u64 u.a7]) (by simp [results, Tryz.results11, go_sem, e0, e1, e2, e3, e4, e5, e6, e7]) rfl ?_
            exact ⟨u, rfl, huo, l9.narrow (L6.trans l8) hw4⟩
          | true =>
            go_wp2_with fail
            refine (rTurn_any _ _ _ _ _ w5 r5 (by omega)).mono ?_
            rintro e w6 ⟨b7, A7, n7, c7, rfl, r7, m7, l6⟩
            replace j4 := j4.later l6
            replace j5 := j5.later l6
            have LT := L5.trans l6
            clear d0 y0 y1 j2 r5 L5 l6
            have y0 := j5.cell 0
            have y1 := j5.cell 1
            have f0 := j5.frozen 0
            have f1 := j5.frozen 1
            have hlt5 := j5.lt
            go_upto_region 18 with (fail)
            refine name_long (Q := fun W => Code.wp _ _ _ _ W) j5 ?_
            intro w7 j7 lp7 hrg7
            have r8 := hrg7 r7
            replace j4 := j4.keepP lp7 (by omega)
            have LU := lp7.narrow LT hw5
            clear y0 y1 f0 f1 hlt5 j5 lp7 hrg7 r7 LT
            have y0 := j7.cell 0
            have y1 := j7.cell 1
            go_wp2_with fail
            refine (rOut_any _ _ _ _ _ w7 r8 (by omega)).mono ?_
            rintro e w9 ⟨u, r, rfl, hu, lu⟩
            clear y0 y1 j7 r8
            have huo : u.ok := by
              rcases hu with ⟨_, _, rfl, _⟩ | ⟨_, rfl, _⟩
              · exact W8.of_ok _
              · exact W8.zero_ok
            replace j4 := j4.later lu
            have L6 := LU.trans lu
            clear hu lu LU
            go_upto_region 19 with (fail)
            refine name1 (Q := fun W => Code.wp _ _ _ _ W) ?_
            intro w8 l8 hs8 k11
            replace j4 := j4.later l8
            have d0 := k11.cell 0
            have d1 := k11.cell 1
            have d2 := k11.cell 2
            have d3 := k11.cell 3
            have d4 := k11.cell 4
            have d5 := k11.cell 5
            have d6 := k11.cell 6
            have d7 := k11.cell 7
            have p0 := j4.cell 0
            have p1 := j4.cell 1
            have p2 := j4.cell 2
            have p3 := j4.cell 3
            have p4 := j4.cell 4
            have p5 := j4.cell 5
            have p6 := j4.cell 6
            have p7 := j4.cell 7
            have f0 := j4.frozen 0
            have f1 := j4.frozen 1
            have f2 := j4.frozen 2
            have f3 := j4.frozen 3
            have f4 := j4.frozen 4
            have f5 := j4.frozen 5
            have f6 := j4.frozen 6
            have f7 := j4.frozen 7
            have hlt4 := j4.lt
            go_wp2
            refine name_put8 (Q := fun W => bodyPost _ _ _ _ _ W) j4 ?_
            intro w9 k9 l9
            have e0 := k9.cell 0
            have e1 := k9.cell 1
            have e2 := k9.cell 2
            have e3 := k9.cell 3
            have e4 := k9.cell 4
            have e5 := k9.cell 5
            have e6 := k9.cell 6
            have e7 := k9.cell 7
            refine bodyPost_ret (v := .agg #[.int .u64 u.a0, .int .u64 u.a1, .int .u64 u.a2, .int .u64 u.a3, .int .u64 u.a4, .int .u64 u.a5, .int .u64 u.a6, .int .u64 u.a7]) (by simp [results, Tryz.results11, go_sem, e0, e1, e2, e3, e4, e5, e6, e7]) rfl ?_
            exact ⟨u, rfl, huo, l9.narrow (L6.trans l8) hw4⟩
end Go.Proofs.YtogkkhaepfablaaGreat

/- The reference's drafts of shares: Unit, Short, Share; of wide numbers: Wide. -/
namespace Go.Proofs.YtogkkhaepfablaaGreat
open Go.RowKit
set_option linter.unusedSimpArgs false
set_option linter.unusedVariables false

/-- What a draft of a share hands back: a valid one. -/
def FitPost (w : World) (e : Ending) (w' : World) : Prop := ∃ N D, ShFit N D ∧ e = .returned (.agg #[.int .u64 (W8.of N).a0, .int .u64 (W8.of N).a1, .int .u64 (W8.of N).a2, .int .u64 (W8.of N).a3, .int .u64 (W8.of N).a4, .int .u64 (W8.of N).a5, .int .u64 (W8.of N).a6, .int .u64 (W8.of N).a7, .int .u64 (W8.of D).a0, .int .u64 (W8.of D).a1, .int .u64 (W8.of D).a2, .int .u64 (W8.of D).a3, .int .u64 (W8.of D).a4, .int .u64 (W8.of D).a5, .int .u64 (W8.of D).a6, .int .u64 (W8.of D).a7]) ∧ Lat w w'
theorem ut_facts {k : Int} (h0 : 0 ≤ k) (h1 : k ≤ 1000000) : ∃ q : Int, k.tmod 24 = q ∧ 0 ≤ q ∧ q < 24 ∧ wrap64 q = q ∧ wrap64 (2 + q) = 2 + q ∧ wrap64 (1 + q) = 1 + q := by
  have e : k.tmod 24 = k % 24 := Int.tmod_eq_emod_of_nonneg h0
  exact ⟨k % 24, e, by omega, by omega, IntWalk.wrap64_in _ (by omega), IntWalk.wrap64_in _ (by omega), IntWalk.wrap64_in _ (by omega)⟩
theorem ut_rem {n d : Int} (h0 : 0 ≤ n) (h1 : n ≤ 1000000) (hd : 0 < d) : ∃ q : Int, n.tmod d = q ∧ 0 ≤ q ∧ q ≤ 1000000 ∧ wrap64 q = q := by
  have e : n.tmod d = n % d := Int.tmod_eq_emod_of_nonneg h0
  have h2 := Int.emod_nonneg n (show d ≠ 0 by omega)
  have h3 : n % d ≤ n := by
    rcases Int.lt_or_le n d with h | h
    · rw [Int.emod_eq_of_lt h0 h]; exact Int.le_refl _
    · have := Int.emod_lt_of_pos n hd; omega
  exact ⟨n % d, e, h2, by omega, IntWalk.wrap64_in _ (by omega)⟩
theorem yv_loadO {P : Program} {S : World → Prop} {a : Act} {ty : TypeId} {x : Operand} {b o : Nat} {cs : List Value} {d : TypeDesc} (hx : a.eval x = .pointer (some ⟨b, o, none⟩)) (hR : ∀ w, S w → w.rangeAt b o cs) (hu : P.underlying ty = some d) (hd : d.isRow = true) (hi : (P.info? ty).map (·.size) = some cs.length) :
    ∀ (op : Oper) (w : World), op.op = .load ty x → S w → (execOp a.eval op).run P w = .ok (.value (.agg cs.toArray)) w := by
  intro op w ho hS
  unfold execOp
  simp only [ho, hx, Instr.loadAt, Instr.sureAddr, Sem.run_bind, Sem.run_pure, Result.andThen_ok, run_loadVar_mid w b o ty cs d (hR w hS) hu hd hi]
/-- A wide number, a valid share, in a slot. -/
def WV (v : Value) (_w : World) : Prop := ∃ u : W8, v = .agg #[.int .u64 u.a0, .int .u64 u.a1, .int .u64 u.a2, .int .u64 u.a3, .int .u64 u.a4, .int .u64 u.a5, .int .u64 u.a6, .int .u64 u.a7] ∧ u.ok
def FV (v : Value) (_w : World) : Prop := ∃ N D, v = .agg #[.int .u64 (W8.of N).a0, .int .u64 (W8.of N).a1, .int .u64 (W8.of N).a2, .int .u64 (W8.of N).a3, .int .u64 (W8.of N).a4, .int .u64 (W8.of N).a5, .int .u64 (W8.of N).a6, .int .u64 (W8.of N).a7, .int .u64 (W8.of D).a0, .int .u64 (W8.of D).a1, .int .u64 (W8.of D).a2, .int .u64 (W8.of D).a3, .int .u64 (W8.of D).a4, .int .u64 (W8.of D).a5, .int .u64 (W8.of D).a6, .int .u64 (W8.of D).a7] ∧ ShFit N D
theorem WV.mono {v : Value} {w w' : World} (h : WV v w) (_hl : Lat w w') : WV v w' := h
theorem FV.mono {v : Value} {w w' : World} (h : FV v w) (_hl : Lat w w') : FV v w' := h
theorem WV.run {w w' : World} {e : Ending} {d : Prop} (h : ∃ u : W8, e = .returned (.agg #[.int .u64 u.a0, .int .u64 u.a1, .int .u64 u.a2, .int .u64 u.a3, .int .u64 u.a4, .int .u64 u.a5, .int .u64 u.a6, .int .u64 u.a7]) ∧ u.ok ∧ Lat w w') : ∃ v, e = .returned v ∧ (Lat w w' ∧ (d → WV v w')) := by
  obtain ⟨u, e, ho, hl⟩ := h
  exact ⟨_, e, hl, fun _ => ⟨u, rfl, ho⟩⟩
theorem FitPost.run {w w' : World} {e : Ending} {d : Prop} (h : FitPost w e w') : ∃ v, e = .returned v ∧ (Lat w w' ∧ (d → FV v w')) := by
  obtain ⟨N, D, hf, e, hl⟩ := h
  exact ⟨_, e, hl, fun _ => ⟨N, D, rfl, hf⟩⟩
theorem rMade_fit (u v : W8) (hu : u.ok) (hv : v.ok) (w : World) : Calls Tryz.prog 56 #[.agg #[.int .u64 u.a0, .int .u64 u.a1, .int .u64 u.a2, .int .u64 u.a3, .int .u64 u.a4, .int .u64 u.a5, .int .u64 u.a6, .int .u64 u.a7], .agg #[.int .u64 v.a0, .int .u64 v.a1, .int .u64 v.a2, .int .u64 v.a3, .int .u64 v.a4, .int .u64 v.a5, .int .u64 v.a6, .int .u64 v.a7]] w (FitPost w) := by
  obtain ⟨N, D, hf, H⟩ := rMade_any u v hu hv
  exact (H w).mono fun e w' h => ⟨N, D, hf, h.1, h.2⟩
theorem rangeO {w : World} {g : Nat} {t : TypeId} {cs : Array Value} (h : Blk w g t cs) (o : Nat) (l : List Value) (hl : ∀ j v, l[j]? = some v → cs[o + j]? = some v) : w.rangeAt g o l := fun j v hj => by rw [h.cell]; exact hl j v hj
theorem six_lo {a b c d e f : Value} : ∀ (j : Nat) (v : Value), [a, b, c][j]? = some v → (#[a, b, c, d, e, f] : Array Value)[0 + j]? = some v := by
  intro j v h
  match j, h with
  | 0, h => simpa using h
  | 1, h => simpa using h
  | 2, h => simpa using h
theorem six_hi {a b c d e f : Value} : ∀ (j : Nat) (v : Value), [d, e, f][j]? = some v → (#[a, b, c, d, e, f] : Array Value)[3 + j]? = some v := by
  intro j v h
  match j, h with
  | 0, h => simpa using h
  | 1, h => simpa using h
  | 2, h => simpa using h
/-- A draft of a number that came in. -/
structure DrIn (w : World) (A : Option Addr) (n : Nat) (less : Int) : Prop where
  l0 : 0 ≤ less ∧ less < 4294967296
  s : ∃ xs, Sl w .u16 A n xs ∧ ∀ x ∈ xs, 0 ≤ x ∧ x ≤ 65535
theorem DrIn.later {W w : World} {A : Option Addr} {n : Nat} {less : Int} (h : DrIn W A n less) (hl : Lat W w) : DrIn w A n less := by
  obtain ⟨h1, xs, h2, h3⟩ := h
  exact ⟨h1, xs, h2.later hl, h3⟩
theorem DrIn.within {w : World} {A : Option Addr} {n : Nat} {less : Int} (h : DrIn w A n less) (b : Bool) (c : Nat) (lim : Int) (h1 : 1 ≤ lim) (h2 : lim ≤ 511) :
    Calls Tryz.prog 11 #[.agg #[.bool b, .slice A n c, .int .u32 less], .int .i64 lim] w (fun e w' => ∃ u : W8, e = .returned (.agg #[.int .u64 u.a0, .int .u64 u.a1, .int .u64 u.a2, .int .u64 u.a3, .int .u64 u.a4, .int .u64 u.a5, .int .u64 u.a6, .int .u64 u.a7]) ∧ u.ok ∧ Lat w w') := by
  obtain ⟨hl, xs, hs, hx⟩ := h
  exact rWithin_any b A n c xs less lim w hs hx hl h1 h2

noncomputable def ds1_rows (b1 b2 : Bool) (A1 A2 : Option Addr) (n1 c1 n2 c2 : Nat) (l1 l2 : Int) (g1 : Nat) : List SRow := [
  ⟨Op.fieldAddr 44 (Operand.tmp 1) 0, some 3, none, [], fun v _ => v = .pointer (some ⟨g1, 0, none⟩)⟩,
  ⟨Op.load 30 (Operand.tmp 3), some 4, none, [0], fun v _ => v = .agg #[.bool b1, .slice A1 n1 c1, .int .u32 l1]⟩,
  ⟨Op.call { callee := Callee.value (Operand.func 11), args := #[Operand.tmp 4, Operand.const (Value.int IntKind.i64 200)], argTypes := #[30, 3] }, some 5, none, [1], WV ⟩,
  ⟨Op.fieldAddr 44 (Operand.tmp 1) 1, some 6, none, [], fun v _ => v = .pointer (some ⟨g1, 3, none⟩)⟩,
  ⟨Op.load 30 (Operand.tmp 6), some 7, none, [3], fun v _ => v = .agg #[.bool b2, .slice A2 n2 c2, .int .u32 l2]⟩,
  ⟨Op.call { callee := Callee.value (Operand.func 11), args := #[Operand.tmp 7, Operand.const (Value.int IntKind.i64 200)], argTypes := #[30, 3] }, some 8, none, [4, 2], WV ⟩,
  ⟨Op.call { callee := Callee.value (Operand.func 56), args := #[Operand.tmp 5, Operand.tmp 8], argTypes := #[26, 26] }, some 9, none, [2, 5, 5], FV ⟩]
noncomputable def ds1_base (g1 g2 : Nat) : List (Nat × Value) := [(1, .pointer (some ⟨g1, 0, none⟩)), (2, .pointer (some ⟨g2, 0, none⟩))]
set_option maxRecDepth 100000 in
set_option maxHeartbeats 4000000 in
theorem ds1_steps (V : World) (b1 b2 : Bool) (A1 A2 : Option Addr) (n1 c1 n2 c2 : Nat) (l1 l2 : Int) (g1 g2 : Nat) (RA : ∀ w', Lat V w' → w'.rangeAt g1 0 [.bool b1, .slice A1 n1 c1, .int .u32 l1]) (RB : ∀ w', Lat V w' → w'.rangeAt g1 3 [.bool b2, .slice A2 n2 c2, .int .u32 l2]) (J30 : (Tryz.prog.info? 30).map (·.size) = some 3) (HD1 : DrIn V A1 n1 l1) (HD2 : DrIn V A2 n2 l2) :
    AllSteps Tryz.prog (ds1_rows b1 b2 A1 A2 n1 c1 n2 c2 l1 l2 g1) (ds1_base g1 g2) V (ds1_rows b1 b2 A1 A2 n1 c1 n2 c2 l1 l2 g1) := by
  refine AllSteps.next (fun _ _ _ h _ => h) (fun j b h => by cases h) (fun a w hl hb hd o ho => by have e1 := hb 1 _ rfl; obtain ⟨d, op, ty, p, af, g⟩ := o; simp only at ho; subst ho; have ec : ∀ v, a.eval (.const v) = v := fun _ => rfl; exact Runs.val (by unfold execOp; generalize a.eval = ev at e1 ec ⊢; simp only [e1, ec]; go_simp) ⟨Lat.refl _, fun _ => rfl⟩) ?_
  refine AllSteps.next (fun _ _ _ h _ => h) (fun j b h => by cases h) (fun a w hl hb hd o ho => by obtain ⟨v1, e1, q1⟩ := hd 0 _ _ (by simp) rfl rfl; subst q1; exact Runs.val (yv_loadO (S := Lat V) e1 RA Tryz.underlying30 rfl J30 o w ho hl) ⟨Lat.refl _, fun _ => rfl⟩) ?_
  refine AllSteps.next (fun _ _ _ h hl => h.mono hl) (fun j b h => by cases h) (fun a w hl hb hd o ho => by obtain ⟨v1, e1, q1⟩ := hd 1 _ _ (by simp) rfl rfl; subst q1; exact Runs.call (yv_call (f := 11) (fun _ => by go_simp) o ho (by simp only [List.map_toArray, List.map_cons, List.map_nil, eval_const, e1])) (((HD1.later hl).within b1 c1 200 (by decide) (by decide)).mono fun e w' h => WV.run h)) ?_
  refine AllSteps.next (fun _ _ _ h _ => h) (fun j b h => by cases h) (fun a w hl hb hd o ho => by have e1 := hb 1 _ rfl; obtain ⟨d, op, ty, p, af, g⟩ := o; simp only at ho; subst ho; have ec : ∀ v, a.eval (.const v) = v := fun _ => rfl; exact Runs.val (by unfold execOp; generalize a.eval = ev at e1 ec ⊢; simp only [e1, ec]; go_simp) ⟨Lat.refl _, fun _ => rfl⟩) ?_
  refine AllSteps.next (fun _ _ _ h _ => h) (fun j b h => by cases h) (fun a w hl hb hd o ho => by obtain ⟨v1, e1, q1⟩ := hd 3 _ _ (by simp) rfl rfl; subst q1; exact Runs.val (yv_loadO (S := Lat V) e1 RB Tryz.underlying30 rfl J30 o w ho hl) ⟨Lat.refl _, fun _ => rfl⟩) ?_
  refine AllSteps.next (fun _ _ _ h hl => h.mono hl) (fun j b h => by cases h) (fun a w hl hb hd o ho => by obtain ⟨v1, e1, q1⟩ := hd 4 _ _ (by simp) rfl rfl; subst q1; exact Runs.call (yv_call (f := 11) (fun _ => by go_simp) o ho (by simp only [List.map_toArray, List.map_cons, List.map_nil, eval_const, e1])) (((HD2.later hl).within b2 c2 200 (by decide) (by decide)).mono fun e w' h => WV.run h)) ?_
  refine AllSteps.next (fun _ _ _ h hl => h.mono hl) (fun j b h => by cases h) (fun a w hl hb hd o ho => by obtain ⟨v1, e1, q1⟩ := hd 2 _ _ (by simp) rfl rfl; obtain ⟨u1, rfl, o1⟩ := (show WV v1 w from q1); obtain ⟨v2, e2, q2⟩ := hd 5 _ _ (by simp) rfl rfl; obtain ⟨u2, rfl, o2⟩ := (show WV v2 w from q2); exact Runs.call (yv_call (f := 56) (fun _ => by go_simp) o ho (by simp only [List.map_toArray, List.map_cons, List.map_nil, eval_const, e1, e2])) ((rMade_fit u1 u2 o1 o2 w).mono fun e w' h => FitPost.run h)) ?_
  exact AllSteps.none
theorem spell10 (T : Array Value) (h : T.size = 10) : ∃ f : Nat → Value, (∀ k, f k = T.getD k undef) ∧ T = #[f 0, f 1, f 2, f 3, f 4, f 5, f 6, f 7, f 8, f 9] := ⟨fun k => T.getD k undef, fun _ => rfl, (spell 10 T h).trans (by kernel_rfl)⟩
set_option maxRecDepth 100000 in
set_option maxHeartbeats 4000000 in
theorem rDShare_any (b1 b2 : Bool) (A1 A2 : Option Addr) (n1 c1 n2 c2 : Nat) (l1 l2 : Int) (w : World) (h1 : DrIn w A1 n1 l1) (h2 : DrIn w A2 n2 l2) :
    Calls Tryz.prog 22 #[.agg #[.bool b1, .slice A1 n1 c1, .int .u32 l1, .bool b2, .slice A2 n2 c2, .int .u32 l2]] w (FitPost w) := by
  go_enter Tryz.func22, Tryz.ntmps22
  go_upto_region 1 with (fail)
  refine name2 (Q := fun W => Code.wp _ _ _ _ W) ?_
  intro W hl hs k1 k2
  obtain ⟨g2, hg2'⟩ : ∃ z, w.heap.size + 1 = z := ⟨_, rfl⟩
  obtain ⟨g1, hg1⟩ : ∃ z, w.heap.size = z := ⟨_, rfl⟩
  have hg2 : w.heap.size ≤ g2 := by omega
  rw [hg2'] at k2
  rw [hg1] at k1
  rw [hg2', hg1]
  clear hg2' hg1 hs
  have RA : ∀ w', Lat W w' → w'.rangeAt g1 0 [.bool b1, .slice A1 n1 c1, .int .u32 l1] := fun w' hl => rangeO (k1.later hl) 0 _ six_lo
  have RB : ∀ w', Lat W w' → w'.rangeAt g1 3 [.bool b2, .slice A2 n2 c2, .int .u32 l2] := fun w' hl => rangeO (k1.later hl) 3 _ six_hi
  have J30 : (Tryz.prog.info? 30).map (·.size) = some 3 := by kernel_rfl
  rename_i KN hKN
  refine wp_region_slotsL (ds1_rows b1 b2 A1 A2 n1 c1 n2 c2 l1 l2 g1) (ds1_base g1 g2) 10 7 [[], [0], [1], [], [3], [4, 2], [2, 5, 5], [6, 6, 0, 1, 2, 3, 4, 5, 6]] (by kernel_rfl) _ rfl rfl (by kernel_rfl) (by kernel_rfl) (by kernel_rfl) (by kernel_rfl) (by kernel_rfl) (by kernel_rfl) (by rfl) rfl ?_ ?_ ?_
  ·
    exact base_of (base_cons (by rfl) (base_cons (by rfl) (base_nil _)))
  · exact ds1_steps W b1 b2 A1 A2 n1 c1 n2 c2 l1 l2 g1 g2 RA RB J30 (h1.later hl) (h2.later hl)
  · intro a9 W9 hsz9 hdf9 hL9 hbs hsl
    obtain ⟨v9, h09, qv9⟩ := hsl 6 _ _ rfl rfl
    obtain ⟨N, D, rfl, hf9⟩ := (show FV v9 W9 from qv9)
    have K9 := k2.later hL9
    refine wp_store_mid 53 (.tmp 2) (.tmp 9) rfl g2 0 #[.int .u64 (W8.of N).a0, .int .u64 (W8.of N).a1, .int .u64 (W8.of N).a2, .int .u64 (W8.of N).a3, .int .u64 (W8.of N).a4, .int .u64 (W8.of N).a5, .int .u64 (W8.of N).a6, .int .u64 (W8.of N).a7, .int .u64 (W8.of D).a0, .int .u64 (W8.of D).a1, .int .u64 (W8.of D).a2, .int .u64 (W8.of D).a3, .int .u64 (W8.of D).a4, .int .u64 (W8.of D).a5, .int .u64 (W8.of D).a6, .int .u64 (W8.of D).a7] (hbs 2 _ rfl).ev h09.ev (K9.thereAll _ rfl) (by kernel_rfl) (by simp [Value.oneCell']) ?_
    refine hKN _ _ ?_
    obtain ⟨T9, df9⟩ := a9
    obtain rfl : df9 = [] := hdf9
    obtain ⟨f, hf, rfl⟩ := spell10 T9 hsz9
    have x1 : f 1 = .pointer (some ⟨g1, 0, none⟩) := (hf 1).trans (slot_getD (hbs 1 _ rfl))
    have x2 : f 2 = .pointer (some ⟨g2, 0, none⟩) := (hf 2).trans (slot_getD (hbs 2 _ rfl))
    clear hbs hsl hf hsz9 h09 qv9 hKN
    simp only [Act.put, x1, x2]
    clear x1 x2
    refine name_put16 (Q := fun W => Code.wp _ _ _ _ W) K9 ?_
    intro w9 k9 l9
    have e0 := k9.cell 0
    have e1 := k9.cell 1
    have e2 := k9.cell 2
    have e3 := k9.cell 3
    have e4 := k9.cell 4
    have e5 := k9.cell 5
    have e6 := k9.cell 6
    have e7 := k9.cell 7
    have e8 := k9.cell 8
    have e9 := k9.cell 9
    have e10 := k9.cell 10
    have e11 := k9.cell 11
    have e12 := k9.cell 12
    have e13 := k9.cell 13
    have e14 := k9.cell 14
    have e15 := k9.cell 15
    go_wp2
    refine bodyPost_ret (v := .agg #[.int .u64 (W8.of N).a0, .int .u64 (W8.of N).a1, .int .u64 (W8.of N).a2, .int .u64 (W8.of N).a3, .int .u64 (W8.of N).a4, .int .u64 (W8.of N).a5, .int .u64 (W8.of N).a6, .int .u64 (W8.of N).a7, .int .u64 (W8.of D).a0, .int .u64 (W8.of D).a1, .int .u64 (W8.of D).a2, .int .u64 (W8.of D).a3, .int .u64 (W8.of D).a4, .int .u64 (W8.of D).a5, .int .u64 (W8.of D).a6, .int .u64 (W8.of D).a7]) (by simp [results, Tryz.results22, go_sem, e0, e1, e2, e3, e4, e5, e6, e7, e8, e9, e10, e11, e12, e13, e14, e15]) rfl ?_
    exact ⟨N, D, hf9, rfl, l9.narrow (hl.trans hL9) hg2⟩
end Go.Proofs.YtogkkhaepfablaaGreat

/- A region that draws its order, makes new variables and stores structs into them: by slots; what the slots hold says nothing of memory. -/
namespace Go.Proofs.YtogkkhaepfablaaGreat
open Go.RowKit
set_option linter.unusedSimpArgs false

/-- A new variable: the operation that makes it, its slot, its type, its zero cells, the operation that stores, the slot stored and the operation that fills that slot. -/
structure MRow where
  ia : Nat
  d : Tmp
  T : TypeId
  zs : Array Value
  is : Nat
  src : Tmp
  js : Nat
structure MOk (P : Program) (rows : List SRow) (M : MRow) : Prop where
  alloc : ∀ (ev : Operand → Value) (w : World) (o : Oper), o.op = .alloc M.T → (execOp ev o).run P w = .ok (.value (.pointer (some ⟨w.heap.size, 0, none⟩))) (w.alloc (.cells M.zs M.T))
  adst : (rows[M.ia]?).map (fun r => (r.op, r.dst, r.guard)) = some (.alloc M.T, some M.d, none)
  any : ∀ r v w, rows[M.ia]? = some r → r.V v w
  store : (rows[M.is]?).map (fun r => (r.op, r.dst, r.guard)) = some (.store M.T (.tmp M.d) (.tmp M.src), none, none)
  deps : ∀ r, rows[M.is]? = some r → M.ia ∈ r.deps ∧ M.js ∈ r.deps
  sdst : (rows[M.js]?).map (·.dst) = some (some M.src)
  src : ∀ r v w, rows[M.js]? = some r → r.V v w → ∃ c : Array Value, v = .agg c ∧ c.size = M.zs.size ∧ c.all (·.oneCell') = true
  info : (P.info? M.T).map (·.size) = some M.zs.size
structure MAt (W0 : World) (mem : List MRow) (m : Nat) (a : Act) (w : World) (k : Nat) (M : MRow) (g : Nat) (cur : Array Value) : Prop where
  slot : Slot a M.d (.pointer (some ⟨g, 0, none⟩))
  new : W0.heap.size ≤ g
  blk : Blk w g M.T cur
  sz : cur.size = M.zs.size
  put : m.testBit M.is = true → Slot a M.src (.agg cur)
  far : ∀ k' M' g', k' ≠ k → mem[k']? = some M' → m.testBit M'.ia = true → Slot a M'.d (.pointer (some ⟨g', 0, none⟩)) → g ≠ g'
structure MInv (rows : List SRow) (base : List (Nat × Value)) (N : Nat) (W0 : World) (mem : List MRow) (m : Nat) (a : Act) (w : World) : Prop where
  s : SInv rows base N W0 m a w
  shut : ∀ M ∈ mem, m.testBit M.is = true → m.testBit M.ia = true ∧ m.testBit M.js = true
  at_ : ∀ k M, mem[k]? = some M → m.testBit M.ia = true → ∃ g cur, MAt W0 mem m a w k M g cur
theorem slot_inj {a : Act} {d : Tmp} {v v' : Value} (h : Slot a d v) (h' : Slot a d v') : v = v' := by unfold Slot at h h'; rw [h] at h'; exact Option.some.inj h'
theorem ptr_inj {g g' : Nat} (h : Value.pointer (some ⟨g, 0, none⟩) = Value.pointer (some ⟨g', 0, none⟩)) : g = g' := by cases h; rfl

/-- The steps of the operations that do not touch new variables. -/
def StepsAt (P : Program) (rows : List SRow) (base : List (Nat × Value)) (W0 : World) (skip : List Nat) : Nat → List SRow → Prop
  | _, [] => True
  | k, r :: rs => (k ∈ skip ∨ SStep P rows base W0 r) ∧ StepsAt P rows base W0 skip (k + 1) rs
theorem StepsAt.get {P : Program} {rows : List SRow} {base : List (Nat × Value)} {W0 : World} {skip : List Nat} : ∀ {l : List SRow} {k : Nat}, StepsAt P rows base W0 skip k l → ∀ i r, l[i]? = some r → k + i ∉ skip → SStep P rows base W0 r
  | [], _, _, i, r, h, _ => by simp at h
  | x :: xs, k, h, 0, r, hr, hs => by
    simp only [List.getElem?_cons_zero, Option.some.injEq] at hr
    subst hr
    exact h.1.resolve_left (by simpa using hs)
  | x :: xs, k, h, i + 1, r, hr, hs => StepsAt.get h.2 i r (by simpa using hr) (by rw [show k + 1 + i = k + (i + 1) by omega]; exact hs)
theorem StepsAt.none {P : Program} {rows : List SRow} {base : List (Nat × Value)} {W0 : World} {skip : List Nat} {k : Nat} : StepsAt P rows base W0 skip k [] := trivial
theorem StepsAt.skip {P : Program} {rows : List SRow} {base : List (Nat × Value)} {W0 : World} {skip : List Nat} {k : Nat} {r : SRow} {rs : List SRow} (h : k ∈ skip) (hs : StepsAt P rows base W0 skip (k + 1) rs) : StepsAt P rows base W0 skip k (r :: rs) := ⟨.inl h, hs⟩
theorem StepsAt.next {P : Program} {rows : List SRow} {base : List (Nat × Value)} {W0 : World} {skip : List Nat} {k : Nat} {r : SRow} {rs : List SRow} (h1 : ∀ v w w', r.V v w → Lat w w' → r.V v w')
    (h2 : ∀ j b, r.guard = some (j, b) → ∃ rj : SRow, rows[j]? = some rj ∧ (∃ d, rj.dst = some d) ∧ j ∈ r.deps ∧ ∀ v w, rj.V v w → v = .bool b)
    (h3 : ∀ (a : Act) (w : World), Lat W0 w → (∀ k v, base.lookup k = some v → a.eval (.tmp k) = v) → (∀ (j : Nat) (rj : SRow) (d : Tmp), j ∈ r.deps → rows[j]? = some rj → rj.dst = some d → ∃ v, a.eval (.tmp d) = v ∧ rj.V v w) →
      ∀ o : Oper, o.op = r.op → Runs P o a.eval w (fun v w' => Lat w w' ∧ (r.dst.isSome = true → r.V v w'))) (hs : StepsAt P rows base W0 skip (k + 1) rs) : StepsAt P rows base W0 skip k (r :: rs) := ⟨.inr ⟨h1, h2, h3⟩, hs⟩
/-- What the slots hold says nothing of memory. -/
def AllPure : List SRow → Prop
  | [] => True
  | r :: rs => (∀ v w w', r.V v w → r.V v w') ∧ AllPure rs
theorem AllPure.get {l : List SRow} (h : AllPure l) : ∀ r ∈ l, ∀ v w w', r.V v w → r.V v w' := by
  induction l with
  | nil => intro r hr; cases hr
  | cons x xs ih =>
    intro r hr
    rcases List.mem_cons.1 hr with rfl | hr
    · exact h.1
    · exact ih h.2 r hr
def AllMem (P : Program) (rows : List SRow) : List MRow → Prop
  | [] => True
  | M :: Ms => MOk P rows M ∧ AllMem P rows Ms
theorem AllMem.get {P : Program} {rows : List SRow} {l : List MRow} (h : AllMem P rows l) : ∀ M ∈ l, MOk P rows M := by
  induction l with
  | nil => intro r hr; cases hr
  | cons x xs ih =>
    intro r hr
    rcases List.mem_cons.1 hr with rfl | hr
    · exact h.1
    · exact ih h.2 r hr
set_option maxHeartbeats 4000000 in
theorem wp_region_mem {P : Program} {ops : Array Oper} {Q : Exit → Act → World → Prop} {id : Nat} {a : Act} {w : World} (rows : List SRow) (base : List (Nat × Value)) (mem : List MRow) (N n : Nat) (tbl : List (List Nat))
    (hm : P.follows .mixedOrders = true) (hn : ops.size = n) (ht : depsOf ops = tbl) (hd : ((List.range n).all fun i => ((tbl[i]?).getD []).all fun j => decide (j < i)) = true) (hk : ops.toList.map keyO = rows.map SRow.key)
    (hdis : distinct rows base N = true) (hmd : ((List.range mem.length).all fun i => (List.range mem.length).all fun j => (i == j) || (match mem[i]?, mem[j]? with | some A, some B => A.ia != B.ia && A.is != B.is && A.ia != B.is && A.is != B.ia | _, _ => true)) = true)
    (hsz : a.tmps.size = N) (hdf : a.defers = []) (hb : ∀ k v, base.lookup k = some v → Slot a k v)
    (hpureL : AllPure rows) (hmemL : AllMem P rows mem) (hstepL : StepsAt P rows base w (mem.flatMap fun M => [M.ia, M.is]) 0 rows)
    (hend : ∀ a W, a.tmps.size = N → a.defers = [] → Lat w W → (∀ k v, base.lookup k = some v → Slot a k v) → (∀ (j : Nat) r d, rows[j]? = some r → r.dst = some d → ∃ v, Slot a d v ∧ r.V v W) →
      (∀ (k : Nat) (M : MRow), mem[k]? = some M → ∃ (g : Nat) (cur : Array Value), Slot a M.d (.pointer (some ⟨g, 0, none⟩)) ∧ w.heap.size ≤ g ∧ Blk W g M.T cur ∧ Slot a M.src (.agg cur) ∧ ∀ (k' : Nat) (M' : MRow) (g' : Nat), k' ≠ k → mem[k']? = some M' → Slot a M'.d (.pointer (some ⟨g', 0, none⟩)) → g ≠ g') →
      Q .normal a W) : (Code.region id ops true).wp P Q a w := by
  have hpure := hpureL.get
  have hmem := hmemL.get
  have hstep : ∀ i r, rows[i]? = some r → (∀ M ∈ mem, i ≠ M.ia ∧ i ≠ M.is) → SStep P rows base w r := fun i r hr hne => hstepL.get i r hr (fun h => by
    obtain ⟨M, hM, h2⟩ := List.mem_flatMap.1 h
    rw [Nat.zero_add] at h2
    have h3 := hne M hM
    simp only [List.mem_cons, List.not_mem_nil, or_false] at h2
    rcases h2 with h2 | h2
    · exact h3.1 h2
    · exact h3.2 h2)
  have hrow : ∀ {i : Nat} {o : Oper}, ops[i]? = some o → ∃ r, rows[i]? = some r ∧ keyO o = r.key := by
    intro i o ho
    have h1 : (ops.toList.map keyO)[i]? = some (keyO o) := by simp [ho]
    rw [hk, List.getElem?_map] at h1
    cases hr : rows[i]? with
    | none => rw [hr] at h1; cases h1
    | some r => rw [hr] at h1; simp only [Option.map_some, Option.some.injEq] at h1; exact ⟨r, rfl, h1.symm⟩
  simp only [distinct, Bool.and_eq_true] at hdis
  obtain ⟨hdis1, hdis2⟩ := hdis
  have hdst : ∀ {i : Nat} {r : SRow} {d : Tmp}, rows[i]? = some r → r.dst = some d → d < N ∧ base.lookup d = none := by
    intro i r d h1 h2
    have := List.all_eq_true.1 hdis1 d (List.mem_filterMap.2 ⟨r, List.mem_of_getElem? h1, h2⟩)
    simpa using this
  have hlen : rows.length = n := by
    have := congrArg List.length hk
    simp at this
    omega
  -- two rows of memory differ in all
  have hmdif : ∀ {i j : Nat} {A B : MRow}, mem[i]? = some A → mem[j]? = some B → i ≠ j → A.ia ≠ B.ia ∧ A.is ≠ B.is ∧ A.ia ≠ B.is ∧ A.is ≠ B.ia := by
    intro i j A B h1 h2 hne
    have hi : i < mem.length := (List.getElem?_eq_some_iff.1 h1).1
    have hj : j < mem.length := (List.getElem?_eq_some_iff.1 h2).1
    have := List.all_eq_true.1 (List.all_eq_true.1 hmd i (List.mem_range.2 hi)) j (List.mem_range.2 hj)
    rw [h1, h2] at this
    have hij : (i == j) = false := by simpa using hne
    rw [hij, Bool.false_or] at this
    simp only [Bool.and_eq_true, bne_iff_ne, ne_eq] at this
    exact ⟨this.1.1.1, this.1.1.2, this.1.2, this.2⟩
  have hadst : ∀ {M : MRow}, M ∈ mem → ∃ r, rows[M.ia]? = some r ∧ r.dst = some M.d ∧ r.guard = none ∧ r.op = .alloc M.T := by
    intro M hM
    have h := (hmem M hM).adst
    cases hr : rows[M.ia]? with
    | none => rw [hr] at h; cases h
    | some r =>
      rw [hr] at h
      simp only [Option.map_some, Option.some.injEq, Prod.mk.injEq] at h
      exact ⟨r, rfl, h.2.1, h.2.2, h.1⟩
  have hsdst : ∀ {M : MRow}, M ∈ mem → ∃ r, rows[M.js]? = some r ∧ r.dst = some M.src := by
    intro M hM
    have h := (hmem M hM).sdst
    cases hr : rows[M.js]? with
    | none => rw [hr] at h; cases h
    | some r => rw [hr] at h; simp only [Option.map_some, Option.some.injEq] at h; exact ⟨r, rfl, h⟩
  have hstore : ∀ {M : MRow}, M ∈ mem → ∃ r, rows[M.is]? = some r ∧ r.op = .store M.T (.tmp M.d) (.tmp M.src) ∧ r.dst = none ∧ r.guard = none := by
    intro M hM
    have h := (hmem M hM).store
    cases hr : rows[M.is]? with
    | none => rw [hr] at h; cases h
    | some r =>
      rw [hr] at h
      simp only [Option.map_some, Option.some.injEq, Prod.mk.injEq] at h
      exact ⟨r, rfl, h.1, h.2.1, h.2.2⟩
  have hstart : MInv rows base N w mem 0 a w.drew := ⟨⟨hsz, hdf, Lat.drew w, hb, fun j r d h => by rw [Nat.zero_testBit] at h; cases h⟩, fun M _ h => (by rw [Nat.zero_testBit] at h; cases h), fun k M _ h => (by rw [Nat.zero_testBit] at h; cases h)⟩
  refine wp_region_inv (I := MInv rows base N w mem) (n := n) (tbl := tbl) (hm := hm) (hn := hn) (ht := ht) (hd := hd) (h0 := hstart) ?_ ?_
  · intro i hi o m a w1 ho hmi hdeps hMI
    have hI := hMI.s
    obtain ⟨r, hr, hkey⟩ := hrow ho
    have hkey0 := hkey
    unfold SRow.key keyO at hkey
    simp only [Prod.mk.injEq] at hkey
    obtain ⟨ke1, ke2, ke3, ke4⟩ := hkey
    have hdeps' : ∀ j ∈ r.deps, m.testBit j = true := by
      intro j hj
      refine hdeps j ?_
      unfold depsOf
      rw [List.getElem?_map, Array.getElem?_toList, ho]
      simp only [Option.map_some, Option.getD_some]
      rw [ke4]
      exact hj
    have hbit : ∀ j, (m ||| 2 ^ i).testBit j = true → j ≠ i → m.testBit j = true := by
      intro j hj hne
      rw [Nat.testBit_or, Nat.testBit_two_pow] at hj
      have : ¬ i = j := fun e => hne e.symm
      simpa [this] using hj
    have hup : ∀ j, m.testBit j = true → (m ||| 2 ^ i).testBit j = true := by
      intro j hj
      rw [Nat.testBit_or, hj]; rfl
    have hself : (m ||| 2 ^ i).testBit i = true := by rw [Nat.testBit_or, Nat.testBit_two_pow]; simp
    -- the slots behind a put
    have hslots : ∀ v w', Lat w w' → (∀ d, r.dst = some d → r.V v w') → SInv rows base N w (m ||| 2 ^ i) (a.put o.dst v) w' := by
      intro v w' hl hv
      have hmono : ∀ j rj d, (m ||| 2 ^ i).testBit j = true → j ≠ i → rows[j]? = some rj → rj.dst = some d → ∃ v, Slot a d v ∧ rj.V v w' := by
        intro j rj d hj hne h1 h2
        obtain ⟨u, h3, h4⟩ := hI.slot j rj d (hbit j hj hne) h1 h2
        exact ⟨u, h3, hpure rj (List.mem_of_getElem? h1) u _ _ h4⟩
      cases hdd : r.dst with
      | none =>
        rw [hdd] at ke2
        rw [ke2]
        refine ⟨hI.size, hI.defers, hl, hI.base, fun j rj d hj h1 h2 => ?_⟩
        by_cases hne : j = i
        · subst hne
          rw [hr] at h1; cases h1
          rw [hdd] at h2; cases h2
        · exact hmono j rj d hj hne h1 h2
      | some d0 =>
        rw [hdd] at ke2
        rw [ke2]
        obtain ⟨hd0, hd1⟩ := hdst hr hdd
        have hv' := hv d0 hdd
        refine ⟨by simp [Act.put, hI.size], by simp [Act.put, hI.defers], hl, fun k u hk => ?_, fun j rj d hj h1 h2 => ?_⟩
        · have := hI.base k u hk
          unfold Slot at this ⊢
          simp only [Act.put]
          rw [Array.getElem?_setIfInBounds_ne (fun e => by subst e; rw [hd1] at hk; cases hk)]
          exact this
        · by_cases hne : j = i
          · subst hne
            rw [hr] at h1; cases h1
            rw [hdd] at h2; cases h2
            refine ⟨v, ?_, hv'⟩
            unfold Slot
            simp [Act.put, hI.size, hd0]
          · obtain ⟨u, h3, h4⟩ := hmono j rj d hj hne h1 h2
            refine ⟨u, ?_, h4⟩
            unfold Slot at h3 ⊢
            simp only [Act.put]
            rw [Array.getElem?_setIfInBounds_ne (fun e => by subst e; exact hne (go_inj hdis2 h1 hr h2 hdd))]
            exact h3
    -- a slot of another operation stays
    have hstay : ∀ {j : Nat} {rj : SRow} {d : Tmp} {u v : Value}, rows[j]? = some rj → rj.dst = some d → j ≠ i → (Slot (a.put o.dst v) d u ↔ Slot a d u) := by
      intro j rj d u v h1 h2 hne
      unfold Slot
      cases hdd : r.dst with
      | none => rw [hdd] at ke2; rw [ke2]; exact Iff.rfl
      | some d0 =>
        rw [hdd] at ke2
        rw [ke2]
        simp only [Act.put]
        rw [Array.getElem?_setIfInBounds_ne (fun e => by subst e; exact hne (go_inj hdis2 h1 hr h2 hdd))]
    have hwant : o.guard = none → Region.wanted o (yielded ops a.tmps) = true := fun h => by unfold Region.wanted; rw [h]
    by_cases hA : ∃ (k0 : Nat) (M0 : MRow), mem[k0]? = some M0 ∧ i = M0.ia
    · -- a new variable
      obtain ⟨k0, M0, hM0, rfl⟩ := hA
      have hM0m := List.mem_of_getElem? hM0
      obtain ⟨r', hr', hrd, hrg, hrop⟩ := hadst hM0m
      rw [hr] at hr'; cases hr'
      have hal := (hmem M0 hM0m).alloc a.eval w1 o (by rw [ke1, hrop])
      have la := Lat.alloc w1 (.cells M0.zs M0.T)
      unfold wpOp
      rw [ho]
      simp only [if_pos (hwant (by rw [ke3, hrg]))]
      refine Or.inl ?_
      unfold Oper.wp
      rw [hal, Oper.upon_value]
      have hS := hslots (.pointer (some ⟨w1.heap.size, 0, none⟩)) (w1.alloc (.cells M0.zs M0.T)) (hI.lat.trans la) (fun d hdd => (hmem M0 hM0m).any r _ _ hr)
      have hd0N := (hdst hr hrd).1
      have hslot0 : Slot (a.put o.dst (.pointer (some ⟨w1.heap.size, 0, none⟩))) M0.d (.pointer (some ⟨w1.heap.size, 0, none⟩)) := by
        rw [ke2, hrd]
        unfold Slot
        simp [Act.put, hI.size, hd0N]
      refine ⟨hS, fun M hM hbs => ?_, fun k M hMk hba => ?_⟩
      · have hne : M.is ≠ M0.ia := by
          obtain ⟨k, hk'⟩ := List.getElem?_of_mem hM
          by_cases e : k = k0
          · subst e; rw [hM0] at hk'; cases hk'
            intro e2
            obtain ⟨rs, hrs, _, hds, _⟩ := hstore hM
            rw [e2, hr] at hrs; cases hrs
            rw [hrd] at hds; cases hds
          · exact (hmdif hk' hM0 e).2.2.2
        have := hMI.shut M hM (hbit _ hbs hne)
        exact ⟨hup _ this.1, hup _ this.2⟩
      · by_cases e : k = k0
        · subst e
          rw [hM0] at hMk; cases hMk
          refine ⟨w1.heap.size, M0.zs, hslot0, hI.lat.size, Blk.new _ _ _, rfl, fun hbs => ?_, fun k' M' g' hne hM' hb' hs' => ?_⟩
          · exfalso
            have hne : M0.is ≠ M0.ia := by
              intro e2
              obtain ⟨rs, hrs, _, hds, _⟩ := hstore hM0m
              rw [e2, hr] at hrs; cases hrs
              rw [hrd] at hds; cases hds
            have := (hMI.shut M0 hM0m (hbit _ hbs hne)).1
            rw [hmi] at this; cases this
          · have hne2 := (hmdif hM' hM0 hne).1
            obtain ⟨ra, hra, hrad, _, _⟩ := hadst (List.mem_of_getElem? hM')
            obtain ⟨g2, cur, hat⟩ := hMI.at_ k' M' hM' (hbit _ hb' hne2)
            have := slot_inj ((hstay hra hrad hne2).1 hs') hat.slot
            have hgg := ptr_inj this
            have := hat.blk.lt
            omega
        · have hne2 := (hmdif hMk hM0 e).1
          obtain ⟨ra, hra, hrad, _, _⟩ := hadst (List.mem_of_getElem? hMk)
          obtain ⟨rj, hrj, hrjd⟩ := hsdst (List.mem_of_getElem? hMk)
          obtain ⟨g2, cur, hat⟩ := hMI.at_ k M hMk (hbit _ hba hne2)
          refine ⟨g2, cur, (hstay hra hrad hne2).2 hat.slot, hat.new, hat.blk.alloc _, hat.sz, fun hbs => ?_, fun k' M' g' hne hM' hb' hs' => ?_⟩
          · have hnes := (hmdif hMk hM0 e).2.2.2
            have hbs' := hbit _ hbs hnes
            have hjs := (hMI.shut M (List.mem_of_getElem? hMk) hbs').2
            have hnej : M.js ≠ M0.ia := by intro e2; rw [e2, hmi] at hjs; cases hjs
            exact (hstay hrj hrjd hnej).2 (hat.put hbs')
          · by_cases e' : k' = k0
            · subst e'
              rw [hM0] at hM'; cases hM'
              have hgg := ptr_inj (slot_inj hs' hslot0)
              have := hat.blk.lt
              omega
            · have hne3 := (hmdif hM' hM0 e').1
              obtain ⟨ra', hra', hrad', _, _⟩ := hadst (List.mem_of_getElem? hM')
              exact hat.far k' M' g' hne hM' (hbit _ hb' hne3) ((hstay hra' hrad' hne3).1 hs')
    by_cases hSt : ∃ (k0 : Nat) (M0 : MRow), mem[k0]? = some M0 ∧ i = M0.is
    · -- a store into a new variable
      obtain ⟨k0, M0, hM0, rfl⟩ := hSt
      have hM0m := List.mem_of_getElem? hM0
      obtain ⟨r', hr', hrop, hrd, hrg⟩ := hstore hM0m
      rw [hr] at hr'; cases hr'
      obtain ⟨hda, hdj⟩ := (hmem M0 hM0m).deps r hr
      have hba0 := hdeps' _ hda
      have hbj0 := hdeps' _ hdj
      obtain ⟨g, cur, hat⟩ := hMI.at_ k0 M0 hM0 hba0
      obtain ⟨rj, hrj, hrjd⟩ := hsdst hM0m
      obtain ⟨v, hv1, hv2⟩ := hI.slot M0.js rj M0.src hbj0 hrj hrjd
      obtain ⟨c, rfl, hcs, hc1⟩ := (hmem M0 hM0m).src rj v w1 hrj hv2
      have hod : o.dst = none := by rw [ke2, hrd]
      have hput : ∀ u, a.put o.dst u = a := fun u => by rw [hod]; rfl
      unfold wpOp
      rw [ho]
      simp only [if_pos (hwant (by rw [ke3, hrg]))]
      refine Or.inl ?_
      have ht' : w1.there g 0 c.size := fun j hj => by
        rw [Nat.zero_add]
        exact ⟨by rw [hat.blk.cell j, Array.getElem?_eq_getElem (by rw [hat.sz, ← hcs]; exact hj)]; rfl, hat.blk.frozen j⟩
      refine wp_store_mid M0.T (.tmp M0.d) (.tmp M0.src) (by rw [ke1, hrop]) g 0 c hat.slot.ev hv1.ev ht' (by rw [hcs]; exact (hmem M0 hM0m).info) hc1 ?_
      rw [hput]
      have hL : Lat w (w1.setCells g 0 c.toList) := Lat.setCells hat.new _ _ _ hI.lat
      have hS := hslots undef (w1.setCells g 0 c.toList) hL (fun d hdd => by rw [hrd] at hdd; cases hdd)
      rw [hput] at hS
      have hbk := hat.blk.setCells c (by rw [hat.sz, hcs])
      refine ⟨hS, fun M hM hbs => ?_, fun k M hMk hba => ?_⟩
      · obtain ⟨k, hk'⟩ := List.getElem?_of_mem hM
        by_cases e : k = k0
        · subst e; rw [hM0] at hk'; cases hk'
          exact ⟨hup _ hba0, hup _ hbj0⟩
        · have := hMI.shut M hM (hbit _ hbs (hmdif hk' hM0 e).2.1)
          exact ⟨hup _ this.1, hup _ this.2⟩
      · by_cases e : k = k0
        · subst e
          rw [hM0] at hMk; cases hMk
          refine ⟨g, c, hat.slot, hat.new, hbk, hcs, fun _ => hv1, fun k' M' g' hne hM' hb' hs' => ?_⟩
          exact hat.far k' M' g' hne hM' (hbit _ hb' (hmdif hM' hM0 hne).2.2.1) hs'
        · have hne2 := (hmdif hMk hM0 e).2.2.1
          obtain ⟨g2, cur2, hat2⟩ := hMI.at_ k M hMk (hbit _ hba hne2)
          have hgg : g2 ≠ g := hat2.far k0 M0 g (fun e2 => e e2.symm) hM0 hba0 hat.slot
          refine ⟨g2, cur2, hat2.slot, hat2.new, ?_, hat2.sz, fun hbs => hat2.put (hbit _ hbs (hmdif hMk hM0 e).2.1), fun k' M' g' hne hM' hb' hs' => ?_⟩
          · exact (heap_setCells hgg _ _ _).trans hat2.blk
          · by_cases e' : k' = k0
            · subst e'
              rw [hM0] at hM'; cases hM'
              exact hat2.far k' M0 g' hne hM0 hba0 hs'
            · exact hat2.far k' M' g' hne hM' (hbit _ hb' (hmdif hM' hM0 e').2.2.1) hs'
    · -- any other operation
      have hne : ∀ M ∈ mem, i ≠ M.ia ∧ i ≠ M.is := fun M hM => by
        obtain ⟨k, hk'⟩ := List.getElem?_of_mem hM
        exact ⟨fun e => hA ⟨k, M, hk', e⟩, fun e => hSt ⟨k, M, hk', e⟩⟩
      obtain ⟨S1, S2, S3⟩ := hstep i r hr hne
      have hw : Region.wanted o (yielded ops a.tmps) = true := by
        unfold Region.wanted
        cases hg : o.guard with
        | none => rfl
        | some p =>
          obtain ⟨j, b⟩ := p
          obtain ⟨rj, h1, ⟨d, h2⟩, h3, h4⟩ := S2 j b (by rw [← ke3, hg])
          obtain ⟨v, h5, h6⟩ := hI.slot j rj d (hdeps' j h3) h1 h2
          have h7 := h4 v w1 h6
          subst h7
          have hjn : j < n := by rw [← hlen]; exact (List.getElem?_eq_some_iff.1 h1).1
          have hj : j < ops.size := by omega
          obtain ⟨rj', h8, h9⟩ := hrow (Array.getElem?_eq_getElem hj)
          rw [h1] at h8
          cases h8
          unfold SRow.key keyO at h9
          simp only [Prod.mk.injEq] at h9
          unfold yielded
          unfold Slot at h5
          have hd0 : ops[j].dst = some d := by rw [h9.2.1, h2]
          simp only [Array.getElem?_eq_getElem hj, Option.bind_some, hd0, h5]
          cases b <;> rfl
      have hput : ∀ v w', Lat w1 w' → (r.dst.isSome = true → r.V v w') → MInv rows base N w mem (m ||| 2 ^ i) (a.put o.dst v) w' := by
        intro v w' hl hv
        refine ⟨hslots v w' (hI.lat.trans hl) (fun d hdd => hv (by rw [hdd]; rfl)), fun M hM hbs => ?_, fun k M hMk hba => ?_⟩
        · have := hMI.shut M hM (hbit _ hbs (fun e => (hne M hM).2 e.symm))
          exact ⟨hup _ this.1, hup _ this.2⟩
        · have hM := List.mem_of_getElem? hMk
          have hnea : M.ia ≠ i := fun e => (hne M hM).1 e.symm
          have hnes : M.is ≠ i := fun e => (hne M hM).2 e.symm
          obtain ⟨ra, hra, hrad, _, _⟩ := hadst hM
          obtain ⟨rj, hrj, hrjd⟩ := hsdst hM
          obtain ⟨g2, cur, hat⟩ := hMI.at_ k M hMk (hbit _ hba hnea)
          refine ⟨g2, cur, (hstay hra hrad hnea).2 hat.slot, hat.new, hat.blk.later hl, hat.sz, fun hbs => ?_, fun k' M' g' hne' hM' hb' hs' => ?_⟩
          · have hbs' := hbit _ hbs hnes
            have hjs := (hMI.shut M hM hbs').2
            have hnej : M.js ≠ i := by intro e2; rw [e2, hmi] at hjs; cases hjs
            exact (hstay hrj hrjd hnej).2 (hat.put hbs')
          · have hM'm := List.mem_of_getElem? hM'
            have hnea' : M'.ia ≠ i := fun e => (hne M' hM'm).1 e.symm
            obtain ⟨ra', hra', hrad', _, _⟩ := hadst hM'm
            exact hat.far k' M' g' hne' hM' (hbit _ hb' hnea') ((hstay hra' hrad' hnea').1 hs')
      have hruns := S3 a w1 hI.lat (fun k v hk => (hI.base k v hk).ev) (fun j rj d hj h1 h2 => by
        obtain ⟨v, h3, h4⟩ := hI.slot j rj d (hdeps' j hj) h1 h2
        exact ⟨v, h3.ev, h4⟩) o ke1
      unfold wpOp
      rw [ho]
      simp only [if_pos hw]
      refine Or.inl ?_
      unfold Oper.wp
      rcases hruns with ⟨v, w', h1, h2, h3⟩ | ⟨f, args, h1, h2⟩
      · rw [h1, Oper.upon_value]
        exact hput v w' h2 h3
      · rw [h1, Oper.upon_enter]
        refine h2.mono fun e w' h => ?_
        obtain ⟨v, rfl, h3, h4⟩ := h
        exact hput v w' h3 h4
  · intro m a W hall hMI
    have hI := hMI.s
    have hin : ∀ j r, rows[j]? = some r → m.testBit j = true := fun j r h => hall j (by rw [← hlen]; exact (List.getElem?_eq_some_iff.1 h).1)
    refine hend a W hI.size hI.defers hI.lat hI.base (fun j r d h1 h2 => hI.slot j r d (hin j r h1) h1 h2) (fun k M hMk => ?_)
    have hM := List.mem_of_getElem? hMk
    obtain ⟨ra, hra, _, _, _⟩ := hadst hM
    obtain ⟨rs, hrs, _, _, _⟩ := hstore hM
    obtain ⟨g, cur, hat⟩ := hMI.at_ k M hMk (hin _ _ hra)
    refine ⟨g, cur, hat.slot, hat.new, hat.blk, hat.put (hin _ _ hrs), fun k' M' g' hne hM' hs' => ?_⟩
    obtain ⟨ra', hra', _, _, _⟩ := hadst (List.mem_of_getElem? hM')
    exact hat.far k' M' g' hne hM' (hin _ _ hra') hs'
theorem slot_agg {a : Act} {d : Tmp} {cur c : Array Value} (h : Slot a d (.agg cur)) (h' : Slot a d (.agg c)) : cur = c := by
  have := slot_inj h h'
  cases this; rfl
end Go.Proofs.YtogkkhaepfablaaGreat

/- Chance: the law of wide numbers: in plain numbers; wide.Int. -/
namespace Go.Proofs.YtogkkhaepfablaaGreat
open Go.RowKit
set_option linter.unusedSimpArgs false

theorem chTry_some {α : Type} {draw : Nat → α × Nat} {ok : α → Bool} : ∀ {f s : Nat} {p : α × Nat}, chTry draw ok f s = some p → ok p.1 = true ∧ ∃ s', p = draw s'
  | 0, s, p, h => by rw [chTry] at h; cases h
  | f + 1, s, p, h => by
    rw [chTry] at h
    by_cases h2 : ok (draw s).1 = true
    · rw [if_pos h2] at h
      cases h
      exact ⟨h2, s, rfl⟩
    · rw [if_neg h2] at h
      exact chTry_some h
theorem chWid_in {s : Nat} {n : Int} (h1 : 1 ≤ n) {x : Int} {t : Nat} (h : chWid s n = some (x, t)) : 0 ≤ x ∧ x < n := by
  unfold chWid at h
  by_cases hb : blen (n - 1) = 0
  · rw [if_pos hb] at h
    cases h
    omega
  · rw [if_neg hb] at h
    obtain ⟨h2, s', h3⟩ := chTry_some h
    have h4 : x = chNum (blen (n - 1)) s' := congrArg Prod.fst h3
    have h5 := Int.emod_nonneg (val W64 (chWords ((blen (n - 1) + 63) / 64) s')) (Int.ne_of_gt (pow_pos2 (blen (n - 1))))
    have h6 : x < n := of_decide_eq_true h2
    unfold chNum at h4
    exact ⟨by rw [h4]; exact h5, h6⟩
/-- A wide number is below its limit, or there is the one error. -/
theorem wid_in {s : Nat} {n : Int} (h1 : 1 ≤ n) : widE s n = 9 ∨ (widE s n = 0 ∧ 0 ≤ widV s n ∧ widV s n < n) := by
  unfold widE widV
  rw [if_neg (by omega), if_neg (by omega)]
  cases h : chWid s n with
  | none => left; rfl
  | some p =>
    obtain ⟨x, t⟩ := p
    right
    exact ⟨rfl, chWid_in h1 h⟩
theorem blen_pow {j : Nat} (hj : 1 ≤ j) : blen ((2 : Int) ^ j - 1) = j := by
  obtain ⟨i, rfl⟩ : ∃ i, j = i + 1 := ⟨j - 1, by omega⟩
  have h1 := Int.pow_succ 2 i
  have h2 := pow_pos2 i
  obtain ⟨p, hp⟩ : ∃ p, (2 : Int) ^ i = p := ⟨_, rfl⟩
  rw [hp] at h1 h2
  refine (blen_of (by omega) (by omega) (fun _ => ⟨by omega, ?_⟩) (fun h => by omega)).symm
  rw [Nat.add_sub_cancel, hp, h1]
  omega
theorem chTry_first {α : Type} {draw : Nat → α × Nat} {ok : α → Bool} {f s : Nat} (h : ok (draw s).1 = true) : chTry draw ok (f + 1) s = some (draw s) := by rw [chTry, if_pos h]
theorem chSt_one (s : Nat) : chSt 1 s = chStep s := by rw [chSt, chSt]
theorem chNum_one {s j : Nat} (hj : 1 ≤ j) (hj2 : j ≤ 63) : chNum j s = ((chMix (chStep s) % 2 ^ j : Nat) : Int) := by
  have e : chWords 1 s = [(chMix (chStep s) : Int)] := by rw [chWords_succ]; rfl
  unfold chNum
  rw [show (j + 63) / 64 = 1 by omega, e]
  simp [val]
/-- Below a power of 2 the next number's lowest digits are taken. -/
theorem wid_pow {s j : Nat} (hj : 1 ≤ j) (hj2 : j ≤ 63) : widV s ((2 : Int) ^ j) = ((chMix (chStep s) % 2 ^ j : Nat) : Int) ∧ widS s ((2 : Int) ^ j) = chStep s ∧ widE s ((2 : Int) ^ j) = 0 := by
  have hp := pow_pos2 j
  have hb := blen_pow hj
  have hn := chNum_one (s := s) hj hj2
  have h1 : (j + 63) / 64 = 1 := by omega
  have e : chDraw j s = (((chMix (chStep s) % 2 ^ j : Nat) : Int), chStep s) := by
    unfold chDraw
    rw [hn, h1, chSt_one]
  have hlt : ((chMix (chStep s) % 2 ^ j : Nat) : Int) < (2 : Int) ^ j := by
    have := Nat.mod_lt (chMix (chStep s)) (Nat.two_pow_pos j)
    have h3 : ((2 ^ j : Nat) : Int) = (2 : Int) ^ j := by simp
    rw [← h3]
    exact Int.ofNat_lt.2 this
  obtain ⟨x, hx⟩ : ∃ x : Int, ((chMix (chStep s) % 2 ^ j : Nat) : Int) = x := ⟨_, rfl⟩
  obtain ⟨t, ht⟩ : ∃ t, chStep s = t := ⟨_, rfl⟩
  obtain ⟨p, hpp⟩ : ∃ p, (2 : Int) ^ j = p := ⟨_, rfl⟩
  rw [hx] at e hlt ⊢
  rw [ht] at e ⊢
  rw [hpp] at hp hb hlt ⊢
  have hw : chWid s p = some (x, t) := by
    unfold chWid
    rw [hb, if_neg (by omega)]
    have hok : (fun x => decide (x < p)) (chDraw j s).1 = true := by rw [e]; exact decide_eq_true hlt
    have := chTry_first (draw := chDraw j) (ok := fun x => decide (x < p)) (f := 199) (s := s) hok
    rw [e] at this
    exact this
  have h0 : ¬ p < 1 := by omega
  unfold widV widS widE
  rw [if_neg h0, if_neg h0, if_neg h0, hw, optI, optT, optE]
  exact ⟨rfl, rfl, rfl⟩
theorem wid_one (s : Nat) : widV s 1 = 0 ∧ widS s 1 = s ∧ widE s 1 = 0 := by
  unfold widV widS widE
  rw [if_neg (by decide), if_neg (by decide), if_neg (by decide)]
  have : chWid s 1 = some (0, s) := by
    unfold chWid
    rw [if_pos (by decide)]
  rw [this, optI, optT, optE]
  exact ⟨rfl, rfl, rfl⟩
theorem of_low64 {z : Int} (h0 : 0 ≤ z) (h1 : z < 18446744073709551616) : (W8.of z).a0 = z := by
  have hp : (18446744073709551616 : Int) ≤ P512 := by decide
  show z % P512 % W64 = z
  rw [Int.emod_eq_of_lt h0 (by omega)]
  exact Int.emod_eq_of_lt h0 (by unfold W64; omega)
set_option maxRecDepth 100000 in
set_option maxHeartbeats 2000000 in
/-- wide.Int of a number that fits. -/
theorem wInt_fit (z : Int) (h0 : 0 ≤ z) (h1 : z < 9223372036854775808) (w : World) :
    Calls Tryz.prog 18 #[.agg #[.int .u64 (W8.of z).a0, .int .u64 (W8.of z).a1, .int .u64 (W8.of z).a2, .int .u64 (W8.of z).a3, .int .u64 (W8.of z).a4, .int .u64 (W8.of z).a5, .int .u64 (W8.of z).a6, .int .u64 (W8.of z).a7]] w (fun e w' => e = .returned (.tuple #[.int .i64 z, .int .i64 0]) ∧ Lat w w') := by
  have HO := fun w => of_any z (by omega) h1 w
  have ha := of_low64 h0 (by omega)
  obtain ⟨u, hu⟩ : ∃ u, W8.of z = u := ⟨_, rfl⟩
  have HE : ∀ w, (Op.equalIn 10000 26 (.agg #[.int .u64 u.a0, .int .u64 u.a1, .int .u64 u.a2, .int .u64 u.a3, .int .u64 u.a4, .int .u64 u.a5, .int .u64 u.a6, .int .u64 u.a7]) (.agg #[.int .u64 u.a0, .int .u64 u.a1, .int .u64 u.a2, .int .u64 u.a3, .int .u64 u.a4, .int .u64 u.a5, .int .u64 u.a6, .int .u64 u.a7])).run Tryz.prog w = .ok true w := fun w => by
    have hok : u.ok := by rw [← hu]; exact W8.of_ok z
    rw [wide_in hok hok, decide_eq_true rfl]
  rw [hu] at HO ha ⊢
  have hw : IntKind.i64.wrap z = z := by rw [IntWalk.i64_left]; exact IntWalk.wrap64_in _ (by omega)
  simp only [ha] at HE
  clear hu h0 h1
  go_enter Tryz.func18, Tryz.ntmps18
  go_upto_region 1 with (fail)
  refine name1 (Q := fun W => Code.wp _ _ _ _ W) ?_
  intro W hl hs k1
  have c0 := k1.cell 0
  go_upto_region 2 with (fail)
  have L0 := Lat.drew W
  have a0 := k1.ever 0 rfl
  have a1 := k1.ever 1 rfl
  have a2 := k1.ever 2 rfl
  have a3 := k1.ever 3 rfl
  have a4 := k1.ever 4 rfl
  have a5 := k1.ever 5 rfl
  have a6 := k1.ever 6 rfl
  have a7 := k1.ever 7 rfl
  go_region_held3 (fun w' => Lat W w') (first | (with_reducible assumption))
    (first
      | (go_at_call 15; (with_reducible refine (HO _).mono ?_); rintro e w2 ⟨rfl, q3⟩; have L2 := L0.trans q3))
  go_wp2
  refine bodyPost_ret (v := .tuple #[.int .i64 z, .int .i64 0]) (by simp [results, Tryz.results18, go_sem]) rfl ?_
  exact ⟨rfl, hl.trans L2⟩
end Go.Proofs.YtogkkhaepfablaaGreat

/- Chance: the law of wide numbers, walked. -/
namespace Go.Proofs.YtogkkhaepfablaaGreat
open Go.RowKit Go.Shelf
set_option linter.unusedSimpArgs false
set_option linter.unusedVariables false

theorem spell103 (T : Array Value) (h : T.size = 103) : ∃ f : Nat → Value, (∀ k, f k = T.getD k undef) ∧ T = #[f 0, f 1, f 2, f 3, f 4, f 5, f 6, f 7, f 8, f 9, f 10, f 11, f 12, f 13, f 14, f 15, f 16, f 17, f 18, f 19, f 20, f 21, f 22, f 23, f 24, f 25, f 26, f 27, f 28, f 29, f 30, f 31, f 32, f 33, f 34, f 35, f 36, f 37, f 38, f 39, f 40, f 41, f 42, f 43, f 44, f 45, f 46, f 47, f 48, f 49, f 50, f 51, f 52, f 53, f 54, f 55, f 56, f 57, f 58, f 59, f 60, f 61, f 62, f 63, f 64, f 65, f 66, f 67, f 68, f 69, f 70, f 71, f 72, f 73, f 74, f 75, f 76, f 77, f 78, f 79, f 80, f 81, f 82, f 83, f 84, f 85, f 86, f 87, f 88, f 89, f 90, f 91, f 92, f 93, f 94, f 95, f 96, f 97, f 98, f 99, f 100, f 101, f 102] := ⟨fun k => T.getD k undef, fun _ => rfl, (spell 103 T h).trans (by kernel_rfl)⟩
noncomputable def cv8_rows (s m dt : Nat) (om bv : W8) (g3 : Nat) : List SRow := [
  ⟨Op.load 24 (Operand.tmp 3), some 52, none, [], fun v _ => v = .agg #[.int .u64 (s : Nat)]⟩,
  ⟨Op.move (Operand.tmp 11), some 53, none, [], fun v _ => v = .int .i64 (m : Nat)⟩,
  ⟨Op.call { callee := Callee.value (Operand.func 15), args := #[Operand.tmp 53], argTypes := #[3] }, some 54, none, [1], fun v _ => v = .agg #[.int .u64 om.a0, .int .u64 om.a1, .int .u64 om.a2, .int .u64 om.a3, .int .u64 om.a4, .int .u64 om.a5, .int .u64 om.a6, .int .u64 om.a7]⟩,
  ⟨Op.call { callee := Callee.value (Operand.func 13), args := #[Operand.tmp 52, Operand.tmp 54], argTypes := #[24, 26] }, some 55, none, [0, 2, 2], fun v _ => v = .tuple #[.agg #[.int .u64 bv.a0, .int .u64 bv.a1, .int .u64 bv.a2, .int .u64 bv.a3, .int .u64 bv.a4, .int .u64 bv.a5, .int .u64 bv.a6, .int .u64 bv.a7], .agg #[.int .u64 (dt : Nat)], .int .i64 0]⟩,
  ⟨Op.move (Operand.tmp 55), some 51, none, [3], fun v _ => v = .tuple #[.agg #[.int .u64 bv.a0, .int .u64 bv.a1, .int .u64 bv.a2, .int .u64 bv.a3, .int .u64 bv.a4, .int .u64 bv.a5, .int .u64 bv.a6, .int .u64 bv.a7], .agg #[.int .u64 (dt : Nat)], .int .i64 0]⟩,
  ⟨Op.extract (Operand.tmp 51) 0, some 56, none, [4], fun v _ => v = .agg #[.int .u64 bv.a0, .int .u64 bv.a1, .int .u64 bv.a2, .int .u64 bv.a3, .int .u64 bv.a4, .int .u64 bv.a5, .int .u64 bv.a6, .int .u64 bv.a7]⟩,
  ⟨Op.extract (Operand.tmp 51) 1, some 57, none, [4], fun v _ => v = .agg #[.int .u64 (dt : Nat)]⟩,
  ⟨Op.extract (Operand.tmp 51) 2, some 58, none, [4], fun v _ => v = .int .i64 0⟩,
  ⟨Op.alloc 26, some 12, none, [], fun _ _ => True⟩,
  ⟨Op.alloc 24, some 13, none, [], fun _ _ => True⟩,
  ⟨Op.store 26 (Operand.tmp 12) (Operand.tmp 56), none, none, [8, 5, 3, 0, 1, 2, 3, 4, 5, 8, 9], fun _ _ => True⟩,
  ⟨Op.store 24 (Operand.tmp 13) (Operand.tmp 57), none, none, [9, 6, 10, 0, 1, 2, 3, 4, 5, 6, 8, 9, 10], fun _ _ => True⟩,
  ⟨Op.assign (Operand.tmp 58), some 14, none, [7, 11, 0, 1, 2, 3, 4, 5, 6, 7, 8, 9, 10, 11], fun v _ => v = .int .i64 0⟩]
noncomputable def cv8_base (s m dt : Nat) (om bv : W8) (g3 : Nat) : List (Nat × Value) := [(3, .pointer (some ⟨g3, 0, none⟩)), (11, .int .i64 (m : Nat))]
def cv8_mem : List MRow := [⟨8, 12, 26, #[.int .u64 0, .int .u64 0, .int .u64 0, .int .u64 0, .int .u64 0, .int .u64 0, .int .u64 0, .int .u64 0], 10, 56, 5⟩, ⟨9, 13, 24, #[.int .u64 0], 11, 57, 6⟩]
theorem cv8_pure (s m dt : Nat) (om bv : W8) (g3 : Nat) : AllPure (cv8_rows s m dt om bv g3) := ⟨fun _ _ _ h => h, ⟨fun _ _ _ h => h, ⟨fun _ _ _ h => h, ⟨fun _ _ _ h => h, ⟨fun _ _ _ h => h, ⟨fun _ _ _ h => h, ⟨fun _ _ _ h => h, ⟨fun _ _ _ h => h, ⟨fun _ _ _ h => h, ⟨fun _ _ _ h => h, ⟨fun _ _ _ h => h, ⟨fun _ _ _ h => h, ⟨fun _ _ _ h => h, trivial⟩⟩⟩⟩⟩⟩⟩⟩⟩⟩⟩⟩⟩
set_option maxRecDepth 100000 in
set_option maxHeartbeats 4000000 in
theorem cv8_allm (s m dt : Nat) (om bv : W8) (g3 : Nat) : AllMem Tryz.prog (cv8_rows s m dt om bv g3) cv8_mem := by
  refine ⟨⟨fun ev w o ho => ?_, by rfl, fun r v w hr => ?_, by rfl, fun r hr => ?_, by rfl, fun r v w hr h => ?_, by kernel_rfl⟩, ?_⟩
  · obtain ⟨d, op, ty, p, af, g⟩ := o
    simp only at ho
    subst ho
    unfold execOp
    go_simp
  · obtain rfl := Option.some.inj (show some _ = some r from hr); trivial
  · obtain rfl := Option.some.inj (show some _ = some r from hr); exact ⟨by simp, by simp⟩
  · obtain rfl := Option.some.inj (show some _ = some r from hr); exact ⟨_, h, rfl, by simp [Value.oneCell']⟩
  refine ⟨⟨fun ev w o ho => ?_, by rfl, fun r v w hr => ?_, by rfl, fun r hr => ?_, by rfl, fun r v w hr h => ?_, by kernel_rfl⟩, ?_⟩
  · obtain ⟨d, op, ty, p, af, g⟩ := o
    simp only at ho
    subst ho
    unfold execOp
    go_simp
  · obtain rfl := Option.some.inj (show some _ = some r from hr); trivial
  · obtain rfl := Option.some.inj (show some _ = some r from hr); exact ⟨by simp, by simp⟩
  · obtain rfl := Option.some.inj (show some _ = some r from hr); exact ⟨_, h, rfl, by simp [Value.oneCell']⟩
  trivial
set_option maxRecDepth 100000 in
set_option maxHeartbeats 4000000 in
theorem cv8_steps (V : World) (s m dt : Nat) (om bv : W8) (g3 : Nat) (R3 : ∀ w', Lat V w' → w'.rangeAt g3 0 [.int .u64 (s : Nat)]) (J24 : (Tryz.prog.info? 24).map (·.size) = some 1)
    (HO : ∀ w, Calls Tryz.prog 15 #[.int .i64 (m : Nat)] w (fun e w' => e = .returned (.agg #[.int .u64 om.a0, .int .u64 om.a1, .int .u64 om.a2, .int .u64 om.a3, .int .u64 om.a4, .int .u64 om.a5, .int .u64 om.a6, .int .u64 om.a7]) ∧ Lat w w'))
    (HW : ∀ w, Calls Tryz.prog 13 #[.agg #[.int .u64 (s : Nat)], .agg #[.int .u64 om.a0, .int .u64 om.a1, .int .u64 om.a2, .int .u64 om.a3, .int .u64 om.a4, .int .u64 om.a5, .int .u64 om.a6, .int .u64 om.a7]] w (fun e w' => e = .returned (.tuple #[.agg #[.int .u64 bv.a0, .int .u64 bv.a1, .int .u64 bv.a2, .int .u64 bv.a3, .int .u64 bv.a4, .int .u64 bv.a5, .int .u64 bv.a6, .int .u64 bv.a7], .agg #[.int .u64 (dt : Nat)], .int .i64 0]) ∧ Lat w w')) :
    StepsAt Tryz.prog (cv8_rows s m dt om bv g3) (cv8_base s m dt om bv g3) V (cv8_mem.flatMap fun M => [M.ia, M.is]) 0 (cv8_rows s m dt om bv g3) := by
  refine StepsAt.next (fun _ _ _ h _ => h) (fun j b h => by cases h) (fun a w hl hb hd o ho => by have e1 := hb 3 _ rfl; exact Runs.val (yv_load (S := Lat V) e1 R3 Tryz.underlying24 rfl J24 o w ho hl) ⟨Lat.refl _, fun _ => rfl⟩) ?_
  refine StepsAt.next (fun _ _ _ h _ => h) (fun j b h => by cases h) (fun a w hl hb hd o ho => by have e1 := hb 11 _ rfl; exact Runs.val (yv_move (S := fun _ => True) e1 o w ho trivial) ⟨Lat.refl _, fun _ => rfl⟩) ?_
  refine StepsAt.next (fun _ _ _ h _ => h) (fun j b h => by cases h) (fun a w hl hb hd o ho => by obtain ⟨v1, e1, q1⟩ := hd 1 _ _ (by simp) rfl rfl; subst q1; exact Runs.call (yv_call (f := 15) (fun _ => by go_simp) o ho (by simp only [List.map_toArray, List.map_cons, List.map_nil, eval_const, e1])) ((HO w).mono fun e w' h => ⟨_, h.1, h.2, fun _ => rfl⟩)) ?_
  refine StepsAt.next (fun _ _ _ h _ => h) (fun j b h => by cases h) (fun a w hl hb hd o ho => by obtain ⟨v1, e1, q1⟩ := hd 0 _ _ (by simp) rfl rfl; subst q1; obtain ⟨v2, e2, q2⟩ := hd 2 _ _ (by simp) rfl rfl; subst q2; exact Runs.call (yv_call (f := 13) (fun _ => by go_simp) o ho (by simp only [List.map_toArray, List.map_cons, List.map_nil, eval_const, e1, e2])) ((HW w).mono fun e w' h => ⟨_, h.1, h.2, fun _ => rfl⟩)) ?_
  refine StepsAt.next (fun _ _ _ h _ => h) (fun j b h => by cases h) (fun a w hl hb hd o ho => by obtain ⟨v1, e1, q1⟩ := hd 3 _ _ (by simp) rfl rfl; subst q1; exact Runs.val (yv_move (S := fun _ => True) e1 o w ho trivial) ⟨Lat.refl _, fun _ => rfl⟩) ?_
  refine StepsAt.next (fun _ _ _ h _ => h) (fun j b h => by cases h) (fun a w hl hb hd o ho => by obtain ⟨v1, e1, q1⟩ := hd 4 _ _ (by simp) rfl rfl; subst q1; obtain ⟨d, op, ty, p, af, g⟩ := o; simp only at ho; subst ho; have ec : ∀ v, a.eval (.const v) = v := fun _ => rfl; exact Runs.val (by unfold execOp; generalize a.eval = ev at e1 ec ⊢; simp only [e1, ec]; go_simp) ⟨Lat.refl _, fun _ => rfl⟩) ?_
  refine StepsAt.next (fun _ _ _ h _ => h) (fun j b h => by cases h) (fun a w hl hb hd o ho => by obtain ⟨v1, e1, q1⟩ := hd 4 _ _ (by simp) rfl rfl; subst q1; obtain ⟨d, op, ty, p, af, g⟩ := o; simp only at ho; subst ho; have ec : ∀ v, a.eval (.const v) = v := fun _ => rfl; exact Runs.val (by unfold execOp; generalize a.eval = ev at e1 ec ⊢; simp only [e1, ec]; go_simp) ⟨Lat.refl _, fun _ => rfl⟩) ?_
  refine StepsAt.next (fun _ _ _ h _ => h) (fun j b h => by cases h) (fun a w hl hb hd o ho => by obtain ⟨v1, e1, q1⟩ := hd 4 _ _ (by simp) rfl rfl; subst q1; obtain ⟨d, op, ty, p, af, g⟩ := o; simp only at ho; subst ho; have ec : ∀ v, a.eval (.const v) = v := fun _ => rfl; exact Runs.val (by unfold execOp; generalize a.eval = ev at e1 ec ⊢; simp only [e1, ec]; go_simp) ⟨Lat.refl _, fun _ => rfl⟩) ?_
  refine StepsAt.skip (by simp [cv8_mem]) ?_
  refine StepsAt.skip (by simp [cv8_mem]) ?_
  refine StepsAt.skip (by simp [cv8_mem]) ?_
  refine StepsAt.skip (by simp [cv8_mem]) ?_
  refine StepsAt.next (fun _ _ _ h _ => h) (fun j b h => by cases h) (fun a w hl hb hd o ho => by obtain ⟨v1, e1, q1⟩ := hd 7 _ _ (by simp) rfl rfl; subst q1; exact Runs.val (yv_assignS (S := fun _ => True) e1 o w ho trivial) ⟨Lat.refl _, fun _ => rfl⟩) ?_
  exact StepsAt.none

/-- The law's numbers: the drawn one below the limit, and the one below a power of 2. -/
structure CvN (s : Nat) (N : Int) (x : Int) (t : Nat) (en : Int) (sg cm : Int) : Prop where
  e : en = 9 ∨ en = 0
  sg : en = 0 → ¬ sg < 0
  cm : en = 0 → ¬ 0 ≤ cm
theorem cvN {s : Nat} {N : Int} (h1 : 1 ≤ N) : CvN s N (widV s N) (widS s N) (widE s N) (sideOf (widV s N)) (sideOf (widV s N - N)) := by
  rcases wid_in (s := s) h1 with h | ⟨h, h2, h3⟩
  · exact ⟨.inl h, fun e => (by rw [h] at e; cases e), fun e => (by rw [h] at e; cases e)⟩
  · refine ⟨.inr h, fun _ => ?_, fun _ => ?_⟩
    · unfold sideOf; rw [if_neg (by omega)]; split <;> decide
    · unfold sideOf; rw [if_pos (by omega)]; decide
set_option maxRecDepth 100000 in
theorem cv_fieldD (u v : W8) (w : World) : (Instr.field 53 (.agg #[.int .u64 u.a0, .int .u64 u.a1, .int .u64 u.a2, .int .u64 u.a3, .int .u64 u.a4, .int .u64 u.a5, .int .u64 u.a6, .int .u64 u.a7, .int .u64 v.a0, .int .u64 v.a1, .int .u64 v.a2, .int .u64 v.a3, .int .u64 v.a4, .int .u64 v.a5, .int .u64 v.a6, .int .u64 v.a7]) 1).run Tryz.prog w = .ok (.agg #[.int .u64 v.a0, .int .u64 v.a1, .int .u64 v.a2, .int .u64 v.a3, .int .u64 v.a4, .int .u64 v.a5, .int .u64 v.a6, .int .u64 v.a7]) w := by kernel_rfl
set_option maxRecDepth 100000 in
theorem cv_fieldN (u v : W8) (w : World) : (Instr.field 53 (.agg #[.int .u64 u.a0, .int .u64 u.a1, .int .u64 u.a2, .int .u64 u.a3, .int .u64 u.a4, .int .u64 u.a5, .int .u64 u.a6, .int .u64 u.a7, .int .u64 v.a0, .int .u64 v.a1, .int .u64 v.a2, .int .u64 v.a3, .int .u64 v.a4, .int .u64 v.a5, .int .u64 v.a6, .int .u64 v.a7]) 0).run Tryz.prog w = .ok (.agg #[.int .u64 u.a0, .int .u64 u.a1, .int .u64 u.a2, .int .u64 u.a3, .int .u64 u.a4, .int .u64 u.a5, .int .u64 u.a6, .int .u64 u.a7]) w := by kernel_rfl
theorem cv_int {s : Nat} {N D : Int} (hf : ShFit N D) (hD1 : 1 ≤ D) (h : widE s D = 0) : (W8.of (widV s D)).toInt = widV s D := by
  rcases wid_in (s := s) hD1 with h' | ⟨_, h2, h3⟩
  · rw [h'] at h; cases h
  · exact W8.of_toInt (by have := P511_pos; omega) (by have := hf.d2; omega)
set_option maxRecDepth 100000 in
set_option maxHeartbeats 4000000 in
theorem cWides_from (HWK : ∀ w, Calls Tryz.prog 7 #[] w (fun e w' => e = .returned (.bool true) ∧ Lat w w')) (s : Nat) (hs : s < 18446744073709551616) (b1 b2 : Bool) (A1 A2 : Option Addr) (n1 c1 n2 c2 : Nat) (l1 l2 : Int) (k j m dt yv st q : Nat) (om bv : W8) (w : World)
    (h1 : DrIn w A1 n1 l1) (h2 : DrIn w A2 n2 l2) (hk : ((k : Nat) : Int).tmod 63 = ((j : Nat) : Int)) (hkw : IntKind.u8.wrap ((j : Nat) : Int) = ((j : Nat) : Int))
    (HM2 : Hid (wrap64 (2 ^ min j 64) = ((m : Nat) : Int))) (HN : Hid (∀ w, Calls Tryz.prog 25 #[.agg #[.int .u64 (s : Nat)]] w (fun e w' => e = .returned (.tuple #[.int .u64 (yv : Nat), .agg #[.int .u64 (st : Nat)]]) ∧ Lat w w')))
    (HX : Hid ((m = 1 ∧ (∀ w, (Op.equalIn 10000 26 (.agg #[.int .u64 bv.a0, .int .u64 bv.a1, .int .u64 bv.a2, .int .u64 bv.a3, .int .u64 bv.a4, .int .u64 bv.a5, .int .u64 bv.a6, .int .u64 bv.a7]) (.agg #[.int .u64 0, .int .u64 0, .int .u64 0, .int .u64 0, .int .u64 0, .int .u64 0, .int .u64 0, .int .u64 0])).run Tryz.prog w = .ok true w) ∧ (∀ w, (Op.equalIn 10000 24 (.agg #[.int .u64 (dt : Nat)]) (.agg #[.int .u64 (s : Nat)])).run Tryz.prog w = .ok true w)) ∨
      ((((m : Nat) : Int) == 1) = false ∧ (¬ m = 0) ∧ (∀ w, Calls Tryz.prog 18 #[.agg #[.int .u64 bv.a0, .int .u64 bv.a1, .int .u64 bv.a2, .int .u64 bv.a3, .int .u64 bv.a4, .int .u64 bv.a5, .int .u64 bv.a6, .int .u64 bv.a7]] w (fun e w' => e = .returned (.tuple #[.int .i64 (q : Nat), .int .i64 0]) ∧ Lat w w')) ∧ IntKind.u64.wrap ((m : Nat) : Int) = ((m : Nat) : Int) ∧ ((yv : Nat) : Int).tmod ((m : Nat) : Int) = ((q : Nat) : Int) ∧ ((yv : Nat) : Int) % ((m : Nat) : Int) = ((q : Nat) : Int) ∧ IntKind.u64.wrap ((q : Nat) : Int) = ((q : Nat) : Int) ∧ IntKind.i64.wrap ((q : Nat) : Int) = ((q : Nat) : Int) ∧
        (∀ w, (Op.equalIn 10000 24 (.agg #[.int .u64 (dt : Nat)]) (.agg #[.int .u64 (st : Nat)])).run Tryz.prog w = .ok true w))))
    (HO : Hid (∀ w, Calls Tryz.prog 15 #[.int .i64 (m : Nat)] w (fun e w' => e = .returned (.agg #[.int .u64 om.a0, .int .u64 om.a1, .int .u64 om.a2, .int .u64 om.a3, .int .u64 om.a4, .int .u64 om.a5, .int .u64 om.a6, .int .u64 om.a7]) ∧ Lat w w')))
    (HWB : Hid (∀ w, Calls Tryz.prog 13 #[.agg #[.int .u64 (s : Nat)], .agg #[.int .u64 om.a0, .int .u64 om.a1, .int .u64 om.a2, .int .u64 om.a3, .int .u64 om.a4, .int .u64 om.a5, .int .u64 om.a6, .int .u64 om.a7]] w (fun e w' => e = .returned (.tuple #[.agg #[.int .u64 bv.a0, .int .u64 bv.a1, .int .u64 bv.a2, .int .u64 bv.a3, .int .u64 bv.a4, .int .u64 bv.a5, .int .u64 bv.a6, .int .u64 bv.a7], .agg #[.int .u64 (dt : Nat)], .int .i64 0]) ∧ Lat w w'))) :
    Calls Tryz.prog 5 #[.agg #[.int .u64 (s : Nat)], .agg #[.bool b1, .slice A1 n1 c1, .int .u32 l1, .bool b2, .slice A2 n2 c2, .int .u32 l2], .int .u8 (k : Nat)] w (fun e w' => e = .returned (.bool true) ∧ Lat w w') := by
  have HS := Lib.hid hs
  clear hs
  go_enter Tryz.func5, Tryz.ntmps5
  go_upto_region 1 with (fail)
  refine name2 (Q := fun W => Code.wp _ _ _ _ W) ?_
  intro W l0 hsz k3 k4
  obtain ⟨g4, hg4⟩ : ∃ z, w.heap.size + 1 = z := ⟨_, rfl⟩
  obtain ⟨g3, hg3⟩ : ∃ z, w.heap.size = z := ⟨_, rfl⟩
  have hw3 : w.heap.size ≤ g3 := by omega
  rw [hg4] at k4
  rw [hg3] at k3
  rw [hg4, hg3]
  clear hg4 hg3 hsz
  have H1 := Lib.hid (h1.later l0)
  have H2 := Lib.hid (h2.later l0)
  clear h1 h2
  go_wp2_with fail
  refine (HWK W).mono ?_
  rintro e V0 ⟨rfl, la⟩
  replace k3 := k3.later la
  replace k4 := k4.later la
  replace l0 := l0.trans la
  have H1' := Lib.hid (H1.out.later la)
  have H2' := Lib.hid (H2.out.later la)
  clear la HWK H1 H2
  have R4 : V0.rangeAt g4 0 [.bool b1, .slice A1 n1 c1, .int .u32 l1, .bool b2, .slice A2 n2 c2, .int .u32 l2] := k4.rangeAll
  have J44 : (Tryz.prog.info? 44).map (·.size) = some 6 := by kernel_rfl
  go_wp2_with (refine wpList_load_mid (by rfl) 44 (.tmp 4) (by rfl) g4 0 (by rfl) [.bool b1, .slice A1 n1 c1, .int .u32 l1, .bool b2, .slice A2 n2 c2, .int .u32 l2] _ R4 Tryz.underlying44 rfl J44 ?_)
  refine (rDShare_any b1 b2 A1 A2 n1 c1 n2 c2 l1 l2 V0 H1'.out H2'.out).mono ?_
  rintro e V1 ⟨N, D, hf, rfl, la⟩
  replace k3 := k3.later la
  replace l0 := l0.trans la
  clear la R4 J44 k4 H1' H2'
  have hD1 : 1 ≤ D := hf.ok.1
  have hDt : (W8.of D).toInt = D := W8.of_toInt (by have := P511_pos; omega) hf.d2
  have HW := fun w => cWide_any s HS.out (W8.of D) (W8.of_ok D) w
  rw [hDt] at HW
  have hc := cvN (s := s) hD1
  have HG : widE s D = 0 → ∀ w, Calls Tryz.prog 23 #[.agg #[.int .u64 (W8.of (widV s D)).a0, .int .u64 (W8.of (widV s D)).a1, .int .u64 (W8.of (widV s D)).a2, .int .u64 (W8.of (widV s D)).a3, .int .u64 (W8.of (widV s D)).a4, .int .u64 (W8.of (widV s D)).a5, .int .u64 (W8.of (widV s D)).a6, .int .u64 (W8.of (widV s D)).a7]] w (fun e w' => e = .returned (.int .i64 (sideOf (widV s D))) ∧ Lat w w') := fun h w => by
    have := wSign_any (W8.of (widV s D)) (W8.of_ok _) w
    rwa [cv_int hf hD1 h] at this
  have HC : widE s D = 0 → ∀ w, Calls Tryz.prog 24 #[.agg #[.int .u64 (W8.of (widV s D)).a0, .int .u64 (W8.of (widV s D)).a1, .int .u64 (W8.of (widV s D)).a2, .int .u64 (W8.of (widV s D)).a3, .int .u64 (W8.of (widV s D)).a4, .int .u64 (W8.of (widV s D)).a5, .int .u64 (W8.of (widV s D)).a6, .int .u64 (W8.of (widV s D)).a7], .agg #[.int .u64 (W8.of D).a0, .int .u64 (W8.of D).a1, .int .u64 (W8.of D).a2, .int .u64 (W8.of D).a3, .int .u64 (W8.of D).a4, .int .u64 (W8.of D).a5, .int .u64 (W8.of D).a6, .int .u64 (W8.of D).a7]] w (fun e w' => e = .returned (.int .i64 (sideOf (widV s D - D))) ∧ Lat w w') := fun h w => by
    have := wCmp_any (W8.of (widV s D)) (W8.of D) (W8.of_ok _) (W8.of_ok _) w
    rwa [cv_int hf hD1 h, hDt] at this
  obtain ⟨sg, hsg⟩ : ∃ z, sideOf (widV s D) = z := ⟨_, rfl⟩
  obtain ⟨cm, hcm⟩ : ∃ z, sideOf (widV s D - D) = z := ⟨_, rfl⟩
  obtain ⟨en, hen⟩ : ∃ z, widE s D = z := ⟨_, rfl⟩
  obtain ⟨t1, ht1⟩ : ∃ z, widS s D = z := ⟨_, rfl⟩
  obtain ⟨av, hav⟩ : ∃ z, W8.of (widV s D) = z := ⟨_, rfl⟩
  obtain ⟨n8, hn8⟩ : ∃ z, W8.of D = z := ⟨_, rfl⟩
  rw [hav, hn8, ht1, hen] at HW
  rw [hav, hsg, hen] at HG
  rw [hav, hn8, hcm, hen] at HC
  rw [hsg, hcm, hen] at hc
  rw [hn8]
  have HWH := Lib.hid HW
  have HGH := Lib.hid HG
  have HCH := Lib.hid HC
  have HCC := Lib.hid hc
  clear HW HG HC hc hsg hcm hen ht1 hav hn8 hDt hD1 hf
  have hfd := cv_fieldD (W8.of N) n8 V1
  go_upto_region 4 with (fail)
  refine name1 (Q := fun W => Code.wp _ _ _ _ W) ?_
  intro V2 la hs2 k7
  obtain ⟨g7, hg7⟩ : ∃ z, V1.heap.size = z := ⟨_, rfl⟩
  rw [hg7] at k7 ⊢
  replace k3 := k3.later la
  replace l0 := l0.trans la
  clear la hs2 hg7 hfd
  have c3 : V2.cell? ⟨g3, 0, none⟩ = some (.int .u64 (s : Int)) := k3.cell 0
  have d0 := k7.cell 0
  have d1 := k7.cell 1
  have d2 := k7.cell 2
  have d3 := k7.cell 3
  have d4 := k7.cell 4
  have d5 := k7.cell 5
  have d6 := k7.cell 6
  have d7 := k7.cell 7
  go_wp2_with fail
  refine (HWH.out V2).mono ?_
  rintro e V3 ⟨rfl, la⟩
  clear d0 d1 d2 d3 d4 d5 d6 d7
  clear c3
  replace k3 := k3.later la
  replace k7 := k7.later la
  replace l0 := l0.trans la
  clear la HWH
  go_upto_region 5 with (fail)
  refine name2 (Q := fun W => Code.wp _ _ _ _ W) ?_
  intro V4 la hs3 k8 k9
  replace k3 := k3.later la
  replace k7 := k7.later la
  replace l0 := l0.trans la
  obtain ⟨g9, hg9⟩ : ∃ z, V3.heap.size + 1 = z := ⟨_, rfl⟩
  obtain ⟨g8, hg8⟩ : ∃ z, V3.heap.size = z := ⟨_, rfl⟩
  rw [hg8] at k8
  rw [hg9, hg8]
  clear la hs3 hg9 hg8 k9
  obtain ⟨he, hsg, hcm⟩ := HCC.out
  rcases he with rfl | rfl
  · clear HGH HCH HCC hsg hcm k7 k8
    go_upto_region 8 with (fail)
    rw [HM2.out]
    obtain ⟨VT, rfl⟩ : ∃ z, z = V4 := ⟨_, rfl⟩
    have R3 : ∀ w', Lat VT w' → w'.rangeAt g3 0 [.int .u64 (s : Nat)] := fun w' hl => (k3.later hl).rangeAll
    have J24 : (Tryz.prog.info? 24).map (·.size) = some 1 := by kernel_rfl
    rename_i KN hKN
    refine wp_region_mem (cv8_rows s m dt om bv g3) (cv8_base s m dt om bv g3) cv8_mem 103 13 [[], [], [1], [0, 2, 2], [3], [4], [4], [4], [], [], [8, 5, 3, 0, 1, 2, 3, 4, 5, 8, 9], [9, 6, 10, 0, 1, 2, 3, 4, 5, 6, 8, 9, 10], [7, 11, 0, 1, 2, 3, 4, 5, 6, 7, 8, 9, 10, 11]] (by kernel_rfl) (by kernel_rfl) (by kernel_rfl) (by kernel_rfl) (by kernel_rfl) (by kernel_rfl) (by kernel_rfl) (by rfl) rfl ?_ (cv8_pure s m dt om bv g3) (cv8_allm s m dt om bv g3) (cv8_steps VT s m dt om bv g3 R3 J24 HO.out HWB.out) ?_
    ·
      exact base_of (base_cons (by rfl) (base_cons (by rfl) (base_nil _)))
    · intro a9 W9 hsz9 hdf9 hL9 hbs hsl hmm
      obtain ⟨g12, c12, s12, n12, b12, p12, far12⟩ := hmm 0 _ rfl
      obtain ⟨g13, c13, s13, n13, b13, p13, far13⟩ := hmm 1 _ rfl
      obtain ⟨v9, h9, q9⟩ := hsl 5 _ _ rfl rfl
      obtain rfl : v9 = .agg #[.int .u64 bv.a0, .int .u64 bv.a1, .int .u64 bv.a2, .int .u64 bv.a3, .int .u64 bv.a4, .int .u64 bv.a5, .int .u64 bv.a6, .int .u64 bv.a7] := q9
      obtain rfl := slot_agg p12 h9
      clear h9
      obtain ⟨v9, h9, q9⟩ := hsl 6 _ _ rfl rfl
      obtain rfl : v9 = .agg #[.int .u64 (dt : Nat)] := q9
      obtain rfl := slot_agg p13 h9
      clear h9
      have e12_13 : g12 ≠ g13 := far12 1 _ _ (by decide) rfl s13
      obtain ⟨v9, h9, q9⟩ := hsl 12 _ _ rfl rfl
      obtain rfl : v9 = .int .i64 0 := q9
      have w14 := slot_getD h9
      clear h9
      have w12 := slot_getD s12
      have w13 := slot_getD s13
      refine hKN _ _ ?_
      obtain ⟨T9, df9⟩ := a9
      obtain rfl : df9 = [] := hdf9
      obtain ⟨f, hf, rfl⟩ := spell103 T9 hsz9
      have x3 : f 3 = .pointer (some ⟨g3, 0, none⟩) := (hf 3).trans (slot_getD (hbs 3 _ rfl))
      have x11 : f 11 = .int .i64 (m : Nat) := (hf 11).trans (slot_getD (hbs 11 _ rfl))
      have x14 : f 14 = .int .i64 0 := (hf 14).trans w14
      have x12 : f 12 = .pointer (some ⟨g12, 0, none⟩) := (hf 12).trans w12
      have x13 : f 13 = .pointer (some ⟨g13, 0, none⟩) := (hf 13).trans w13
      clear hbs hsl hmm hf hsz9 hKN s12 p12 far12 s13 p13 far13 w14 w12 w13
      simp only [x3, x11, x14, x12, x13]
      clear x3 x11 x14 x12 x13
      replace k3 := k3.later hL9
      replace l0 := l0.trans hL9
      clear hL9 e12_13 n12 n13 R3 J24
      have c3 : W9.cell? ⟨g3, 0, none⟩ = some (.int .u64 (s : Int)) := k3.cell 0
      go_wp2_with fail
      refine (HN.out W9).mono ?_
      rintro e Y1 ⟨rfl, la⟩
      clear c3
      replace k3 := k3.later la
      replace b12 := b12.later la
      replace b13 := b13.later la
      replace l0 := l0.trans la
      clear la
      go_upto_region 10 with (fail)
      refine name1 (Q := fun W => Code.wp _ _ _ _ W) ?_
      intro Y2 la hs6 k16
      obtain ⟨g16, hg16⟩ : ∃ z, Y1.heap.size = z := ⟨_, rfl⟩
      rw [hg16] at k16 ⊢
      replace k3 := k3.later la
      replace b12 := b12.later la
      replace b13 := b13.later la
      replace l0 := l0.trans la
      clear la hs6 hg16
      have d0 := b12.cell 0
      have d1 := b12.cell 1
      have d2 := b12.cell 2
      have d3 := b12.cell 3
      have d4 := b12.cell 4
      have d5 := b12.cell 5
      have d6 := b12.cell 6
      have d7 := b12.cell 7
      rcases HX.out with ⟨rfl, HE1, HE2⟩ | ⟨hm1, hm0, HI, hmU, hq1, hq2, hq3, hcv, HE3⟩
      · have c3 : Y2.cell? ⟨g3, 0, none⟩ = some (.int .u64 (s : Int)) := k3.cell 0
        have c13 : Y2.cell? ⟨g13, 0, none⟩ = some (.int .u64 (dt : Int)) := b13.cell 0
        clear HX HO HWB HN HM2
        go_wp2
        go_ret
        exact ⟨rfl, l0⟩
      · clear HX HO HWB HN HM2
        go_wp2_with fail
        refine (HI Y2).mono ?_
        rintro e Y3 ⟨rfl, la⟩
        clear d0 d1 d2 d3 d4 d5 d6 d7
        replace b13 := b13.later la
        replace k16 := k16.later la
        replace l0 := l0.trans la
        clear la HI b12 k3
        have c13 : Y3.cell? ⟨g13, 0, none⟩ = some (.int .u64 (dt : Int)) := b13.cell 0
        have c16 : Y3.cell? ⟨g16, 0, none⟩ = some (.int .u64 (st : Int)) := k16.cell 0
        go_wp2
        go_ret
        exact ⟨rfl, l0⟩
  · have hsg0 := hsg rfl
    have hcm0 := hcm rfl
    have HG0 := Lib.hid (HGH.out rfl)
    have HC0 := Lib.hid (HCH.out rfl)
    clear HGH HCH HCC hsg hcm
    have d0 := k8.cell 0
    have d1 := k8.cell 1
    have d2 := k8.cell 2
    have d3 := k8.cell 3
    have d4 := k8.cell 4
    have d5 := k8.cell 5
    have d6 := k8.cell 6
    have d7 := k8.cell 7
    go_wp2_with fail
    refine (HG0.out V4).mono ?_
    rintro e V5 ⟨rfl, la⟩
    clear d0 d1 d2 d3 d4 d5 d6 d7
    replace k3 := k3.later la
    replace k7 := k7.later la
    replace k8 := k8.later la
    replace l0 := l0.trans la
    clear la HG0
    have d0 := k8.cell 0
    have d1 := k8.cell 1
    have d2 := k8.cell 2
    have d3 := k8.cell 3
    have d4 := k8.cell 4
    have d5 := k8.cell 5
    have d6 := k8.cell 6
    have d7 := k8.cell 7
    have p0 := k7.cell 0
    have p1 := k7.cell 1
    have p2 := k7.cell 2
    have p3 := k7.cell 3
    have p4 := k7.cell 4
    have p5 := k7.cell 5
    have p6 := k7.cell 6
    have p7 := k7.cell 7
    go_wp2_with fail
    refine (HC0.out V5).mono ?_
    rintro e V6 ⟨rfl, la⟩
    clear d0 d1 d2 d3 d4 d5 d6 d7
    clear p0 p1 p2 p3 p4 p5 p6 p7
    replace k3 := k3.later la
    replace l0 := l0.trans la
    clear la HC0 k7 k8
    go_upto_region 8 with (fail)
    rw [HM2.out]
    obtain ⟨VT, rfl⟩ : ∃ z, z = V6 := ⟨_, rfl⟩
    have R3 : ∀ w', Lat VT w' → w'.rangeAt g3 0 [.int .u64 (s : Nat)] := fun w' hl => (k3.later hl).rangeAll
    have J24 : (Tryz.prog.info? 24).map (·.size) = some 1 := by kernel_rfl
    rename_i KN hKN
    refine wp_region_mem (cv8_rows s m dt om bv g3) (cv8_base s m dt om bv g3) cv8_mem 103 13 [[], [], [1], [0, 2, 2], [3], [4], [4], [4], [], [], [8, 5, 3, 0, 1, 2, 3, 4, 5, 8, 9], [9, 6, 10, 0, 1, 2, 3, 4, 5, 6, 8, 9, 10], [7, 11, 0, 1, 2, 3, 4, 5, 6, 7, 8, 9, 10, 11]] (by kernel_rfl) (by kernel_rfl) (by kernel_rfl) (by kernel_rfl) (by kernel_rfl) (by kernel_rfl) (by kernel_rfl) (by rfl) rfl ?_ (cv8_pure s m dt om bv g3) (cv8_allm s m dt om bv g3) (cv8_steps VT s m dt om bv g3 R3 J24 HO.out HWB.out) ?_
    ·
      exact base_of (base_cons (by rfl) (base_cons (by rfl) (base_nil _)))
    · intro a9 W9 hsz9 hdf9 hL9 hbs hsl hmm
      obtain ⟨g12, c12, s12, n12, b12, p12, far12⟩ := hmm 0 _ rfl
      obtain ⟨g13, c13, s13, n13, b13, p13, far13⟩ := hmm 1 _ rfl
      obtain ⟨v9, h9, q9⟩ := hsl 5 _ _ rfl rfl
      obtain rfl : v9 = .agg #[.int .u64 bv.a0, .int .u64 bv.a1, .int .u64 bv.a2, .int .u64 bv.a3, .int .u64 bv.a4, .int .u64 bv.a5, .int .u64 bv.a6, .int .u64 bv.a7] := q9
      obtain rfl := slot_agg p12 h9
      clear h9
      obtain ⟨v9, h9, q9⟩ := hsl 6 _ _ rfl rfl
      obtain rfl : v9 = .agg #[.int .u64 (dt : Nat)] := q9
      obtain rfl := slot_agg p13 h9
      clear h9
      have e12_13 : g12 ≠ g13 := far12 1 _ _ (by decide) rfl s13
      obtain ⟨v9, h9, q9⟩ := hsl 12 _ _ rfl rfl
      obtain rfl : v9 = .int .i64 0 := q9
      have w14 := slot_getD h9
      clear h9
      have w12 := slot_getD s12
      have w13 := slot_getD s13
      refine hKN _ _ ?_
      obtain ⟨T9, df9⟩ := a9
      obtain rfl : df9 = [] := hdf9
      obtain ⟨f, hf, rfl⟩ := spell103 T9 hsz9
      have x3 : f 3 = .pointer (some ⟨g3, 0, none⟩) := (hf 3).trans (slot_getD (hbs 3 _ rfl))
      have x11 : f 11 = .int .i64 (m : Nat) := (hf 11).trans (slot_getD (hbs 11 _ rfl))
      have x14 : f 14 = .int .i64 0 := (hf 14).trans w14
      have x12 : f 12 = .pointer (some ⟨g12, 0, none⟩) := (hf 12).trans w12
      have x13 : f 13 = .pointer (some ⟨g13, 0, none⟩) := (hf 13).trans w13
      clear hbs hsl hmm hf hsz9 hKN s12 p12 far12 s13 p13 far13 w14 w12 w13
      simp only [x3, x11, x14, x12, x13]
      clear x3 x11 x14 x12 x13
      replace k3 := k3.later hL9
      replace l0 := l0.trans hL9
      clear hL9 e12_13 n12 n13 R3 J24
      have c3 : W9.cell? ⟨g3, 0, none⟩ = some (.int .u64 (s : Int)) := k3.cell 0
      go_wp2_with fail
      refine (HN.out W9).mono ?_
      rintro e Y1 ⟨rfl, la⟩
      clear c3
      replace k3 := k3.later la
      replace b12 := b12.later la
      replace b13 := b13.later la
      replace l0 := l0.trans la
      clear la
      go_upto_region 10 with (fail)
      refine name1 (Q := fun W => Code.wp _ _ _ _ W) ?_
      intro Y2 la hs6 k16
      obtain ⟨g16, hg16⟩ : ∃ z, Y1.heap.size = z := ⟨_, rfl⟩
      rw [hg16] at k16 ⊢
      replace k3 := k3.later la
      replace b12 := b12.later la
      replace b13 := b13.later la
      replace l0 := l0.trans la
      clear la hs6 hg16
      have d0 := b12.cell 0
      have d1 := b12.cell 1
      have d2 := b12.cell 2
      have d3 := b12.cell 3
      have d4 := b12.cell 4
      have d5 := b12.cell 5
      have d6 := b12.cell 6
      have d7 := b12.cell 7
      rcases HX.out with ⟨rfl, HE1, HE2⟩ | ⟨hm1, hm0, HI, hmU, hq1, hq2, hq3, hcv, HE3⟩
      · have c3 : Y2.cell? ⟨g3, 0, none⟩ = some (.int .u64 (s : Int)) := k3.cell 0
        have c13 : Y2.cell? ⟨g13, 0, none⟩ = some (.int .u64 (dt : Int)) := b13.cell 0
        clear HX HO HWB HN HM2
        go_wp2
        go_ret
        exact ⟨rfl, l0⟩
      · clear HX HO HWB HN HM2
        go_wp2_with fail
        refine (HI Y2).mono ?_
        rintro e Y3 ⟨rfl, la⟩
        clear d0 d1 d2 d3 d4 d5 d6 d7
        replace b13 := b13.later la
        replace k16 := k16.later la
        replace l0 := l0.trans la
        clear la HI b12 k3
        have c13 : Y3.cell? ⟨g13, 0, none⟩ = some (.int .u64 (dt : Int)) := b13.cell 0
        have c16 : Y3.cell? ⟨g16, 0, none⟩ = some (.int .u64 (st : Int)) := k16.cell 0
        go_wp2
        go_ret
        exact ⟨rfl, l0⟩
end Go.Proofs.YtogkkhaepfablaaGreat

/- The row's last step where the world behind the call is later ('Lat'): what was there is as it was. -/
namespace Go.Proofs.YtogkkhaepfablaaGreat
open Go.ChangeShapes Go.WideShapes Go.ChangeAt Go.RowKit

section
variable {H : Type} {enc : TypeId × Value → H} {P : Program}
/-- The post of a row of a law without variables, whose call hands back results and leaves its arguments reading as before. -/
theorem post_later {f : Func} {s : ChangeSpec} {apart fresh handsOn again : Bool} {W W' : World} {args : Array Value} {v : Value} {ds gs : List (DataW H)} {before pa pv : List MemPlace}
    (hW : DataW.Whole enc P f.params.toList s.vars apart W args.toList ds gs before) (hps : before = pa ++ pv) (hb : Lat W W')
    (hres : ∀ (b : Nat) (sp : Nat → Bool) (hd : Bool), DataW.TrodAll enc P W' b sp hd f.resultTypes.toList (v.resultList f.resultTypes.size) (s.fn H (ds ++ gs)).results [])
    (hargs : ∀ sp : Nat → Bool, (∀ p ∈ before, sp p.block = true) → DataW.TrodAll enc P W' 0 sp true f.params.toList args.toList (s.fn H (ds ++ gs)).args pa)
    (hvars : ∀ sp : Nat → Bool, (∀ p ∈ before, sp p.block = true) → DataW.TrodVars enc P W' sp s.vars (s.fn H (ds ++ gs)).vars pv)
    (hok : ∀ (j : Nat) (t : TypeId) (r : Value), f.resultTypes[j]? = some t → (v.resultList f.resultTypes.size)[j]? = some r → Value.okWide P W' .any 0 t r) :
    s.post enc P f apart fresh handsOn again W args v W' := by
  have hB : Below W.heap.size W W' := hb
  have hlt := fun p hp => hW.lt p hp
  have hsp : ∀ p ∈ before, decide (p.block < W.heap.size) = true := fun p hp => decide_eq_true (hlt p hp)
  obtain ⟨h1, h2, h3, h4, h5, hz, hn⟩ := id hW
  have hno : ∀ b off, MemPlace.cell b off ∈ pa ++ pv → W'.frozen? ⟨b, off, none⟩ = false := fun b off hp => by
    have hin : MemPlace.cell b off ∈ before := hps ▸ hp
    rw [hB.frozen (hlt _ hin)]
    exact hz b off hin
  refine ⟨ds, gs, before, [], pa, pv, hW, hres _ _ _, hargs (fun b => decide (b < W.heap.size)) hsp, hvars (fun b => decide (b < W.heap.size)) hsp, World.keptBut_mono (fun p hp => ⟨hp, ?_⟩) (hB.frame (· ∈ before)), fun _ => ⟨hok, (s.fn H (ds ++ gs)).results ++ (s.fn H (ds ++ gs)).args, (s.fn H (ds ++ gs)).vars, pa ++ pv, ⟨pa, pv, ?_, hvars (fun _ => true) (fun _ _ => rfl), rfl, hno, ?_⟩, ?_⟩⟩
  · rw [hps] at hp
    exact .inr (List.mem_append.1 hp)
  · have := trodAll_append (hargs (fun _ => true) (fun _ _ => rfl)) (hres 0 (fun _ => true) true)
    simpa using this
  · intro ha
    have := hn ha
    rwa [hps] at this
  · intro p hp _
    rwa [hps]
end
end Go.Proofs.YtogkkhaepfablaaGreat

/- The frame of a law without variables that answers true and writes nothing that came in: the row's last step, whatever the arguments' types; slices and drafts opened. -/
namespace Go.Proofs.YtogkkhaepfablaaGreat
open Go.ChangeShapes Go.WideShapes Go.ChangeAt Go.RowKit

theorem kidsA : Kids Tryz.prog (· < Tryz.prog.types.size) := kids_rows (by kernel_rfl) (by kernel_rfl)
theorem fullA : ∀ t e, t < Tryz.prog.types.size → Tryz.prog.underlying t = some (.slice e) → 0 < Tryz.prog.cellsOf e := slices_full_of Tryz.prog (by kernel_rfl)

section
variable {H : Type} {enc : TypeId × Value → H} {P : Program} {T : TypeId → Prop} {w w' : World} {base : Nat} {spare : Nat → Bool} {held : Bool}
theorem trodAll_carry : ∀ {ts : List TypeId} {vs : List Value} {ds : List (DataW H)} {ps : List MemPlace}, DataW.TrodAll enc P w base spare held ts vs ds ps → (∀ p ∈ ps, w.sameAt w' p) → DataW.TrodAll enc P w' base spare held ts vs ds ps
  | [], [], [], _, h, _ => h
  | _ :: _, _ :: _, _ :: _, _, ⟨p, q, ⟨n, h1⟩, h2, e⟩, hs =>
    ⟨p, q, ⟨n, DataW.trod_carry n _ _ _ h1 (fun x hx => hs x (by rw [e]; exact List.mem_append_left _ hx))⟩, trodAll_carry h2 (fun x hx => hs x (by rw [e]; exact List.mem_append_right _ hx)), e⟩
theorem sameAt_later {W W' : World} (hl : Lat W W') : ∀ p : MemPlace, p.block < W.heap.size → W.sameAt W' p
  | .cell b off, h => World.cell?_of_block (a := ⟨b, off, none⟩) (Below.block hl b h)
  | .map b, h => Below.block hl b h

/-- The row's last step of a law that answers true. -/
theorem post_true (K : Kids P T) (hz : ∀ t e, T t → P.underlying t = some (.slice e) → 0 < P.cellsOf e) {f : Func} {s : ChangeSpec} {apart fresh handsOn again : Bool} {W W' : World} {args : Array Value} {ds gs : List (DataW H)} {before ps : List MemPlace} {tb : TypeId}
    (hT : ∀ t ∈ f.params.toList, T t) (hA : DataW.TrodAll enc P W 0 (fun _ => true) true f.params.toList args.toList ds ps) (hpb : before = ps)
    (hW : DataW.Whole enc P f.params.toList s.vars apart W args.toList ds gs before) (hl : Lat W W') (hv : s.vars = [])
    (hr : (s.fn H (ds ++ gs)).results = [.lit (.bool true)]) (ha : (s.fn H (ds ++ gs)).args = ds) (hx : (s.fn H (ds ++ gs)).vars = []) (ht : f.resultTypes = #[tb]) (hb : P.underlying tb = some .bool) :
    s.post enc P f apart fresh handsOn again W args (.bool true) W' := by
  subst hpb
  have hlt := hA.lt
  refine post_later (pa := before) (pv := []) hW (by simp) hl (fun b sp hd => ?_) (fun sp hsp => ?_) (fun sp _ => ?_) ?_
  · rw [hr, ht]
    exact trodAll_cons_mk (shut_bool hb true) trodAll_mk0
  · rw [ha]
    exact trodAll_carry (DataW.TrodAll.respare K hz hT hA hsp) (fun p hp => sameAt_later hl p (hlt p hp))
  · rw [hx, hv]
    rfl
  · exact ok_one ht rfl (okWide_bool_mk hb true)

/-- A slice of numbers that came in. -/
theorem open_slT {t e : TypeId} {k : IntKind} {fuel : Nat} {c : Value} {x : DataW H × List MemPlace} (ht : P.underlying t = some (.slice e)) (he : P.underlying e = some (.int k)) (hc : P.cellsOf e = 1)
    (hf : DataW.trod enc P w base spare held fuel t [c] = some x) :
    ∃ A n c' xs, c = .slice A n c' ∧ Sl w k A n xs ∧ n ≤ c' ∧ n ≤ 9223372036854775807 ∧ ∀ x ∈ xs, (Lit.int k x).wf = true := by
  rcases open_ints ht he hc hf with ⟨h1, _⟩ | ⟨a, len, cap, zs, h1, _, hlc, hcm, hz, _, hcell, hw⟩
  · simp only [List.cons.injEq, and_true] at h1
    subst h1
    exact ⟨none, 0, 0, [], rfl, Sl.nil _ _ _, Nat.le_refl _, by omega, fun x hx => by cases hx⟩
  · simp only [List.cons.injEq, and_true] at h1
    subst h1
    have hlz : len ≤ zs.length := by rw [hz]; split <;> omega
    refine ⟨some a, len, cap, zs.take len, rfl, ⟨by rw [List.length_take]; omega, fun hn => ⟨a, rfl, ?_, fun i x hx => ?_⟩⟩, hlc, by unfold maxLen at hcm; omega, fun x hx => hw x (List.mem_of_mem_take hx)⟩
    · have := World.block_lt_of_cell? _ _ (hcell 0 (by omega))
      rwa [block_add] at this
    · have hi : i < len := by
        have := (List.getElem?_eq_some_iff.1 hx).1
        rw [List.length_take] at this
        omega
      rw [hcell i (by omega)]
      rw [List.getElem?_take_of_lt hi] at hx
      rw [List.getD, hx]
      rfl
theorem open_sl {r : Reach} {b0 : Nat} {t e : TypeId} {k : IntKind} {v : Value} {d : DataW H} {ps : List MemPlace} (ht : P.underlying t = some (.slice e)) (he : P.underlying e = some (.int k)) (hc : P.cellsOf e = 1)
    (hval : Value.okWide P w r b0 t v) (h : DataW.Trod enc P w base spare held t v d ps) :
    ∃ A n c xs, v = .slice A n c ∧ Sl w k A n xs ∧ n ≤ c ∧ n ≤ 9223372036854775807 ∧ ∀ x ∈ xs, (Lit.int k x).wf = true := by
  obtain ⟨a0, len0, cap0, rfl⟩ := okWide_slice ht hval
  obtain ⟨fuel, hf⟩ := h
  exact open_slT ht he hc hf
end
end Go.Proofs.YtogkkhaepfablaaGreat

/- The frame: a state of chance that came in. -/
namespace Go.Proofs.YtogkkhaepfablaaGreat
open Go.ChangeShapes Go.WideShapes Go.ChangeAt Go.RowKit

theorem chanceCells : Tryz.prog.cellsOf 24 = 1 := by kernel_rfl
theorem cellU64 : Tryz.prog.cellsOf 22 = 1 := by kernel_rfl
theorem list_one {α : Type} (l : List α) (h : (⟨l⟩ : Array α).size = 1) : ∃ a, l = [a] := by
  match l, h with
  | [a], _ => exact ⟨a, rfl⟩
set_option maxRecDepth 100000 in
theorem open_chance {H : Type} {enc : TypeId × Value → H} {w : World} {base : Nat} {spare : Nat → Bool} {held : Bool} {r : Reach} {b0 : Nat} {v : Value} {d : DataW H} {ps : List MemPlace}
    (hval : Value.okWide Tryz.prog w r b0 24 v) (h : DataW.Trod enc Tryz.prog w base spare held 24 v d ps) : ∃ s : Int, v = .agg #[.int .u64 s] ∧ (Lit.int .u64 s).wf = true := by
  obtain ⟨cs, rfl, hsz⟩ := okWide_struct Tryz.underlying24 hval
  rw [chanceCells] at hsz
  obtain ⟨l⟩ := cs
  obtain ⟨c0, rfl⟩ := list_one l hsz
  obtain ⟨fuel, hf⟩ := h
  obtain ⟨y0, n, _, _, h0⟩ := trod_struct1 Tryz.underlying24 hf
  simp only [cellU64, Value.cells] at h0
  obtain ⟨s, e0, _, w0⟩ := DataW.trod_int Tryz.underlying22 h0
  simp at e0
  subst e0
  exact ⟨s, rfl, w0⟩
theorem wf_u64' {a : Int} (h : (Lit.int .u64 a).wf = true) : 0 ≤ a ∧ a < 18446744073709551616 := by
  have e1 : IntKind.u64.min = 0 := by decide
  have e2 : IntKind.u64.max = 18446744073709551615 := by decide
  simp [Lit.wf, e1, e2] at h
  omega
end Go.Proofs.YtogkkhaepfablaaGreat

/- Chance: the law of wide numbers, joined; drafts of shares that came in. -/
namespace Go.Proofs.YtogkkhaepfablaaGreat
open Go.ChangeShapes Go.WideShapes Go.ChangeAt Go.RowKit Go.Joins

theorem wf_u8d {a : Int} (h : (Lit.int .u8 a).wf = true) : 0 ≤ a ∧ a < 256 := by
  have e1 : IntKind.u8.min = 0 := by decide
  have e2 : IntKind.u8.max = 255 := by decide
  simp [Lit.wf, e1, e2] at h
  omega
theorem wf_u16d {x : Int} (h : (Lit.int .u16 x).wf = true) : 0 ≤ x ∧ x ≤ 65535 := by
  have e3 : IntKind.u16.min = 0 := by decide
  have e4 : IntKind.u16.max = 65535 := by decide
  simp [Lit.wf, e3, e4] at h
  omega
theorem wf_u32d {a : Int} (h : (Lit.int .u32 a).wf = true) : 0 ≤ a ∧ a < 4294967296 := by
  have e1 : IntKind.u32.min = 0 := by decide
  have e2 : IntKind.u32.max = 4294967295 := by decide
  simp [Lit.wf, e1, e2] at h
  omega
theorem cellsD1 : Tryz.prog.cellsOf 30 = 3 := by kernel_rfl
theorem cellsD2 : Tryz.prog.cellsOf 44 = 6 := by kernel_rfl
theorem cellsB : Tryz.prog.cellsOf 4 = 1 := by kernel_rfl
theorem cellsS16 : Tryz.prog.cellsOf 27 = 1 := by kernel_rfl
theorem cells16d : Tryz.prog.cellsOf 46 = 1 := by kernel_rfl
theorem cells32d : Tryz.prog.cellsOf 28 = 1 := by kernel_rfl
theorem list_six {α : Type} (l : List α) (h : (⟨l⟩ : Array α).size = 6) : ∃ a b c d e f, l = [a, b, c, d, e, f] := by
  match l, h with
  | [a, b, c, d, e, f], _ => exact ⟨a, b, c, d, e, f, rfl⟩
theorem list_three {α : Type} (l : List α) (h : (⟨l⟩ : Array α).size = 3) : ∃ a b c, l = [a, b, c] := by
  match l, h with
  | [a, b, c], _ => exact ⟨a, b, c, rfl⟩
set_option maxRecDepth 100000 in
theorem trod_d1 {H : Type} {enc : TypeId × Value → H} {w : World} {base : Nat} {spare : Nat → Bool} {held : Bool} {fuel : Nat} {c0 c1 c2 : Value} {x : DataW H × List MemPlace}
    (h : DataW.trod enc Tryz.prog w base spare held fuel 30 [c0, c1, c2] = some x) : ∃ b A n c l, c0 = .bool b ∧ c1 = .slice A n c ∧ c2 = .int .u32 l ∧ DrIn w A n l := by
  obtain ⟨y0, y1, y2, n, _, _, h0, h1, h2⟩ := Go.Deep.trod_struct3 Tryz.underlying30 h
  simp only [cellsB, cellsS16, cells32d] at h0 h1 h2
  obtain ⟨b, e0, _⟩ := DataW.trod_bool Tryz.underlying4 h0
  obtain ⟨A, m, c, xs, e1, sl, _, _, wl⟩ := open_slT Tryz.underlying27 Tryz.underlying46 cells16d h1
  obtain ⟨l, e2, _, w2⟩ := DataW.trod_int Tryz.underlying28 h2
  simp at e0 e2
  exact ⟨b, A, m, c, l, e0, e1, e2, wf_u32d w2, xs, sl, fun x hx => wf_u16d (wl x hx)⟩
set_option maxRecDepth 100000 in
theorem open_draft2 {H : Type} {enc : TypeId × Value → H} {w : World} {base : Nat} {spare : Nat → Bool} {held : Bool} {r : Reach} {b0 : Nat} {v : Value} {d : DataW H} {ps : List MemPlace}
    (hval : Value.okWide Tryz.prog w r b0 44 v) (h : DataW.Trod enc Tryz.prog w base spare held 44 v d ps) :
    ∃ b1 A1 n1 c1 l1 b2 A2 n2 c2 l2, v = .agg #[.bool b1, .slice A1 n1 c1, .int .u32 l1, .bool b2, .slice A2 n2 c2, .int .u32 l2] ∧ DrIn w A1 n1 l1 ∧ DrIn w A2 n2 l2 := by
  obtain ⟨cs, rfl, hsz⟩ := okWide_struct Tryz.underlying44 hval
  rw [cellsD2] at hsz
  obtain ⟨l⟩ := cs
  obtain ⟨a, b, c, d, e, f, rfl⟩ := list_six l hsz
  obtain ⟨fuel, hf⟩ := h
  obtain ⟨y0, y1, n, _, _, h0, h1⟩ := trod_struct2 Tryz.underlying44 hf
  simp only [cellsD1, Value.cells] at h0 h1
  obtain ⟨b1, A1, n1, c1, l1, rfl, rfl, rfl, d1⟩ := trod_d1 h0
  obtain ⟨b2, A2, n2, c2, l2, rfl, rfl, rfl, d2⟩ := trod_d1 h1
  exact ⟨b1, A1, n1, c1, l1, b2, A2, n2, c2, l2, rfl, d1, d2⟩

theorem chance_same (t : Nat) (ht : t < 18446744073709551616) (w : World) : (Op.equalIn 10000 24 (.agg #[.int .u64 (t : Nat)]) (.agg #[.int .u64 (t : Nat)])).run Tryz.prog w = .ok true w := by
  have h := chance_in (s := (t : Int)) (t := (t : Int)) ⟨by omega, by unfold W64; omega⟩ ⟨by omega, by unfold W64; omega⟩ w
  rwa [decide_eq_true rfl] at h
theorem pow_nat {j : Nat} (hj : j ≤ 62) : ∃ m : Nat, (2 : Int) ^ j = (m : Int) ∧ 1 ≤ m ∧ m ≤ 4611686018427387904 ∧ (1 ≤ j → 2 ≤ m) ∧ (2 : Nat) ^ j = m ∧ wrap64 (2 ^ min j 64) = (m : Int) ∧ IntKind.u64.wrap (m : Int) = (m : Int) := by
  have h1 : (2 : Nat) ^ j ≤ 2 ^ 62 := Nat.pow_le_pow_right (by decide) hj
  have h2 : (2 : Nat) ^ 62 = 4611686018427387904 := by decide
  have h3 := Nat.two_pow_pos j
  have h4 : ((2 ^ j : Nat) : Int) = (2 : Int) ^ j := by simp
  have h5 : 1 ≤ j → 2 ≤ (2 : Nat) ^ j := fun h => Nat.le_trans (by decide : 2 ≤ 2 ^ 1) (Nat.pow_le_pow_right (by decide) h)
  have h6 : min j 64 = j := by omega
  rw [h2] at h1
  rw [h6, ← h4]
  obtain ⟨m, hm⟩ : ∃ m, (2 : Nat) ^ j = m := ⟨_, rfl⟩
  rw [hm] at h1 h3 h5 ⊢
  exact ⟨m, rfl, h3, h1, h5, rfl, IntWalk.wrap64_in _ (by omega), by rw [IntKind.wrap_u64]; omega⟩
theorem mod_facts {y m : Nat} (h1 : 1 ≤ m) (h2 : m ≤ 4611686018427387904) : ((y % m : Nat) : Int) < 9223372036854775808 ∧ IntKind.u64.wrap ((y % m : Nat) : Int) = ((y % m : Nat) : Int) ∧ IntKind.i64.wrap ((y % m : Nat) : Int) = ((y % m : Nat) : Int) := by
  have := Nat.mod_lt y h1
  obtain ⟨q, hq⟩ : ∃ q, y % m = q := ⟨_, rfl⟩
  rw [hq] at this ⊢
  exact ⟨by omega, by rw [IntKind.wrap_u64]; omega, by rw [IntWalk.i64_left]; exact IntWalk.wrap64_in _ (by omega)⟩
theorem u8_keep {j : Nat} (h : j ≤ 62) : IntKind.u8.wrap ((j : Nat) : Int) = ((j : Nat) : Int) := by
  have : IntKind.u8.wrap ((j : Nat) : Int) = ((j : Nat) : Int) % 256 := rfl
  rw [this]; omega
theorem rem63 (k : Nat) : ∃ j : Nat, ((k : Nat) : Int).tmod 63 = ((j : Nat) : Int) ∧ j ≤ 62 := ⟨k % 63, rfl, by omega⟩
theorem cv_one (s : Nat) (hs : s < 18446744073709551616) (w : World) : Calls Tryz.prog 13 #[.agg #[.int .u64 (s : Nat)], .agg #[.int .u64 (W8.of 1).a0, .int .u64 (W8.of 1).a1, .int .u64 (W8.of 1).a2, .int .u64 (W8.of 1).a3, .int .u64 (W8.of 1).a4, .int .u64 (W8.of 1).a5, .int .u64 (W8.of 1).a6, .int .u64 (W8.of 1).a7]] w (fun e w' => e = .returned (.tuple #[.agg #[.int .u64 (W8.of 0).a0, .int .u64 (W8.of 0).a1, .int .u64 (W8.of 0).a2, .int .u64 (W8.of 0).a3, .int .u64 (W8.of 0).a4, .int .u64 (W8.of 0).a5, .int .u64 (W8.of 0).a6, .int .u64 (W8.of 0).a7], .agg #[.int .u64 (s : Nat)], .int .i64 0]) ∧ Lat w w') := by
  have h := cWide_any s hs (W8.of 1) (W8.of_ok _) w
  obtain ⟨e1, e2, e3⟩ := wid_one s
  rw [W8.of_toInt (z := 1) (by decide) (by decide), e1, e2, e3] at h
  exact h
theorem cv_pow (s : Nat) (hs : s < 18446744073709551616) {j m : Nat} (hj : 1 ≤ j) (hj2 : j ≤ 62) (hm : (2 : Int) ^ j = (m : Int)) (hm2 : (2 : Nat) ^ j = m) (hm3 : m ≤ 4611686018427387904) (w : World) :
    Calls Tryz.prog 13 #[.agg #[.int .u64 (s : Nat)], .agg #[.int .u64 (W8.of (m : Int)).a0, .int .u64 (W8.of (m : Int)).a1, .int .u64 (W8.of (m : Int)).a2, .int .u64 (W8.of (m : Int)).a3, .int .u64 (W8.of (m : Int)).a4, .int .u64 (W8.of (m : Int)).a5, .int .u64 (W8.of (m : Int)).a6, .int .u64 (W8.of (m : Int)).a7]] w (fun e w' => e = .returned (.tuple #[.agg #[.int .u64 (W8.of ((chMix (chStep s) % m : Nat) : Int)).a0, .int .u64 (W8.of ((chMix (chStep s) % m : Nat) : Int)).a1, .int .u64 (W8.of ((chMix (chStep s) % m : Nat) : Int)).a2, .int .u64 (W8.of ((chMix (chStep s) % m : Nat) : Int)).a3, .int .u64 (W8.of ((chMix (chStep s) % m : Nat) : Int)).a4, .int .u64 (W8.of ((chMix (chStep s) % m : Nat) : Int)).a5, .int .u64 (W8.of ((chMix (chStep s) % m : Nat) : Int)).a6, .int .u64 (W8.of ((chMix (chStep s) % m : Nat) : Int)).a7], .agg #[.int .u64 (chStep s : Nat)], .int .i64 0]) ∧ Lat w w') := by
  have h := cWide_any s hs (W8.of (m : Int)) (W8.of_ok _) w
  obtain ⟨e1, e2, e3⟩ := wid_pow (s := s) hj (by omega)
  have hp : (9223372036854775808 : Int) ≤ P511 := by decide
  have hp2 := P511_pos
  rw [hm, hm2] at e1
  rw [hm] at e2 e3
  rw [W8.of_toInt (z := (m : Int)) (by omega) (by omega), e1, e2, e3] at h
  exact h
theorem cv_zero (w : World) : (Op.equalIn 10000 26 (.agg #[.int .u64 (W8.of 0).a0, .int .u64 (W8.of 0).a1, .int .u64 (W8.of 0).a2, .int .u64 (W8.of 0).a3, .int .u64 (W8.of 0).a4, .int .u64 (W8.of 0).a5, .int .u64 (W8.of 0).a6, .int .u64 (W8.of 0).a7]) (.agg #[.int .u64 0, .int .u64 0, .int .u64 0, .int .u64 0, .int .u64 0, .int .u64 0, .int .u64 0, .int .u64 0])).run Tryz.prog w = .ok true w := by
  have := wide_zeroI (W8.of_ok 0) w
  rwa [W8.of_toInt (z := 0) (by decide) (by decide), decide_eq_true rfl] at this
theorem cWides_any (s k : Int) (b1 b2 : Bool) (A1 A2 : Option Addr) (n1 c1 n2 c2 : Nat) (l1 l2 : Int) (w : World) (h0 : 0 ≤ s ∧ s < 18446744073709551616) (h1 : DrIn w A1 n1 l1) (h2 : DrIn w A2 n2 l2) (h3 : 0 ≤ k ∧ k < 256) :
    Calls Tryz.prog 5 #[.agg #[.int .u64 s], .agg #[.bool b1, .slice A1 n1 c1, .int .u32 l1, .bool b2, .slice A2 n2 c2, .int .u32 l2], .int .u8 k] w (fun e w' => e = .returned (.bool true) ∧ Lat w w') := by
  obtain ⟨s, rfl⟩ := Int.eq_ofNat_of_zero_le h0.1
  obtain ⟨k, rfl⟩ := Int.eq_ofNat_of_zero_le h3.1
  have hs : s < 18446744073709551616 := Int.ofNat_lt.1 h0.2
  obtain ⟨j, hk, hj⟩ := rem63 k
  obtain ⟨m, hm, hm1, hm3, hm2, hmn, hHM, hmu⟩ := pow_nat hj
  have hN := fun w => cNext_any s hs w
  rcases Nat.eq_zero_or_pos j with h0 | h0
  · subst h0
    obtain rfl : m = 1 := by rw [← hmn]
    exact cWides_from works_any s hs b1 b2 A1 A2 n1 c1 n2 c2 l1 l2 k 0 1 s (chMix (chStep s)) (chStep s) 0 (W8.of 1) (W8.of 0) w h1 h2 hk (u8_keep hj) hHM hN (.inl ⟨rfl, cv_zero, chance_same s hs⟩)
      (fun w => of_any 1 (by decide) (by decide) w) (cv_one s hs)
  · have hm2 := hm2 h0
    obtain ⟨f1, f2, f3⟩ := mod_facts (y := chMix (chStep s)) hm1 hm3
    have g1 : (((m : Nat) : Int) == 1) = false := by rw [beq_eq_false_iff_ne]; omega
    have g2 : ¬ m = 0 := by omega
    have g3 : (m : Int) < 9223372036854775808 := by omega
    have g4 : (-9223372036854775808 : Int) ≤ (m : Int) := by omega
    exact cWides_from works_any s hs b1 b2 A1 A2 n1 c1 n2 c2 l1 l2 k j m (chStep s) (chMix (chStep s)) (chStep s) (chMix (chStep s) % m) (W8.of (m : Int)) (W8.of ((chMix (chStep s) % m : Nat) : Int)) w h1 h2 hk (u8_keep hj) hHM hN
      (.inr ⟨g1, g2, fun w => wInt_fit _ (Int.natCast_nonneg _) f1 w, hmu, rfl, rfl, f2, f3, chance_same _ (chStep_lt s)⟩) (fun w => of_any _ g4 g3 w) (cv_pow s hs h0 hj hm hmn hm3)
end Go.Proofs.YtogkkhaepfablaaGreat
