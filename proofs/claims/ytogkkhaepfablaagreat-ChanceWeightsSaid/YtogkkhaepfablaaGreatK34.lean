/- Several texts in one: Frac, RgD, DwA, DwF, Lv, DwW, DrI, Win, Off. -/
import Derived.Test.YtogkkhaepfablaaGreatJ13
import Derived.Test.YtogkkhaepfablaaGreatJ19
import Derived.Test.YtogkkhaepfablaaGreatK02
import Derived.Deep.DeepCutAuto
import Derived.Test.YtogkkhaepfablaaGreatJ22
import Derived.Test.YtogkkhaepfablaaGreatK04
import Derived.Test.YtogkkhaepfablaaGreatJ18
import Derived.Test.YtogkkhaepfablaaGreatJ23
import Derived.Test.YtogkkhaepfablaaGreatK29

/- Fractions in lowest terms, and the shares that hold them; no program is in sight. -/
namespace Go.Proofs.YtogkkhaepfablaaGreat
open Go.RowKit

theorem low_pos {x y : Int} (hy : 0 < y) : lowN x y = x / Int.gcd x y ∧ lowD x y = y / Int.gcd x y := by
  rw [lowN, lowD, if_neg (by omega), if_neg (by omega)]; exact ⟨rfl, rfl⟩
theorem gcd_pos' {x y : Int} (hy : 0 < y) : (0 : Int) < Int.gcd x y := by
  have := Int.gcd_pos_of_ne_zero_right x (show y ≠ 0 by omega)
  omega
theorem low_mul {x y : Int} (hy : 0 < y) : lowN x y * Int.gcd x y = x ∧ lowD x y * Int.gcd x y = y := by
  obtain ⟨h1, h2⟩ := low_pos (x := x) hy
  rw [h1, h2]
  exact ⟨Int.ediv_mul_cancel (Int.gcd_dvd_left ..), Int.ediv_mul_cancel (Int.gcd_dvd_right ..)⟩
theorem lowD_pos {x y : Int} (hy : 0 < y) : 0 < lowD x y := by
  have h := (low_mul (x := x) hy).2
  have hg := gcd_pos' (x := x) hy
  rcases Int.lt_or_le 0 (lowD x y) with h1 | h1
  · exact h1
  · have := Int.mul_le_mul_of_nonneg_right h1 (Int.le_of_lt hg)
    omega
theorem low_ok {x y : Int} (hy : 0 < y) : ShOk (lowN x y) (lowD x y) := by
  refine ⟨lowD_pos hy, ?_⟩
  obtain ⟨h1, h2⟩ := low_pos (x := x) hy
  rw [h1, h2]
  exact Int.gcd_ediv_gcd_ediv_gcd (by have := gcd_pos' (x := x) hy; omega)
theorem low_cross {x y : Int} (hy : 0 < y) : lowN x y * y = x * lowD x y := by
  obtain ⟨h1, h2⟩ := low_mul (x := x) hy
  have e : lowN x y * y = lowN x y * (lowD x y * Int.gcd x y) := by rw [h2]
  have e' : x * lowD x y = lowN x y * Int.gcd x y * lowD x y := by rw [h1]
  rw [e, e']
  grind
theorem cop_dvd {a b c : Int} (h : Int.gcd a b = 1) (hd : a ∣ b * c) : a ∣ c := by
  have h1 : a.natAbs ∣ b.natAbs * c.natAbs := by rw [← Int.natAbs_mul]; exact Int.natAbs_dvd_natAbs.2 hd
  exact Int.natAbs_dvd_natAbs.1 (Nat.Coprime.dvd_of_dvd_mul_left h h1)
theorem frac_unique {n1 d1 n2 d2 : Int} (h1 : ShOk n1 d1) (h2 : ShOk n2 d2) (h : n1 * d2 = n2 * d1) : n1 = n2 ∧ d1 = d2 := by
  have e1 : d1 ∣ d2 := by
    refine cop_dvd (b := n1) (by rw [Int.gcd_comm]; exact h1.2) ?_
    rw [h]; exact Int.dvd_mul_left ..
  have e2 : d2 ∣ d1 := by
    refine cop_dvd (b := n2) (by rw [Int.gcd_comm]; exact h2.2) ?_
    rw [← h]; exact Int.dvd_mul_left ..
  have e : d1 = d2 := Int.dvd_antisymm (Int.le_of_lt h1.1) (Int.le_of_lt h2.1) e1 e2
  subst e
  refine ⟨?_, rfl⟩
  exact Int.eq_of_mul_eq_mul_right (by have := h1.1; omega) h
/-- The same number, the same lowest terms. -/
theorem low_congr {a b c d : Int} (hb : 0 < b) (hd : 0 < d) (h : a * d = c * b) : lowN a b = lowN c d ∧ lowD a b = lowD c d := by
  refine frac_unique (low_ok hb) (low_ok hd) ?_
  have h1 := low_cross (x := a) hb
  have h2 := low_cross (x := c) hd
  have e : (lowN a b * lowD c d) * (b * d) = (lowN c d * lowD a b) * (b * d) := by
    have e1 : (lowN a b * lowD c d) * (b * d) = (lowN a b * b) * (lowD c d * d) := by grind
    have e2 : (lowN c d * lowD a b) * (b * d) = (lowN c d * d) * (lowD a b * b) := by grind
    rw [e1, e2, h1, h2]
    have e3 : a * lowD a b * (lowD c d * d) = (a * d) * (lowD a b * lowD c d) := by grind
    have e4 : c * lowD c d * (lowD a b * b) = (c * b) * (lowD a b * lowD c d) := by grind
    rw [e3, e4, h]
  exact Int.eq_of_mul_eq_mul_right (by have := Int.mul_pos hb hd; omega) e
theorem low_abs {x y : Int} (hy : 0 < y) : (lowN x y).natAbs ≤ x.natAbs ∧ lowD x y ≤ y := by
  obtain ⟨h1, h2⟩ := low_mul (x := x) hy
  have hg := gcd_pos' (x := x) hy
  constructor
  · have : x.natAbs = (lowN x y).natAbs * (Int.gcd x y) := by
      conv => lhs; rw [← h1]
      rw [Int.natAbs_mul]; simp
    rw [this]
    exact Nat.le_mul_of_pos_right _ (by omega)
  · have := Int.mul_le_mul_of_nonneg_left (show (1 : Int) ≤ Int.gcd x y by omega) (Int.le_of_lt (lowD_pos (x := x) hy))
    omega
/-- The sign of a difference of fractions. -/
theorem side_scale {a k : Int} (hk : 0 < k) : sideOf (a * k) = sideOf a := by
  unfold sideOf
  rcases Int.lt_trichotomy a 0 with h | h | h
  · rw [if_pos h, if_pos (Int.mul_neg_of_neg_of_pos h hk)]
  · subst h; simp
  · have := Int.mul_pos h hk
    rw [if_neg (by omega), if_neg (by omega), if_neg (by omega), if_neg (by omega)]
theorem side_low {a b c d : Int} (hb : 0 < b) (hd : 0 < d) : sideOf (lowN a b * lowD c d - lowN c d * lowD a b) = sideOf (a * d - c * b) := by
  obtain ⟨h1, h2⟩ := low_mul (x := a) hb
  obtain ⟨h3, h4⟩ := low_mul (x := c) hd
  have hg := gcd_pos' (x := a) hb
  have hg' := gcd_pos' (x := c) hd
  have e : a * d - c * b = (lowN a b * lowD c d - lowN c d * lowD a b) * ((Int.gcd a b : Int) * (Int.gcd c d : Int)) := by
    generalize lowN a b = p at *
    generalize lowD a b = q at *
    generalize lowN c d = r at *
    generalize lowD c d = s at *
    generalize (Int.gcd a b : Int) = g at *
    generalize (Int.gcd c d : Int) = k at *
    rw [← h1, ← h2, ← h3, ← h4]
    grind
  rw [e, side_scale (Int.mul_pos hg hg')]

/-- The share of N / D. -/
def ShV (u v : W8) (N D : Int) : Prop := u = W8.of (lowN N D) ∧ v = W8.of (lowD N D)
/-- A fraction that is not too great. -/
def Fits (N D : Int) : Prop := 0 < D ∧ -P511 < N ∧ N < P511 ∧ D < P511
theorem Fits.low {N D : Int} (h : Fits N D) : -P511 ≤ lowN N D ∧ lowN N D < P511 ∧ -P511 ≤ lowD N D ∧ lowD N D < P511 := by
  obtain ⟨h0, h1, h2, h3⟩ := h
  obtain ⟨a1, a2⟩ := low_abs (x := N) h0
  have := lowD_pos (x := N) h0
  have := P511_pos
  omega
theorem ShV.facts {u v : W8} {N D : Int} (h : ShV u v N D) (hf : Fits N D) : u.ok ∧ v.ok ∧ u.toInt = lowN N D ∧ v.toInt = lowD N D ∧ ShOk u.toInt v.toInt := by
  obtain ⟨rfl, rfl⟩ := h
  obtain ⟨h1, h2, h3, h4⟩ := hf.low
  refine ⟨W8.of_ok _, W8.of_ok _, W8.of_toInt h1 h2, W8.of_toInt h3 h4, ?_⟩
  rw [W8.of_toInt h1 h2, W8.of_toInt h3 h4]
  exact low_ok hf.1
theorem ShV.congr {u v : W8} {a b c d : Int} (h : ShV u v a b) (hb : 0 < b) (hd : 0 < d) (he : a * d = c * b) : ShV u v c d := by
  obtain ⟨e1, e2⟩ := low_congr hb hd he
  unfold ShV at h ⊢
  rw [← e1, ← e2]
  exact h
/-- What a call leaves that returns the share of N / D, and no error. -/
def ShPost (w : World) (N D : Int) (e : Ending) (w' : World) : Prop := ∃ u v : W8, e = .returned (.tuple #[.agg #[.int .u64 u.a0, .int .u64 u.a1, .int .u64 u.a2, .int .u64 u.a3, .int .u64 u.a4, .int .u64 u.a5, .int .u64 u.a6, .int .u64 u.a7, .int .u64 v.a0, .int .u64 v.a1, .int .u64 v.a2, .int .u64 v.a3, .int .u64 v.a4, .int .u64 v.a5, .int .u64 v.a6, .int .u64 v.a7], .int .i64 0]) ∧ ShV u v N D ∧ Lat w w'
theorem SharePost.fits {w w' : World} {N D : Int} {e : Ending} (h : SharePost w (lowN N D) (lowD N D) e w') (hf : Fits N D) : ShPost w N D e w' := by
  obtain ⟨u, v, r, rfl, hs, hl⟩ := h
  obtain ⟨h1, h2, h3, h4⟩ := hf.low
  rcases hs with ⟨_, _, _, _, e1, e2, rfl⟩ | ⟨hbig, _⟩
  · exact ⟨u, v, rfl, ⟨e1, e2⟩, hl⟩
  · exfalso; omega
theorem fits_small {N D : Int} (h0 : 0 < D) (h1 : D ≤ 9223372036854775807) (h2 : -9223372036854775808 ≤ N) (h3 : N ≤ 9223372036854775807) : Fits N D := by
  have : (9223372036854775808 : Int) < P511 := by decide
  exact ⟨h0, by omega, by omega, by omega⟩
end Go.Proofs.YtogkkhaepfablaaGreat

/- Chance: the reference's powers. -/
namespace Go.Proofs.YtogkkhaepfablaaGreat
open Go.RowKit
set_option linter.unusedSimpArgs false

theorem rg_succ (k : Nat) : Value.int .i64 ((k : Int) + 1) = .int .i64 ((k + 1 : Nat) : Int) := by simp
theorem rg_up {b k : Nat} (h : k < b) : b - (intOf (.int .i64 ((k : Int) + 1))).toNat < b - (intOf (.int .i64 (k : Int))).toNat := by
  show b - ((k : Int) + 1).toNat < b - ((k : Int)).toNat
  omega
/-- A number goes on where one block that holds no int is written. -/
theorem Rg.keepL {w W : World} {b : Bool} {A : Option Addr} {n c : Nat} {z : Int} {g : Nat} {t : TypeId} {cs : Array Value} (h : Rg w b A n c z) (hl : LatP (· = g) w W) (hb : Blk w g t cs) (hno : ∀ (j : Nat) (x : Int), cs[j]? ≠ some (.int .i64 x)) : Rg W b A n c z := by
  have ha := h.apart hb hno
  obtain ⟨hn, xs, hs, r⟩ := h
  refine ⟨hn, xs, ⟨hs.1, fun hp => ?_⟩, r⟩
  obtain ⟨a, e, hlt, hc⟩ := hs.2 hp
  refine ⟨a, e, Nat.lt_of_lt_of_le hlt hl.size, fun i x hx => ?_⟩
  have hk : W.heap[(a.add i).block]? = w.heap[(a.add i).block]? := by rw [block_add]; exact hl.block _ hlt (ha hp a e)
  exact (World.cell?_of_block hk).trans (hc i x hx)
/-- A number written over another one: the world under a name. -/
theorem name_long {w : World} {g : Nat} {t : TypeId} {b0 b' : Bool} {A0 A' : Option Addr} {n0 c0 n' c' : Nat} {Q : World → Prop} (hb : Blk w g t #[.bool b0, .slice A0 n0 c0])
    (h : ∀ W, Blk W g t #[.bool b', .slice A' n' c'] → LatP (· = g) w W → (∀ {b A n c z}, Rg w b A n c z → Rg W b A n c z) → Q W) :
    Q ((w.setCell ⟨g, 0, none⟩ (.bool b')).setCell ⟨g, 1, none⟩ (.slice A' n' c')) := by
  refine h _ ?_ ?_ ?_
  · have := (hb.set 0 (.bool b')).set 1 (.slice A' n' c')
    simpa using this
  · exact LatP.setCells [.bool b', .slice A' n' c'] w 0
  · intro b A n c z hr
    have ha := hr.apart hb (no_i64 _ _ _ _)
    exact (hr.far (p := ⟨g, 0, none⟩) ha _).far (p := ⟨g, 1, none⟩) ha _

set_option maxRecDepth 100000 in
set_option maxHeartbeats 1000000 in
theorem rRaised_any (b1 : Bool) (A1 : Option Addr) (n1 c1 : Nat) (x : Int) (k : Nat) (w : World) (h1 : Rg w b1 A1 n1 c1 x) (hn : n1 ≤ 2) (hk : k ≤ 1000) :
    Calls Tryz.prog 37 #[.agg #[.bool b1, .slice A1 n1 c1], .int .i64 k] w (RefPost w (x ^ k) (2 + 2 * k)) := by
  go_enter Tryz.func37, Tryz.ntmps37
  go_upto_region 1 with (fail)
  refine name2 (Q := fun W => Code.wp _ _ _ _ W) ?_
  intro W hl hs k2 k4
  go_wp2_with fail
  refine (rLong1_any 1 W (by decide) (by decide)).mono ?_
  rintro e w1 ⟨b, A, n, c, rfl, r1, r2, l1⟩
  replace k2 := k2.later l1
  replace k4 := k4.later l1
  have L1 := hl.trans l1
  have R1 := h1.later L1
  have h4 := k4.lt
  clear h1 hl l1 hs
  go_upto_region 2 with (fail)
  refine name1 (Q := fun W => Code.wp _ _ _ _ W) ?_
  intro w2 l2 hs2 k5
  replace k2 := k2.later l2
  replace k4 := k4.later l2
  have L2 := L1.trans l2
  have R2 := R1.later l2
  replace r1 := r1.later l2
  obtain ⟨g5, hg5⟩ : ∃ z, w1.heap.size = z := ⟨_, rfl⟩
  rw [hg5] at k5 h4 ⊢
  obtain ⟨g4, hg4⟩ : ∃ z, w.heap.size + 1 = z := ⟨_, rfl⟩
  rw [hg4] at k4 h4 ⊢
  have hw4 : w.heap.size ≤ g4 := by omega
  clear hg5 hg4 L1 R1 l2 hs2
  go_wp2_with fail
  go_loopw [6] (fun i wr => ∃ (j : Nat) (b : Bool) (A : Option Addr) (n c : Nat), i = .int .i64 j ∧ j ≤ k ∧ Rg wr b A n c (x ^ j) ∧ n ≤ 2 + 2 * j ∧ Rg wr b1 A1 n1 c1 x ∧ Blk wr w.heap.size 85 #[.bool b1, .slice A1 n1 c1] ∧ Blk wr g4 85 #[.bool false, .slice none 0 0] ∧ Blk wr g5 85 #[.bool b, .slice A n c] ∧ Lat w wr) (fun i _ => k - (intOf i).toNat)
  case atStart => exact ⟨0, b, A, n, c, rfl, by omega, by rw [Int.pow_zero]; exact r1, by omega, R2, k2, k4, k5, L2⟩
  case round =>
    clear r1 r2 k2 k4 k5 L2 R2
    obtain ⟨j, b, A, n, c, rfl, hj, r1, r2, R2, k2, k4, k5, L2⟩ := hrel
    by_cases hjk : j < k
    · have hjI : (j : Int) < (k : Int) := by omega
      have d0 := k2.cell 0
      have d1 := k2.cell 1
      have e0 := k5.cell 0
      have e1 := k5.cell 1
      go_wp2_with fail
      refine (rTimes_any b A n c (x ^ j) b1 A1 n1 c1 x wr r1 R2 (by omega) (by omega)).mono ?_
      rintro e w3 ⟨b', A', n', c', rfl, q1, q2, l3⟩
      replace k2 := k2.later l3
      replace k4 := k4.later l3
      replace k5 := k5.later l3
      have L3 := L2.trans l3
      have R3 := R2.later l3
      clear d0 d1 e0 e1 r1 R2 l3
      have e0 := k5.cell 0
      have e1 := k5.cell 1
      have f0 := k5.frozen 0
      have f1 := k5.frozen 1
      have hlt := k5.lt
      have hlt4 := k4.lt
      go_upto_region 4 with (fail)
      refine name_long (Q := fun W => Code.wp _ _ _ _ W) k5 ?_
      intro w4 j5 l4 hr4
      have j2 := k2.keepP l4 (by omega)
      have j4 := k4.keepP l4 (by omega)
      have L4 := l4.narrow L3 (by omega)
      go_wp2
      exact ⟨⟨j + 1, b', A', n', c', rg_succ j, hjk, by rw [Int.pow_succ]; exact hr4 q1, by omega, hr4 R3, j2, j4, j5, L4⟩, rg_up hjk⟩
    · obtain rfl : j = k := by omega
      have e0 := k5.cell 0
      have e1 := k5.cell 1
      have f0 := k4.frozen 0
      have f1 := k4.frozen 1
      have d0 := k4.cell 0
      have d1 := k4.cell 1
      have hlt := k4.lt
      go_wp2
      refine name_long (Q := fun W => bodyPost _ _ _ _ _ W) k4 ?_
      intro w4 j4 l4 hr4
      have c0 := j4.cell 0
      have c1 := j4.cell 1
      refine bodyPost_ret (v := .agg #[.bool b, .slice A n c]) (by simp [results, Tryz.results37, go_sem, c0, c1]) rfl ?_
      exact ⟨b, A, n, c, rfl, hr4 r1, r2, l4.narrow L2 hw4⟩
end Go.Proofs.YtogkkhaepfablaaGreat

/- The reference's drafts of numbers: Small, and Of. -/
namespace Go.Proofs.YtogkkhaepfablaaGreat
open Go.RowKit
set_option linter.unusedSimpArgs false

/-- A draft's small number. -/
def smallV (b : Bool) (less : Int) : Int := if b then -(less % 1000001) else less % 1000001
theorem smallV_in (b : Bool) {less : Int} : -1000000 ≤ smallV b less ∧ smallV b less ≤ 1000000 := by
  have h1 := Int.emod_nonneg less (show (1000001 : Int) ≠ 0 by decide)
  have h2 := Int.emod_lt_of_pos less (show (0 : Int) < 1000001 by decide)
  unfold smallV
  cases b
  · rw [if_neg (by decide)]; omega
  · rw [if_pos rfl]; omega
set_option maxRecDepth 100000 in
set_option maxHeartbeats 1000000 in
theorem rSmall_any (b : Bool) (A : Option Addr) (n c : Nat) (less : Int) (h : 0 ≤ less ∧ less < 4294967296) (w : World) :
    Calls Tryz.prog 55 #[.agg #[.bool b, .slice A n c, .int .u32 less]] w (fun e w' => e = .returned (.int .i64 (smallV b less)) ∧ Lat w w') := by
  have hm : less.tmod 1000001 = less % 1000001 := Int.tmod_eq_emod_of_nonneg h.1
  obtain ⟨q, hq⟩ : ∃ q, less % 1000001 = q := ⟨_, rfl⟩
  have hq2 : 0 ≤ q ∧ q < 1000001 := by omega
  have hw : wrap64 q = q := IntWalk.wrap64_in _ (by omega)
  have hwn : wrap64 (-q) = -q := IntWalk.wrap64_in _ (by omega)
  have hw32 : IntKind.u32.wrap q = q := by have : IntKind.u32.wrap q = q % 4294967296 := rfl; rw [this]; omega
  rw [hq] at hm
  have hV : smallV b less = if b then -q else q := by unfold smallV; rw [hq]
  rw [hV]
  clear hV hq
  go_enter Tryz.func55, Tryz.ntmps55
  go_upto_region 1 with (fail)
  refine name1 (Q := fun W => Code.wp _ _ _ _ W) ?_
  intro W hl hs k1
  have c0 := k1.cell 0
  have c1 := k1.cell 1
  have c2 := k1.cell 2
  cases b
  · go_wp2
    go_ret
    exact ⟨rfl, hl⟩
  · go_wp2
    go_ret
    exact ⟨rfl, hl⟩

set_option maxRecDepth 100000 in
set_option maxHeartbeats 2000000 in
theorem rWOf_any (n : Int) (h0 : -9223372036854775808 ≤ n) (h1 : n < 9223372036854775808) (w : World) :
    Calls Tryz.prog 12 #[.int .i64 n] w (fun e w' => e = .returned (.agg #[.int .u64 (W8.of n).a0, .int .u64 (W8.of n).a1, .int .u64 (W8.of n).a2, .int .u64 (W8.of n).a3, .int .u64 (W8.of n).a4, .int .u64 (W8.of n).a5, .int .u64 (W8.of n).a6, .int .u64 (W8.of n).a7]) ∧ Lat w w') := by
  have HL := fun w => rLong1_any n w h0 h1
  have hp : (9223372036854775808 : Int) ≤ P511 := by decide
  go_enter Tryz.func12, Tryz.ntmps12
  go_upto_region 1 with (fail)
  refine name1 (Q := fun W => Code.wp _ _ _ _ W) ?_
  intro W hl hs k2
  go_wp2_with fail
  refine (HL W).mono ?_
  rintro e w1 ⟨b, A, m, c, rfl, r1, r2, l1⟩
  replace k2 := k2.later l1
  have L1 := hl.trans l1
  go_wp2_with fail
  refine (rOut_any b A m c n w1 r1 (by omega)).mono ?_
  rintro e w2 ⟨u, r, rfl, hu, l2⟩
  obtain ⟨rfl, rfl⟩ : u = W8.of n ∧ r = 0 := by
    rcases hu with ⟨_, _, h, h'⟩ | ⟨h, _⟩
    · exact ⟨h, h'⟩
    · omega
  replace k2 := k2.later l2
  have L2 := L1.trans l2
  clear hu l1 l2 L1 r1 r2 hl hs HL
  obtain ⟨g, hg⟩ : ∃ g, w.heap.size = g := ⟨_, rfl⟩
  rw [hg] at k2 ⊢
  have hwg : w.heap.size ≤ g := by omega
  clear hg
  obtain ⟨u, hu⟩ : ∃ u, W8.of n = u := ⟨_, rfl⟩
  rw [hu]
  go_upto_region 2 with (fail)
  refine name1 (Q := fun W => Code.wp _ _ _ _ W) ?_
  intro W3 l3 hs3 k3
  replace k2 := k2.later l3
  have L3 := L2.trans l3
  have d0 := k3.cell 0
  have d1 := k3.cell 1
  have d2 := k3.cell 2
  have d3 := k3.cell 3
  have d4 := k3.cell 4
  have d5 := k3.cell 5
  have d6 := k3.cell 6
  have d7 := k3.cell 7
  have p0 := k2.cell 0
  have p1 := k2.cell 1
  have p2 := k2.cell 2
  have p3 := k2.cell 3
  have p4 := k2.cell 4
  have p5 := k2.cell 5
  have p6 := k2.cell 6
  have p7 := k2.cell 7
  have f0 := k2.frozen 0
  have f1 := k2.frozen 1
  have f2 := k2.frozen 2
  have f3 := k2.frozen 3
  have f4 := k2.frozen 4
  have f5 := k2.frozen 5
  have f6 := k2.frozen 6
  have f7 := k2.frozen 7
  have hlt := k2.lt
  go_wp2
  refine name_put8 (Q := fun W => bodyPost _ _ _ _ _ W) k2 ?_
  intro W4 k4 l4
  have e0 := k4.cell 0
  have e1 := k4.cell 1
  have e2 := k4.cell 2
  have e3 := k4.cell 3
  have e4 := k4.cell 4
  have e5 := k4.cell 5
  have e6 := k4.cell 6
  have e7 := k4.cell 7
  refine bodyPost_ret (v := .agg #[.int .u64 u.a0, .int .u64 u.a1, .int .u64 u.a2, .int .u64 u.a3, .int .u64 u.a4, .int .u64 u.a5, .int .u64 u.a6, .int .u64 u.a7]) (by simp [results, Tryz.results12, go_sem, e0, e1, e2, e3, e4, e5, e6, e7]) rfl ?_
  exact ⟨by rw [hu], l4.narrow L3 hwg⟩
end Go.Proofs.YtogkkhaepfablaaGreat

/- The reference's sums, with what is known of where they lie. -/
namespace Go.Proofs.YtogkkhaepfablaaGreat
open Go.RowKit

/-- Digits in new memory. -/
def DigF (w : World) (z : Int) (N : Nat) (e : Ending) (w' : World) : Prop :=
  ∃ A n c xs, e = .returned (.slice A n c) ∧ Sl w' .i64 A n xs ∧ InR B32 xs ∧ val B32 xs = z ∧ n ≤ c ∧ n ≤ N ∧ Lat w w' ∧ ∀ a, A = some a → w.heap.size ≤ a.block
/-- What made leaves: its digits are those that came in. -/
def MadeF (w : World) (A : Option Addr) (z : Int) (N : Nat) (e : Ending) (w' : World) : Prop :=
  ∃ b n c, e = .returned (.agg #[.bool b, .slice A n c]) ∧ Rg w' b A n c z ∧ n ≤ N ∧ Lat w w'
/-- A number in new memory. -/
def RefF (w : World) (z : Int) (N : Nat) (e : Ending) (w' : World) : Prop :=
  ∃ b A n c, e = .returned (.agg #[.bool b, .slice A n c]) ∧ Rg w' b A n c z ∧ n ≤ N ∧ Lat w w' ∧ ∀ a, A = some a → w.heap.size ≤ a.block
theorem MadeF.close {w w2 : World} {g t : Nat} {b b0 : Bool} {A A0 : Option Addr} {n c n0 c0 N : Nat} {z : Int} (hk : Blk w2 g t #[.bool b0, .slice A0 n0 c0]) (hlg : Rg w2 b A n c z) (hL : Lat w w2) (hg : w.heap.size ≤ g) (hn : n ≤ N) :
    MadeF w A z N (.returned (.agg #[.bool b, .slice A n c])) ((w2.setCell ⟨g, 0, none⟩ (.bool b)).setCell ⟨g, 1, none⟩ (.slice A n c)) := by
  have ha := hlg.apart hk (no_i64 _ _ _ _)
  exact ⟨_, _, _, rfl, (hlg.far (p := ⟨g, 0, none⟩) ha _).far (p := ⟨g, 1, none⟩) ha _, hn, (hL.setCell (p := ⟨g, 0, none⟩) hg _).setCell (p := ⟨g, 1, none⟩) hg _⟩
theorem RefF.of {w w' : World} {b : Bool} {A : Option Addr} {n c N : Nat} {z : Int} (h : RefPost w z N (.returned (.agg #[.bool b, .slice A n c])) w') (hf : ∀ a, A = some a → w.heap.size ≤ a.block) : RefF w z N (.returned (.agg #[.bool b, .slice A n c])) w' := by
  obtain ⟨b', A', n', c', e, h1, h2, h3⟩ := h
  cases e
  exact ⟨_, _, _, _, rfl, h1, h2, h3, hf⟩

set_option maxHeartbeats 4000000 in
theorem more_fresh (A1 : Option Addr) (n1 c1 : Nat) (xs : List Int) (A2 : Option Addr) (n2 c2 : Nat) (ys : List Int) (w : World) (h1 : Sl w .i64 A1 n1 xs) (h2 : Sl w .i64 A2 n2 ys) (hx : InR B32 xs) (hy : InR B32 ys)
    (hn : n1 ≤ 1000000) (hm : n2 ≤ 1000000) :
    Calls Tryz.prog 71 #[.slice A1 n1 c1, .slice A2 n2 c2] w (DigF w (val B32 xs + val B32 ys) (max n1 n2 + 1)) := by
  go_enter Tryz.func71, Tryz.ntmps71
  go_wp2
  go_loopw [5, 6, 7] (fun v bt i wr => ∃ (k : Nat) (c : Int) (os : List Int), i = .int .i64 k ∧ bt = .int .i64 c ∧ Own wr w.heap.size 3 .i64 v os ∧ MorInv B32 xs ys (max n1 n2) k c os ∧ Lat w wr) (fun _ _ i _ => max n1 n2 + 1 - (intOf i).toNat)
  case atStart => exact ⟨0, 0, [], rfl, rfl, Own.nil _ _ _ _, MorInv.start B32 xs ys _, Lat.refl _⟩
  case round =>
    obtain ⟨k, c, os, rfl, rfl, hown, hinv, hlr⟩ := hrel
    have hc0 := hinv.1.1
    have hc1 := hinv.1.2
    have hlen := Lib.hid hinv.2.1
    have hkN := hinv.2.2.2.2.1
    have hend := Lib.hid hinv.2.2.2.2.2
    have hwl := hlr.size
    have hol : os.length ≤ 1000001 := by have := hlen.out; omega
    rcases (h1.later hlr).digit hx k with ⟨hlt, a, x, rfl, hgx, rx0, rx1, hcell⟩ | ⟨hlt, hgx⟩
    · rcases (h2.later hlr).digit hy k with ⟨hlt2, a', y, rfl, hgy, ry0, ry1, hcell2⟩ | ⟨hlt2, hgy⟩
      · have hst := hinv.step B32_one (by omega) hgx.out hgy.out ⟨rx0, rx1⟩ ⟨ry0, ry1⟩ (by omega)
        go_wp2_with (at_builtin; refine wpList_push rfl _ _ 71 rfl w.heap.size 3 3 .i64 8 Tryz.underlying71 infoI64 (by decide) _ os [_] _ rfl wr (by rfl) hown 1 rfl (by decide) (by rfl) (by omega) hwl ?_; intro v' w1 hown1 hlat1)
        go_roundw
        case rel => exact ⟨k + 1, _, _, by go_num, rfl, hown1, hst, hlat1 w hlr (Nat.le_refl _)⟩
        case measure => simp [intOf]; omega
      · have hst := hinv.step B32_one (by omega) hgx.out hgy.out ⟨rx0, rx1⟩ ⟨Int.le_refl _, B32_pos⟩ (by omega)
        rw [Int.add_zero] at hst
        go_wp2_with (at_builtin; refine wpList_push rfl _ _ 71 rfl w.heap.size 3 3 .i64 8 Tryz.underlying71 infoI64 (by decide) _ os [_] _ rfl wr (by rfl) hown 1 rfl (by decide) (by rfl) (by omega) hwl ?_; intro v' w1 hown1 hlat1)
        go_roundw
        case rel => exact ⟨k + 1, _, _, by go_num, rfl, hown1, hst, hlat1 w hlr (Nat.le_refl _)⟩
        case measure => simp [intOf]; omega
    · rcases (h2.later hlr).digit hy k with ⟨hlt2, a', y, rfl, hgy, ry0, ry1, hcell2⟩ | ⟨hlt2, hgy⟩
      · have hst := hinv.step B32_one (by omega) hgx.out hgy.out ⟨Int.le_refl _, B32_pos⟩ ⟨ry0, ry1⟩ (by omega)
        rw [Int.add_zero] at hst
        go_wp2_with (at_builtin; refine wpList_push rfl _ _ 71 rfl w.heap.size 3 3 .i64 8 Tryz.underlying71 infoI64 (by decide) _ os [_] _ rfl wr (by rfl) hown 1 rfl (by decide) (by rfl) (by omega) hwl ?_; intro v' w1 hown1 hlat1)
        go_roundw
        case rel => exact ⟨k + 1, _, _, by go_num, rfl, hown1, hst, hlat1 w hlr (Nat.le_refl _)⟩
        case measure => simp [intOf]; omega
      · by_cases hcp : 0 < c
        · have hkle : k ≤ max n1 n2 := by
            rcases Nat.lt_or_ge (max n1 n2) k with h | h
            · have := hend.out (by omega); omega
            · exact h
          have hst := hinv.step B32_one hkle hgx.out hgy.out ⟨Int.le_refl _, B32_pos⟩ ⟨Int.le_refl _, B32_pos⟩ (fun _ => ⟨rfl, rfl⟩)
          rw [Int.add_zero, Int.add_zero] at hst
          go_wp2_with (at_builtin; refine wpList_push rfl _ _ 71 rfl w.heap.size 3 3 .i64 8 Tryz.underlying71 infoI64 (by decide) _ os [_] _ rfl wr (by rfl) hown 1 rfl (by decide) (by rfl) (by omega) hwl ?_; intro v' w1 hown1 hlat1)
          go_roundw
          case rel => exact ⟨k + 1, _, _, by go_num, rfl, hown1, hst, hlat1 w hlr (Nat.le_refl _)⟩
          case measure => simp [intOf]; omega
        · obtain rfl : c = 0 := by omega
          obtain ⟨r1, r2, r3, r4⟩ := hinv.done (by have := h1.1; omega) (by have := h2.1; omega)
          have R4 := Lib.hid r4
          have R2 := Lib.hid r2
          clear r2 r4
          obtain ⟨A3, c3, rfl, hs1, hc1', hfr⟩ := hown.form
          go_wp2
          go_ret
          exact ⟨A3, _, c3, os, rfl, hs1, r1, R4.out, hc1', by have := R2.out; omega, hlr, fun a h => (hfr a h).1⟩
set_option maxHeartbeats 1000000 in
theorem made_same (below : Bool) (A : Option Addr) (n c : Nat) (w : World) (xs : List Int) (hs : Sl w .i64 A n xs) (hr : InR B32 xs) (hc : n ≤ c) (hn : n ≤ 3000000) :
    Calls Tryz.prog 69 #[.bool below, .slice A n c] w (MadeF w A (sgn below (val B32 xs)) n) := by
  go_enter Tryz.func69, Tryz.ntmps69
  go_wp2_with fail
  refine name1 (Q := fun W => Calls _ _ _ W _) ?_
  intro W hl hsz hb
  refine (cut_any A n c W xs (hs.later hl) hc hn).mono ?_
  rintro e w1 ⟨m, rfl, q1, q2, q3, q4, q5⟩
  have K := hb.later q5
  have L := hl.trans q5
  have c0 := K.cell 0
  have c1 := K.cell 1
  have f0 := K.frozen 0
  have f1 := K.frozen 1
  have hrm : InR B32 (xs.take m) := fun y hy => hr y (List.mem_of_mem_take hy)
  have hln := hs.1
  have hq1 := q1.1
  have Q3 := Lib.hid q3
  have Q2 := Lib.hid q2
  have hmn : m ≤ n := by omega
  clear q3 q2 q4
  by_cases hm : 0 < m
  · have hd : decide ((0 : Int) < m) = true := by simp; exact hm
    have hrg : Rg w1 below A m c (sgn below (val B32 xs)) := ⟨by omega, _, q1, hrm, Q2.out, (fun _ => by intro e; rw [e] at hq1; simp at hq1; omega), by rw [Q3.out]⟩
    cases below
    all_goals
      go_wp2
      refine bodyPost_ret (v := .agg #[.bool _, .slice A m c]) (by simp [results, Tryz.results69, go_sem, c0, c1]; rfl) rfl ?_
      exact MadeF.close K hrg L (Nat.le_refl _) hmn
  · obtain rfl : m = 0 := by omega
    have h0 : val B32 xs = 0 := by rw [← Q3.out]; simp [val]
    have hrg : Rg w1 false A 0 c (sgn below (val B32 xs)) := ⟨by omega, _, q1, hrm, Q2.out, (fun h => by cases h), by rw [← Q3.out]; cases below <;> simp [sgn, val]⟩
    clear h0
    cases below
    all_goals
      go_wp2
      refine bodyPost_ret (v := .agg #[.bool false, .slice A 0 c]) (by simp [results, Tryz.results69, go_sem, c0, c1]) rfl ?_
      exact MadeF.close K hrg L (Nat.le_refl _) (by omega)
set_option maxHeartbeats 400000 in
theorem rPlus_fresh (b1 : Bool) (A1 : Option Addr) (n1 c1 : Nat) (x : Int) (A2 : Option Addr) (n2 c2 : Nat) (y : Int) (w : World) (h1 : Rg w b1 A1 n1 c1 x) (h2 : Rg w b1 A2 n2 c2 y) (hn : n1 ≤ 1000000) (hm : n2 ≤ 1000000) :
    Calls Tryz.prog 43 #[.agg #[.bool b1, .slice A1 n1 c1], .agg #[.bool b1, .slice A2 n2 c2]] w (RefF w (x + y) (max n1 n2 + 1)) := by
  obtain ⟨hc1, xs, s1, r1, z1, _, v1⟩ := h1
  obtain ⟨hc2, ys, s2, r2, z2, _, v2⟩ := h2
  have V1 := Lib.hid v1
  have V2 := Lib.hid v2
  clear v1 v2
  go_enter Tryz.func43, Tryz.ntmps43
  go_wp2
  refine name3 (Q := fun W => Code.wp _ _ _ _ W) ?_
  intro W hl hs k1 k2 k3
  have a1 := k1.evS (gs := [w.heap.size + 1 + 1]) (by simp; try omega) 0 rfl
  have a2 := k1.evS (gs := [w.heap.size + 1 + 1]) (by simp; try omega) (0 + 1) rfl
  have a4 := k2.evS (gs := [w.heap.size + 1 + 1]) (by simp; try omega) (0 + 1) rfl
  have L0 := Lat.drew W
  have M0 := L0.s [w.heap.size + 1 + 1]
  go_region_held3 (fun w' => LatS W [w.heap.size + 1 + 1] w') (first | assumption | ((repeat refine LatS.set ?_ (by simp) _); assumption))
    (first
      | (go_at_call 71; refine (more_fresh A1 n1 c1 xs A2 n2 c2 ys _ (s1.later (hl.trans L0)) (s2.later (hl.trans L0)) r1 r2 hn hm).mono ?_; rintro e w1 ⟨A, n, c, zs, rfl, p1, p2, p3, p4, p5, p6, p7⟩; have L1 := L0.trans p6; have M1 := L1.s [w.heap.size + 1 + 1]; have P3 := Lib.hid p3; clear p3)
      | (go_at_call 69; refine (made_same b1 A n c _ zs p1 p2 p4 (by omega)).mono ?_; rintro e w2 ⟨b, m, c', rfl, q1, q2, q3⟩; have L2 := L1.trans q3; have M2 := L2.s [w.heap.size + 1 + 1]; have hk3 := k3.later L2; have c0 := hk3.cell 0; have c1' := hk3.cell 1; have f0 := hk3.frozen 0; have f1 := hk3.frozen 1))
  go_wp2
  refine bodyPost_ret (v := .agg #[.bool b, .slice A m c']) (by simp [results, Tryz.results43, go_sem, c0, c1']) rfl ?_
  have := RefPost.close hk3 q1 (hl.trans L2) (by omega) (Nat.le_trans q2 p5)
  rw [P3.out, rs_add, ← V1.out, ← V2.out] at this
  exact RefF.of this (fun a h => Nat.le_trans hl.size (Nat.le_trans L0.size (p7 a h)))

/-- A number appended to a list in memory of its own: what else lay there stays. -/
theorem wpList_pushG {P : Program} {ops : Array Oper} {rest : List Oper} {o : Oper} {a : Act} {Q : Exit → Act → World → Prop} (hgd : o.guard = none) (s x : Operand) (t : TypeId)
    (ho : o.op = .call { callee := .builtin .append, args := #[s, x], argTypes := #[t, t] })
    (B : Nat) (E T : TypeId) (k : IntKind) (by_ : Nat) (ht : P.underlying t = some (.slice E)) (hinfo : (P.info? E).map (fun i => (i.zero, i.size, i.bytes)) = some (some (.int k 0), 1, by_)) (hby : by_ ≤ 8)
    (v : Value) (xs ys : List Int) (cs : Array Value) (hcs : cs = nums k ys) (W : World) (hs : a.eval s = v) (hown : Own W B E k v xs)
    (m : Nat) (hm : ys.length = m) (hm0 : 0 < m) (hx : a.eval x = .slice (some ⟨W.heap.size, 0, none⟩) m m) (hlen : xs.length + m ≤ 17000000000000) (hB : B ≤ W.heap.size)
    (h : ∀ v' w', Own w' B E k v' (xs ++ ys) → (∀ W0, Lat W0 W → W0.heap.size ≤ B → Lat W0 w') → (∀ q, q < W.heap.size → ¬ some q = v.ownBlock → w'.heap[q]? = W.heap[q]?) → W.heap.size ≤ w'.heap.size → wpList P ops Q rest (a.put o.dst v') w') : wpList P ops Q (o :: rest) a (W.alloc (.cells cs T)) := by
  obtain ⟨i0, hi, hz0, hz1, hz2⟩ := info_parts hinfo
  subst hcs
  have hown1 := Own.later hown (Lat.alloc W (.cells (nums k ys) T))
  have hb := Blk.new W T (nums k ys)
  subst hm
  refine wpList_append_own _ hgd s x t ho B E i0 (.int k 0) 1 by_ ht hi hz0 hz1 hz2 rfl (by decide) v xs.length _ hs hown1 ⟨W.heap.size, 0, none⟩ ys.length ys.length (ys.map (Value.int k)) hx (by simp) ?_ ?_ ?_ ?_ ?_ ?_
  · intro j u hu
    have e : (⟨W.heap.size, 0, none⟩ : Addr).add j = ⟨W.heap.size, j, none⟩ := by unfold Addr.add; split <;> simp_all
    rw [e, hb.cell j]
    simpa [nums] using hu
  · exact ints_oneCell _ _
  · unfold maxLen; omega
  · have := Nat.mul_le_mul_left (xs.length + ys.length) hby; omega
  · simp; omega
  · intro v' w' h1 h2 _
    have la := Lat.alloc W (.cells (nums k ys) T)
    refine h v' w' ?_ (fun W0 hl hle => Own.lat hown1 (hl.trans (Lat.alloc _ _)) hle h2) (fun q hq hn => (h2.block q (Nat.lt_of_lt_of_le hq la.size) hn).trans (Below.block la q hq)) (Nat.le_trans la.size h2.size)
    unfold Own
    rw [List.length_append, List.map_append]
    exact h1
theorem Sl.kept' {w W : World} {k : IntKind} {A : Option Addr} {n : Nat} {xs : List Int} (h : Sl W k A n xs) (hs : W.heap.size ≤ w.heap.size) (hk : ∀ a, A = some a → a.block < W.heap.size → w.heap[a.block]? = W.heap[a.block]?) : Sl w k A n xs := by
  refine ⟨h.1, fun hn => ?_⟩
  obtain ⟨a, e, hlt, hc⟩ := h.2 hn
  refine ⟨a, e, Nat.lt_of_lt_of_le hlt hs, fun j x hx => ?_⟩
  rw [← hc j x hx]
  exact World.cell?_of_block (by rw [block_add]; exact hk a e hlt)
theorem Rg.kept {w W : World} {b : Bool} {A : Option Addr} {n c : Nat} {z : Int} (h : Rg W b A n c z) (hs : W.heap.size ≤ w.heap.size) (hk : ∀ a, A = some a → a.block < W.heap.size → w.heap[a.block]? = W.heap[a.block]?) : Rg w b A n c z := by
  obtain ⟨hn, xs, h1, r⟩ := h
  exact ⟨hn, xs, h1.kept' hs hk, r⟩
theorem Own.kept {w w' : World} {B : Nat} {E : TypeId} {k : IntKind} {v : Value} {xs : List Int} (h : Own w B E k v xs) (hk : ∀ g, B ≤ g → v.ownBlock = some g → w'.heap[g]? = w.heap[g]?) : Own w' B E k v xs := by
  obtain ⟨h1, h2⟩ := h
  refine ⟨h1, ?_⟩
  rcases h2 with h2 | ⟨g, cap, cur, a1, a2, a3, a4⟩
  · exact .inl h2
  · refine .inr ⟨g, cap, cur, a1, a2, ?_, a4⟩
    rw [hk g a2 (by rw [a1]; rfl)]; exact a3
theorem Own.at_ {w : World} {B : Nat} {E : TypeId} {k : IntKind} {v : Value} {xs : List Int} (h : Own w B E k v xs) : ∀ q, v.ownBlock = some q → B ≤ q ∧ q < w.heap.size := by
  intro q hq
  obtain ⟨h1, h2⟩ := h
  rcases h2 with ⟨rfl, _⟩ | ⟨g, cap, cur, rfl, hb, hg, _⟩
  · cases hq
  · have e : g = q := by simpa [Value.ownBlock] using hq
    subst e
    refine ⟨hb, ?_⟩
    rcases Nat.lt_or_ge g w.heap.size with hlt | hge
    · exact hlt
    · rw [Array.getElem?_eq_none hge] at hg; cases hg
/-- A number that is not negative. -/
def RefN (w : World) (z : Int) (N : Nat) (e : Ending) (w' : World) : Prop :=
  ∃ A n c, e = .returned (.agg #[.bool false, .slice A n c]) ∧ Rg w' false A n c z ∧ n ≤ N ∧ Lat w w'
theorem RefPost.nonneg {w w' : World} {z : Int} {N : Nat} {e : Ending} (h : RefPost w z N e w') (hz : 0 ≤ z) : RefN w z N e w' := by
  obtain ⟨b, A, n, c, rfl, h1, h2, h3⟩ := h
  cases b with
  | false => exact ⟨_, _, _, rfl, h1, h2, h3⟩
  | true => have := h1.neg_of; omega
def RefFN (w : World) (z : Int) (N : Nat) (e : Ending) (w' : World) : Prop :=
  ∃ A n c, e = .returned (.agg #[.bool false, .slice A n c]) ∧ Rg w' false A n c z ∧ n ≤ N ∧ Lat w w' ∧ ∀ a, A = some a → w.heap.size ≤ a.block
theorem RefF.nonneg {w w' : World} {z : Int} {N : Nat} {e : Ending} (h : RefF w z N e w') (hz : 0 ≤ z) : RefFN w z N e w' := by
  obtain ⟨b, A, n, c, rfl, h1, h2, h3, h4⟩ := h
  cases b with
  | false => exact ⟨_, _, _, rfl, h1, h2, h3, h4⟩
  | true => have := h1.neg_of; omega
end Go.Proofs.YtogkkhaepfablaaGreat

/- Numbers of any length of the reference in the slots of a drawn region. -/
namespace Go.Proofs.YtogkkhaepfablaaGreat
open Go.RowKit

/-- A number in a slot. -/
def LV (z : Int) (N : Nat) (v : Value) (w : World) : Prop := ∃ b A n c, v = .agg #[.bool b, .slice A n c] ∧ Rg w b A n c z ∧ n ≤ N
def LN (z : Int) (N : Nat) (v : Value) (w : World) : Prop := ∃ A n c, v = .agg #[.bool false, .slice A n c] ∧ Rg w false A n c z ∧ n ≤ N
def LNF (z : Int) (N B : Nat) (v : Value) (w : World) : Prop := ∃ A n c, v = .agg #[.bool false, .slice A n c] ∧ Rg w false A n c z ∧ n ≤ N ∧ ∀ a, A = some a → B ≤ a.block
section
variable {z : Int} {N B : Nat} {v : Value} {w w' : World} {e : Ending} {d : Prop}
theorem LV.mono (h : LV z N v w) (hl : Lat w w') : LV z N v w' := by
  obtain ⟨b, A, n, c, e, hr, hn⟩ := h
  exact ⟨b, A, n, c, e, hr.later hl, hn⟩
theorem LN.mono (h : LN z N v w) (hl : Lat w w') : LN z N v w' := by
  obtain ⟨A, n, c, e, hr, hn⟩ := h
  exact ⟨A, n, c, e, hr.later hl, hn⟩
theorem LNF.mono (h : LNF z N B v w) (hl : Lat w w') : LNF z N B v w' := by
  obtain ⟨A, n, c, e, hr, hn⟩ := h
  exact ⟨A, n, c, e, hr.later hl, hn⟩
theorem RefPost.run (h : RefPost w z N e w') : ∃ v, e = .returned v ∧ (Lat w w' ∧ (d → LV z N v w')) := by
  obtain ⟨b, A, n, c, e, hr, hn, hl⟩ := h
  exact ⟨_, e, hl, fun _ => ⟨b, A, n, c, rfl, hr, hn⟩⟩
theorem RefN.run (h : RefN w z N e w') : ∃ v, e = .returned v ∧ (Lat w w' ∧ (d → LN z N v w')) := by
  obtain ⟨A, n, c, e, hr, hn, hl⟩ := h
  exact ⟨_, e, hl, fun _ => ⟨A, n, c, rfl, hr, hn⟩⟩
theorem RefFN.run (h : RefFN w z N e w') (hB : B ≤ w.heap.size) : ∃ v, e = .returned v ∧ (Lat w w' ∧ (d → LNF z N B v w')) := by
  obtain ⟨A, n, c, e, hr, hn, hl, hf⟩ := h
  exact ⟨_, e, hl, fun _ => ⟨A, n, c, rfl, hr, hn, fun a ha => Nat.le_trans hB (hf a ha)⟩⟩
end
end Go.Proofs.YtogkkhaepfablaaGreat

/- The reference's drafts of wide numbers: Within. -/
namespace Go.Proofs.YtogkkhaepfablaaGreat
open Go.RowKit
set_option linter.unusedSimpArgs false
set_option linter.unusedVariables false

theorem wi_rem {x lim q : Int} (h : 0 ≤ x) (e : x % lim = q) : x.tmod lim = q := by rw [Int.tmod_eq_emod_of_nonneg h]; exact e
theorem rg_nil (V : World) : Rg V false none 0 0 0 := ⟨Nat.le_refl _, [], Sl.nil _ _ _, (fun y h => absurd h (by simp)), (by first | exact trivial | simp [Nz]), (fun h => by cases h), by simp [sgn, val]⟩
theorem RefPost.leF {w w' : World} {z : Int} {N M : Nat} {e : Ending} (h : RefPost w z N e w') (hN : N ≤ M) : RefPost w z M e w' := by
  obtain ⟨b, A, n, c, e, hr, hn, hl⟩ := h
  exact ⟨b, A, n, c, e, hr, by omega, hl⟩
theorem RefF.le {w w' : World} {z : Int} {N M : Nat} {e : Ending} (h : RefF w z N e w') (hN : N ≤ M) : RefF w z M e w' := by
  obtain ⟨b, A, n, c, e, hr, hn, hl⟩ := h
  exact ⟨b, A, n, c, e, hr, by omega, hl⟩
theorem wi_raise (q : Nat) (hq : q < 511) : ∃ p : Int, 0 ≤ p ∧ ∀ A1 n1 c1 w, Rg w false A1 n1 c1 2 → n1 ≤ 2 → Calls Tryz.prog 37 #[.agg #[.bool false, .slice A1 n1 c1], .int .i64 q] w (RefN w p 1024) := by
  have hp0 : (0 : Int) ≤ 2 ^ q := Int.le_of_lt (Int.pow_pos (by decide))
  exact ⟨2 ^ q, hp0, fun A1 n1 c1 w h h' => (rRaised_any false A1 n1 c1 2 q w h h' (by omega)).mono fun e w' h => (h.leF (by omega)).nonneg hp0⟩
theorem wi_plus {wr : World} {A' : Option Addr} {n' c' k : Nat} {z p : Int} (hr : Rg wr false A' n' c' z) (hz : 0 ≤ z) (hn : n' ≤ 1100 + k) (hp : 0 ≤ p) : ∀ A1 n1 c1 w, Lat wr w → Rg w false A1 n1 c1 p → n1 ≤ 1024 → k ≤ 6 → Calls Tryz.prog 43 #[.agg #[.bool false, .slice A' n' c'], .agg #[.bool false, .slice A1 n1 c1]] w (RefFN w (z + p) (1100 + (k + 1))) := fun A1 n1 c1 w hl h h' hk =>
  (rPlus_fresh false A' n' c' z A1 n1 c1 p w (hr.later hl) h (by omega) (by omega)).mono fun e w' h => (h.le (by omega)).nonneg (by omega)
theorem wi_minus {wr : World} {A' : Option Addr} {n' c' k : Nat} {z r4 less : Int} {HM : Hid (less.tmod 4 = r4 ∧ IntKind.i64.wrap r4 = r4 ∧ IntKind.u32.wrap r4 = r4)} (hr : Rg wr false A' n' c' z) (hn : n' ≤ 1100 + k) (hk : k ≤ 6) : ∀ b2 A2 n2 c2 w, Lat wr w → Rg w b2 A2 n2 c2 r4 → n2 ≤ 2 → Calls Tryz.prog 44 #[.agg #[.bool false, .slice A' n' c'], .agg #[.bool b2, .slice A2 n2 c2]] w (RefPost w (z - r4) 1108) := fun b2 A2 n2 c2 w hl h h' =>
  (rMinus_any false A' n' c' z b2 A2 n2 c2 r4 w (hr.later hl) h (by omega) (by omega)).mono fun e w' h => h.leF (by omega)
structure WiQ (x lim : Int) (q : Nat) : Prop where
  e : x.tmod lim = (q : Int)
  w : wrap64 (q : Int) = (q : Int)
  h : q < 511
theorem wiQ {x lim : Int} (h : 0 ≤ x) (h1 : 1 ≤ lim) (h2 : lim ≤ 511) : ∃ q, WiQ x lim q := by
  have a1 := Int.emod_nonneg x (show lim ≠ 0 by omega)
  have a2 := Int.emod_lt_of_pos x (show (0 : Int) < lim by omega)
  obtain ⟨q, hq⟩ := Int.eq_ofNat_of_zero_le a1
  exact ⟨q, wi_rem h hq, IntWalk.wrap64_in _ (by omega), by omega⟩
noncomputable def wi13_rows (A' : Option Addr) (n' c' B0 q k : Nat) (z p : Int) : List SRow := [
  ⟨Op.load 85 (Operand.tmp 5), some 50, none, [], fun v _ => v = .agg #[.bool false, .slice A' n' c']⟩,
  ⟨Op.call { callee := Callee.value (Operand.func 38), args := #[Operand.const (Value.int IntKind.i64 2)], argTypes := #[3] }, some 51, none, [], LN 2 2⟩,
  ⟨Op.move (Operand.tmp 8), some 52, none, [], fun v _ => v = .int .i64 (q : Nat)⟩,
  ⟨Op.call { callee := Callee.value (Operand.func 37), args := #[Operand.tmp 51, Operand.tmp 52], argTypes := #[85, 3] }, some 53, none, [1, 2, 1], LN p 1024⟩,
  ⟨Op.call { callee := Callee.value (Operand.func 43), args := #[Operand.tmp 50, Operand.tmp 53], argTypes := #[85, 85] }, some 54, none, [0, 3, 3], LNF (z + p) (1100 + (k + 1)) B0⟩]
noncomputable def wi13_base (b : Bool) (a : Addr) (n c : Nat) (less lim : Int) (g2 g4 g5 : Nat) (A3 : Option Addr) (yl c3 k q : Nat) : List (Nat × Value) := [(0, .agg #[.bool b, .slice (some a) n c, .int .u32 less]), (1, .int .i64 lim), (2, .pointer (some ⟨g2, 0, none⟩)), (3, undef), (4, .pointer (some ⟨g4, 0, none⟩)), (5, .pointer (some ⟨g5, 0, none⟩)), (6, .slice A3 yl c3), (7, .int .i64 (k : Nat)), (8, .int .i64 (q : Nat)), (11, undef), (12, undef), (13, .agg #[.bool false, .slice none 0 0]), (59, undef), (60, undef), (61, undef), (62, undef), (63, undef), (64, undef), (65, undef), (66, undef), (67, undef), (68, undef), (69, undef), (70, undef), (71, undef), (72, undef), (73, undef), (74, undef), (75, undef)]
set_option maxRecDepth 100000 in
set_option maxHeartbeats 4000000 in
theorem wi13_steps (V : World) (A' : Option Addr) (n' c' B0 : Nat) (z p : Int) (b : Bool) (a : Addr) (n c : Nat) (less lim : Int) (g2 g4 g5 : Nat) (A3 : Option Addr) (yl c3 k q : Nat) (hB0 : B0 ≤ V.heap.size) (R5 : ∀ w', Lat V w' → w'.rangeAt g5 0 [.bool false, .slice A' n' c']) (J85 : (Tryz.prog.info? 85).map (·.size) = some 2)
    (HL2 : ∀ w, Calls Tryz.prog 38 #[.int .i64 2] w (RefN w 2 2))
    (HR : ∀ A1 n1 c1 w, Rg w false A1 n1 c1 2 → n1 ≤ 2 → Calls Tryz.prog 37 #[.agg #[.bool false, .slice A1 n1 c1], .int .i64 (q : Nat)] w (RefN w p 1024))
    (HP : ∀ A1 n1 c1 w, Lat V w → Rg w false A1 n1 c1 p → n1 ≤ 1024 → Calls Tryz.prog 43 #[.agg #[.bool false, .slice A' n' c'], .agg #[.bool false, .slice A1 n1 c1]] w (RefFN w (z + p) (1100 + (k + 1)))) :
    AllSteps Tryz.prog (wi13_rows A' n' c' B0 q k z p) (wi13_base b a n c less lim g2 g4 g5 A3 yl c3 k q) V (wi13_rows A' n' c' B0 q k z p) := by
  refine AllSteps.next (fun _ _ _ h _ => h) (fun j b h => by cases h) (fun a w hl hb hd o ho => by have e1 := hb 5 _ rfl; exact Runs.val (yv_load (S := Lat V) e1 R5 Tryz.underlying85 rfl J85 o w ho hl) ⟨Lat.refl _, fun _ => rfl⟩) ?_
  refine AllSteps.next (fun _ _ _ h hl => h.mono hl) (fun j b h => by cases h) (fun a w hl hb hd o ho => by exact Runs.call (yv_call (f := 38) (fun _ => by go_simp) o ho (by simp only [List.map_toArray, List.map_cons, List.map_nil, eval_const])) ((HL2 w).mono fun e w' h => h.run)) ?_
  refine AllSteps.next (fun _ _ _ h _ => h) (fun j b h => by cases h) (fun a w hl hb hd o ho => by have e1 := hb 8 _ rfl; exact Runs.val (yv_move (S := fun _ => True) e1 o w ho trivial) ⟨Lat.refl _, fun _ => rfl⟩) ?_
  refine AllSteps.next (fun _ _ _ h hl => h.mono hl) (fun j b h => by cases h) (fun a w hl hb hd o ho => by obtain ⟨v1, e1, q1⟩ := hd 1 _ _ (by simp) rfl rfl; obtain ⟨A1, n1, c1, rfl, r1, m1⟩ := (show LN 2 2 v1 w from q1); obtain ⟨v2, e2, q2⟩ := hd 2 _ _ (by simp) rfl rfl; subst q2; exact Runs.call (yv_call (f := 37) (fun _ => by go_simp) o ho (by simp only [List.map_toArray, List.map_cons, List.map_nil, eval_const, e1, e2])) ((HR A1 n1 c1 w r1 m1).mono fun e w' h => h.run)) ?_
  refine AllSteps.next (fun _ _ _ h hl => h.mono hl) (fun j b h => by cases h) (fun a w hl hb hd o ho => by obtain ⟨v1, e1, q1⟩ := hd 0 _ _ (by simp) rfl rfl; subst q1; obtain ⟨v2, e2, q2⟩ := hd 3 _ _ (by simp) rfl rfl; obtain ⟨A2, n2, c2, rfl, r2, m2⟩ := (show LN p 1024 v2 w from q2); exact Runs.call (yv_call (f := 43) (fun _ => by go_simp) o ho (by simp only [List.map_toArray, List.map_cons, List.map_nil, eval_const, e1, e2])) ((HP A2 n2 c2 w hl r2 m2).mono fun e w' h => h.run (Nat.le_trans hB0 hl.size))) ?_
  exact AllSteps.none
noncomputable def wi15_rows (A' : Option Addr) (n' c' k : Nat) (z r4 less : Int) (g2 : Nat) : List SRow := [
  ⟨Op.load 85 (Operand.tmp 5), some 59, none, [], fun v _ => v = .agg #[.bool false, .slice A' n' c']⟩,
  ⟨Op.fieldAddr 30 (Operand.tmp 2) 2, some 60, none, [], fun v _ => v = .pointer (some ⟨g2, 2, none⟩)⟩,
  ⟨Op.load 28 (Operand.tmp 60), some 61, none, [1], fun v _ => v = .int .u32 less⟩,
  ⟨Op.binOp BinOp.rem 28 (Operand.tmp 61) (Operand.const (Value.int IntKind.u32 4)) 28, some 62, none, [2], fun v _ => v = .int .u32 r4⟩,
  ⟨Op.convert 28 3 (Operand.tmp 62), some 63, none, [3], fun v _ => v = .int .i64 r4⟩,
  ⟨Op.call { callee := Callee.value (Operand.func 38), args := #[Operand.tmp 63], argTypes := #[3] }, some 64, none, [4], LV r4 2⟩,
  ⟨Op.call { callee := Callee.value (Operand.func 44), args := #[Operand.tmp 59, Operand.tmp 64], argTypes := #[85, 85] }, some 65, none, [0, 5, 5], LV (z - r4) 1108⟩]
noncomputable def wi15_base (g2 g4 g5 : Nat) : List (Nat × Value) := [(2, .pointer (some ⟨g2, 0, none⟩)), (4, .pointer (some ⟨g4, 0, none⟩)), (5, .pointer (some ⟨g5, 0, none⟩))]
set_option maxRecDepth 100000 in
set_option maxHeartbeats 4000000 in
theorem wi15_steps (V : World) (A' : Option Addr) (n' c' k : Nat) (z r4 less : Int) (g2 g4 g5 : Nat) (R5 : ∀ w', Lat V w' → w'.rangeAt g5 0 [.bool false, .slice A' n' c']) (J85 : (Tryz.prog.info? 85).map (·.size) = some 2) (R2 : ∀ w', Lat V w' → w'.cell? ⟨g2, 2, none⟩ = some (.int .u32 less))
    (hm : less.tmod 4 = r4) (hw4 : IntKind.i64.wrap r4 = r4) (hw32 : IntKind.u32.wrap r4 = r4)
    (HL4 : ∀ w, Calls Tryz.prog 38 #[.int .i64 r4] w (RefPost w r4 2))
    (HMN : ∀ b2 A2 n2 c2 w, Lat V w → Rg w b2 A2 n2 c2 r4 → n2 ≤ 2 → Calls Tryz.prog 44 #[.agg #[.bool false, .slice A' n' c'], .agg #[.bool b2, .slice A2 n2 c2]] w (RefPost w (z - r4) 1108)) :
    AllSteps Tryz.prog (wi15_rows A' n' c' k z r4 less g2) (wi15_base g2 g4 g5) V (wi15_rows A' n' c' k z r4 less g2) := by
  refine AllSteps.next (fun _ _ _ h _ => h) (fun j b h => by cases h) (fun a w hl hb hd o ho => by have e1 := hb 5 _ rfl; exact Runs.val (yv_load (S := Lat V) e1 R5 Tryz.underlying85 rfl J85 o w ho hl) ⟨Lat.refl _, fun _ => rfl⟩) ?_
  refine AllSteps.next (fun _ _ _ h _ => h) (fun j b h => by cases h) (fun a w hl hb hd o ho => by have e1 := hb 2 _ rfl; obtain ⟨d, op, ty, p, af, g⟩ := o; simp only at ho; subst ho; have ec : ∀ v, a.eval (.const v) = v := fun _ => rfl; exact Runs.val (by unfold execOp; generalize a.eval = ev at e1 ec ⊢; simp only [e1, ec]; go_simp) ⟨Lat.refl _, fun _ => rfl⟩) ?_
  refine AllSteps.next (fun _ _ _ h _ => h) (fun j b h => by cases h) (fun a w hl hb hd o ho => by obtain ⟨v1, e1, q1⟩ := hd 1 _ _ (by simp) rfl rfl; subst q1; obtain ⟨d, op, ty, p, af, g⟩ := o; simp only at ho; subst ho; have ec : ∀ v, a.eval (.const v) = v := fun _ => rfl; exact Runs.val (by unfold execOp; generalize a.eval = ev at e1 ec ⊢; simp only [e1, ec]; have hc := R2 w hl; go_simp) ⟨Lat.refl _, fun _ => rfl⟩) ?_
  refine AllSteps.next (fun _ _ _ h _ => h) (fun j b h => by cases h) (fun a w hl hb hd o ho => by obtain ⟨v1, e1, q1⟩ := hd 2 _ _ (by simp) rfl rfl; subst q1; obtain ⟨d, op, ty, p, af, g⟩ := o; simp only at ho; subst ho; have ec : ∀ v, a.eval (.const v) = v := fun _ => rfl; exact Runs.val (by unfold execOp; generalize a.eval = ev at e1 ec ⊢; simp only [e1, ec]; go_simp) ⟨Lat.refl _, fun _ => rfl⟩) ?_
  refine AllSteps.next (fun _ _ _ h _ => h) (fun j b h => by cases h) (fun a w hl hb hd o ho => by obtain ⟨v1, e1, q1⟩ := hd 3 _ _ (by simp) rfl rfl; subst q1; obtain ⟨d, op, ty, p, af, g⟩ := o; simp only at ho; subst ho; have ec : ∀ v, a.eval (.const v) = v := fun _ => rfl; exact Runs.val (by unfold execOp; generalize a.eval = ev at e1 ec ⊢; simp only [e1, ec]; go_simp) ⟨Lat.refl _, fun _ => rfl⟩) ?_
  refine AllSteps.next (fun _ _ _ h hl => h.mono hl) (fun j b h => by cases h) (fun a w hl hb hd o ho => by obtain ⟨v1, e1, q1⟩ := hd 4 _ _ (by simp) rfl rfl; subst q1; exact Runs.call (yv_call (f := 38) (fun _ => by go_simp) o ho (by simp only [List.map_toArray, List.map_cons, List.map_nil, eval_const, e1])) ((HL4 w).mono fun e w' h => h.run)) ?_
  refine AllSteps.next (fun _ _ _ h hl => h.mono hl) (fun j b h => by cases h) (fun a w hl hb hd o ho => by obtain ⟨v1, e1, q1⟩ := hd 0 _ _ (by simp) rfl rfl; subst q1; obtain ⟨v2, e2, q2⟩ := hd 5 _ _ (by simp) rfl rfl; obtain ⟨b2, A2, n2, c2, rfl, r2, m2⟩ := (show LV r4 2 v2 w from q2); exact Runs.call (yv_call (f := 44) (fun _ => by go_simp) o ho (by simp only [List.map_toArray, List.map_cons, List.map_nil, eval_const, e1, e2])) ((HMN b2 A2 n2 c2 w hl r2 m2).mono fun e w' h => h.run)) ?_
  exact AllSteps.none
theorem spell76 (T : Array Value) (h : T.size = 76) : ∃ f : Nat → Value, (∀ k, f k = T.getD k undef) ∧ T = #[f 0, f 1, f 2, f 3, f 4, f 5, f 6, f 7, f 8, f 9, f 10, f 11, f 12, f 13, f 14, f 15, f 16, f 17, f 18, f 19, f 20, f 21, f 22, f 23, f 24, f 25, f 26, f 27, f 28, f 29, f 30, f 31, f 32, f 33, f 34, f 35, f 36, f 37, f 38, f 39, f 40, f 41, f 42, f 43, f 44, f 45, f 46, f 47, f 48, f 49, f 50, f 51, f 52, f 53, f 54, f 55, f 56, f 57, f 58, f 59, f 60, f 61, f 62, f 63, f 64, f 65, f 66, f 67, f 68, f 69, f 70, f 71, f 72, f 73, f 74, f 75] := ⟨fun k => T.getD k undef, fun _ => rfl, (spell 76 T h).trans (by kernel_rfl)⟩
set_option maxRecDepth 100000 in
set_option maxHeartbeats 4000000 in
theorem rWithin_any (b : Bool) (A : Option Addr) (n c : Nat) (xs : List Int) (less lim : Int) (w : World) (hs : Sl w .u16 A n xs) (hx : ∀ x ∈ xs, 0 ≤ x ∧ x ≤ 65535) (hl : 0 ≤ less ∧ less < 4294967296) (h1 : 1 ≤ lim) (h2 : lim ≤ 511) :
    Calls Tryz.prog 11 #[.agg #[.bool b, .slice A n c, .int .u32 less], .int .i64 lim] w (fun e w' => ∃ u : W8, e = .returned (.agg #[.int .u64 u.a0, .int .u64 u.a1, .int .u64 u.a2, .int .u64 u.a3, .int .u64 u.a4, .int .u64 u.a5, .int .u64 u.a6, .int .u64 u.a7]) ∧ u.ok ∧ Lat w w') := by
  have HX := Lib.hid hx
  have HQ : Hid (∀ x, 0 ≤ x → ∃ q, WiQ x lim q) := fun x h => wiQ h h1 h2
  have hlim0 : (lim == 0) = false := by rw [beq_eq_false_iff_ne]; omega
  have hlimN : ¬ lim = 0 := by omega
  have hm : less.tmod 4 = less % 4 := Int.tmod_eq_emod_of_nonneg hl.1
  obtain ⟨r4, hr4⟩ : ∃ q, less % 4 = q := ⟨_, rfl⟩
  have hq2 : 0 ≤ r4 ∧ r4 < 4 := by omega
  have hw4 : IntKind.i64.wrap r4 = r4 := by rw [IntWalk.i64_left]; exact IntWalk.wrap64_in _ (by omega)
  have hw32 : IntKind.u32.wrap r4 = r4 := by have : IntKind.u32.wrap r4 = r4 % 4294967296 := rfl; rw [this]; omega
  rw [hr4] at hm
  have HL4 := Lib.hid (fun w => rLong1_any r4 w (by omega) (by omega))
  have HL2 := Lib.hid (fun w => (rLong1_any 2 w (by decide) (by decide)).mono fun e w' h => h.nonneg (by decide))
  have HM := Lib.hid (And.intro hm (And.intro hw4 hw32))
  clear hx hl h1 h2 hq2 hr4 hm hw4 hw32
  go_enter Tryz.func11, Tryz.ntmps11
  go_upto_region 1 with (fail)
  refine name2 (Q := fun W => Code.wp _ _ _ _ W) ?_
  intro W lw hsz k2 k4
  obtain ⟨g4, hg4⟩ : ∃ z, w.heap.size + 1 = z := ⟨_, rfl⟩
  obtain ⟨g2, hg2⟩ : ∃ z, w.heap.size = z := ⟨_, rfl⟩
  have hb : w.heap.size ≤ g2 ∧ g2 < g4 := by omega
  rw [hg4] at k4
  rw [hg2] at k2
  rw [hg4, hg2]
  clear hg4 hg2 hsz
  have h4l := k4.lt
  go_upto_region 2 with (fail)
  refine name1 (Q := fun W => Code.wp _ _ _ _ W) ?_
  intro V lv hsz k5
  obtain ⟨g5, hg5⟩ : ∃ z, W.heap.size = z := ⟨_, rfl⟩
  have h45 : g4 < g5 := by omega
  rw [hg5] at k5 ⊢
  replace k2 := k2.later lv
  replace k4 := k4.later lv
  have LV0 := lw.trans lv
  clear lv lw hsz hg5 h4l
  obtain ⟨B, hB⟩ : ∃ B, V.heap.size = B := ⟨_, rfl⟩
  have h5B : g5 < B := by have := k5.lt; omega
  have hw2 : w.heap.size ≤ g2 := hb.1
  have hw5 : w.heap.size ≤ g5 := by omega
  have ho0 : Own V B 3 .i64 (.slice none 0 0) [] := Own.nil _ _ _ _
  have hr0 : Rg V false none 0 0 0 := rg_nil V
  go_upto_region 4 with (fail)
  go_loopw [6, 7] (fun v i wr => ∃ (k : Nat) (ys : List Int) (A' : Option Addr) (n' c' : Nat) (z : Int), i = .int .i64 k ∧ k ≤ 6 ∧ ys.length ≤ k ∧ Own wr B 3 .i64 v ys ∧ 0 ≤ z ∧ Rg wr false A' n' c' z ∧ n' ≤ 1100 + k ∧ Blk wr g2 30 #[.bool b, .slice A n c, .int .u32 less] ∧ Blk wr g4 26 #[.int .u64 W8.zero.a0, .int .u64 W8.zero.a1, .int .u64 W8.zero.a2, .int .u64 W8.zero.a3, .int .u64 W8.zero.a4, .int .u64 W8.zero.a5, .int .u64 W8.zero.a6, .int .u64 W8.zero.a7] ∧ Blk wr g5 85 #[.bool false, .slice A' n' c'] ∧ Lat w wr ∧ B ≤ wr.heap.size) (fun _ i _ => 6 - (intOf i).toNat)
  case atStart => exact ⟨0, [], none, 0, 0, 0, rfl, by omega, by simp, ho0, by omega, hr0, by omega, k2, k4, k5, LV0, by omega⟩
  case round =>
    clear ho0 hr0 k2 k4 k5 LV0 hB
    obtain ⟨k, ys, A', n', c', z, rfl, hk6, hyk, hown, hz, hr, hn', k2, k4, k5, L, hBw⟩ := hrel
    have e0 := k2.cell 0
    have e1 := k2.cell 1
    have e2 := k2.cell 2
    by_cases hlt : k < n ∧ k < 6
    · obtain ⟨hkn, hk⟩ := hlt
      obtain ⟨a, x, rfl, ha, hxk, hcell⟩ := (hs.later L).at hkn
      have hx := HX.out x (List.mem_of_getElem? hxk)
      have hx0 := hx.1
      have hx1 := hx.2
      obtain ⟨q, hq⟩ := HQ.out x hx0
      obtain ⟨hqe, hqw, hq5⟩ := hq
      have hkI : (k : Int) < 6 := by omega
      have hknI : (k : Int) < (n : Int) := by omega
      clear hxk hx
      obtain ⟨A3, c3, rfl, hsl, hcc, hfr⟩ := hown.form
      go_wp2_with fail
      go_loopw [9, 10] (fun is j W => ∃ (jj : Nat) (bb : Bool), is = .bool bb ∧ j = .int .i64 jj ∧ jj ≤ ys.length ∧ W = wr) (fun _ j _ => ys.length - (intOf j).toNat)
      case atStart => exact ⟨0, false, rfl, rfl, by omega, rfl⟩
      case round =>
        obtain ⟨jj, bb, rfl, rfl, hjl, rfl⟩ := hrel
        by_cases hjy : jj < ys.length
        · obtain ⟨a3, y, rfl, ha3, hyj, hcy⟩ := hsl.at hjy
          have hjI : (jj : Int) < (ys.length : Int) := by omega
          cases bb with
          | true =>
            go_wp2
            go_roundw
            case rel => exact ⟨jj + 1, _, rfl, by go_num, by omega, trivial⟩
            case measure => simp [intOf]; omega
          | false =>
            go_wp2
            go_roundw
            case rel => exact ⟨jj + 1, _, rfl, by go_num, by omega, trivial⟩
            case measure => simp [intOf]; omega
        · obtain rfl : jj = ys.length := by omega
          cases bb with
          | true =>
            go_wp2
            go_roundw
            case rel => exact ⟨k + 1, ys, A', n', c', z, by go_num, by omega, by omega, hown, hz, hr, by omega, k2, k4, k5, L, hBw⟩
            case measure => simp [intOf]; omega
          | false =>
            obtain ⟨p, hp0, HR⟩ := wi_raise q hq5
            have HP := wi_plus (c' := c') (p := p) hr hz hn' hp0
            have hzp : 0 ≤ z + p := Int.add_nonneg hz hp0
            have HRH := Lib.hid HR
            have HPH := Lib.hid HP
            clear HR HP hp0 e0 e1 e2 hcell hqe hsl
            go_upto_region 13 with (fail)
            have HPk := fun A1 n1 c1 w h1 h2 h3 => HPH.out A1 n1 c1 w h1 h2 h3 hk6
            have R5 : ∀ w', Lat wr w' → w'.rangeAt g5 0 [.bool false, .slice A' n' c'] := fun w' hl => (k5.later hl).rangeAll
            have J85 : (Tryz.prog.info? 85).map (·.size) = some 2 := by kernel_rfl
            rename_i KN hKN
            refine wp_region_slotsL (wi13_rows A' n' c' wr.heap.size q k z p) (wi13_base b a n c less lim g2 g4 g5 A3 ys.length c3 k q) 76 5 [[], [], [], [1, 2, 1], [0, 3, 3], [4, 4, 0, 1, 2, 3, 4]] (by kernel_rfl) _ rfl rfl (by kernel_rfl) (by kernel_rfl) (by kernel_rfl) (by kernel_rfl) (by kernel_rfl) (by kernel_rfl) (by rfl) rfl ?_ ?_ ?_
            ·
              exact base_of (base_cons (by rfl) (base_cons (by rfl) (base_cons (by rfl) (base_cons (by rfl) (base_cons (by rfl) (base_cons (by rfl) (base_cons (by rfl) (base_cons (by rfl) (base_cons (by rfl) (base_cons (by rfl) (base_cons (by rfl) (base_cons (by rfl) (base_cons (by rfl) (base_cons (by rfl) (base_cons (by rfl) (base_cons (by rfl) (base_cons (by rfl) (base_cons (by rfl) (base_cons (by rfl) (base_cons (by rfl) (base_cons (by rfl) (base_cons (by rfl) (base_cons (by rfl) (base_cons (by rfl) (base_cons (by rfl) (base_cons (by rfl) (base_cons (by rfl) (base_cons (by rfl) (base_cons (by rfl) (base_nil _))))))))))))))))))))))))))))))
            · exact wi13_steps wr A' n' c' wr.heap.size z p b a n c less lim g2 g4 g5 A3 ys.length c3 k q (Nat.le_refl _) R5 J85 HL2.out HRH.out HPk
            · intro a9 W9 hsz9 hdf9 hL9 hbs hsl
              obtain ⟨v9, h09, qv9⟩ := hsl 4 _ _ rfl rfl
              obtain ⟨A6, n6, c6, rfl, s1, s2, s4⟩ := (show LNF (z + p) (1100 + (k + 1)) wr.heap.size v9 W9 from qv9)
              have K9 := k5.later hL9
              refine wp_store_mid 85 (.tmp 5) (.tmp 54) rfl g5 0 #[.bool false, .slice A6 n6 c6] (hbs 5 _ rfl).ev h09.ev (K9.thereAll _ rfl) (by kernel_rfl) (by simp [Value.oneCell']) ?_
              refine hKN _ _ ?_
              obtain ⟨T9, df9⟩ := a9
              obtain rfl : df9 = [] := hdf9
              obtain ⟨f, hf, rfl⟩ := spell76 T9 hsz9
              have x0 : f 0 = .agg #[.bool b, .slice (some a) n c, .int .u32 less] := (hf 0).trans (slot_getD (hbs 0 _ rfl))
              have x1 : f 1 = .int .i64 lim := (hf 1).trans (slot_getD (hbs 1 _ rfl))
              have x2 : f 2 = .pointer (some ⟨g2, 0, none⟩) := (hf 2).trans (slot_getD (hbs 2 _ rfl))
              have x3 : f 3 = undef := (hf 3).trans (slot_getD (hbs 3 _ rfl))
              have x4 : f 4 = .pointer (some ⟨g4, 0, none⟩) := (hf 4).trans (slot_getD (hbs 4 _ rfl))
              have x5 : f 5 = .pointer (some ⟨g5, 0, none⟩) := (hf 5).trans (slot_getD (hbs 5 _ rfl))
              have x6 : f 6 = .slice A3 ys.length c3 := (hf 6).trans (slot_getD (hbs 6 _ rfl))
              have x7 : f 7 = .int .i64 (k : Nat) := (hf 7).trans (slot_getD (hbs 7 _ rfl))
              have x8 : f 8 = .int .i64 (q : Nat) := (hf 8).trans (slot_getD (hbs 8 _ rfl))
              have x11 : f 11 = undef := (hf 11).trans (slot_getD (hbs 11 _ rfl))
              have x12 : f 12 = undef := (hf 12).trans (slot_getD (hbs 12 _ rfl))
              have x13 : f 13 = .agg #[.bool false, .slice none 0 0] := (hf 13).trans (slot_getD (hbs 13 _ rfl))
              have x59 : f 59 = undef := (hf 59).trans (slot_getD (hbs 59 _ rfl))
              have x60 : f 60 = undef := (hf 60).trans (slot_getD (hbs 60 _ rfl))
              have x61 : f 61 = undef := (hf 61).trans (slot_getD (hbs 61 _ rfl))
              have x62 : f 62 = undef := (hf 62).trans (slot_getD (hbs 62 _ rfl))
              have x63 : f 63 = undef := (hf 63).trans (slot_getD (hbs 63 _ rfl))
              have x64 : f 64 = undef := (hf 64).trans (slot_getD (hbs 64 _ rfl))
              have x65 : f 65 = undef := (hf 65).trans (slot_getD (hbs 65 _ rfl))
              have x66 : f 66 = undef := (hf 66).trans (slot_getD (hbs 66 _ rfl))
              have x67 : f 67 = undef := (hf 67).trans (slot_getD (hbs 67 _ rfl))
              have x68 : f 68 = undef := (hf 68).trans (slot_getD (hbs 68 _ rfl))
              have x69 : f 69 = undef := (hf 69).trans (slot_getD (hbs 69 _ rfl))
              have x70 : f 70 = undef := (hf 70).trans (slot_getD (hbs 70 _ rfl))
              have x71 : f 71 = undef := (hf 71).trans (slot_getD (hbs 71 _ rfl))
              have x72 : f 72 = undef := (hf 72).trans (slot_getD (hbs 72 _ rfl))
              have x73 : f 73 = undef := (hf 73).trans (slot_getD (hbs 73 _ rfl))
              have x74 : f 74 = undef := (hf 74).trans (slot_getD (hbs 74 _ rfl))
              have x75 : f 75 = undef := (hf 75).trans (slot_getD (hbs 75 _ rfl))
              clear hbs hsl hf hsz9 h09 qv9 hKN
              simp only [Act.put, x0, x1, x2, x3, x4, x5, x6, x7, x8, x11, x12, x13, x59, x60, x61, x62, x63, x64, x65, x66, x67, x68, x69, x70, x71, x72, x73, x74, x75]
              clear x0 x1 x2 x3 x4 x5 x6 x7 x8 x11 x12 x13 x59 x60 x61 x62 x63 x64 x65 x66 x67 x68 x69 x70 x71 x72 x73 x74 x75
              refine name_long (Q := fun W => Code.wp _ _ _ _ W) K9 ?_
              intro w5 j5 lp hrg
              have hownL := hown.later hL9
              have hown5 : Own w5 B 3 .i64 (.slice A3 ys.length c3) ys := hownL.kept (fun g hg hq => lp.block g (hownL.at_ g hq).2 (by omega))
              have r5 := hrg s1
              have j2 := (k2.later hL9).keepP lp (by omega)
              have j4 := (k4.later hL9).keepP lp (by omega)
              have L5 := lp.narrow (L.trans hL9) hw5
              have hB5 : B ≤ w5.heap.size := by have := lp.size; have := hL9.size; omega
              have hfrs : ∀ a, A6 = some a → ∀ q, Value.ownBlock (.slice A3 ys.length c3) = some q → a.block ≠ q := fun a ha q hq => by
                have h1 := s4 a ha
                have h2 := (hown.at_ q hq).2
                omega
              have hOB := Lib.hid (fun q h => (hown5.at_ q h).1)
              have HF := Lib.hid hfrs
              clear K9 hownL hown s4 s1 lp hrg k2 k4 k5 L hL9 hr hfr hfrs
              go_wp2_with (at_builtin; refine wpList_pushG rfl _ _ 71 rfl B 3 3 .i64 8 Tryz.underlying71 infoI64 (by decide) _ ys [_] _ rfl w5 (by rfl) hown5 1 rfl (by decide) (by rfl) (by omega) hB5 ?_; intro v' w6 hown6 hlat6 hblk6 hsz6)
              have no : ∀ g, g < B → ¬ some g = Value.ownBlock (.slice A3 ys.length c3) := fun g hg h => by have := hOB.out g h.symm; omega
              have m2 : Blk w6 g2 30 #[.bool b, .slice (some a) n c, .int .u32 less] := (hblk6 g2 (by omega) (no g2 (by omega))).trans j2
              have m4 : Blk w6 g4 26 #[.int .u64 W8.zero.a0, .int .u64 W8.zero.a1, .int .u64 W8.zero.a2, .int .u64 W8.zero.a3, .int .u64 W8.zero.a4, .int .u64 W8.zero.a5, .int .u64 W8.zero.a6, .int .u64 W8.zero.a7] := (hblk6 g4 (by omega) (no g4 (by omega))).trans j4
              have m5 : Blk w6 g5 85 #[.bool false, .slice A6 n6 c6] := (hblk6 g5 (by omega) (no g5 (by omega))).trans j5
              have r6 := r5.kept hsz6 (fun a ha hlt => hblk6 _ hlt (fun h => HF.out a ha _ h.symm rfl))
              have L6 := hlat6 w L5 (by omega)
              go_roundw
              case rel => exact ⟨k + 1, ys ++ [(q : Int)], A6, n6, c6, z + p, by go_num, by omega, by simp; omega, hown6, by omega, r6, by omega, m2, m4, m5, L6, by omega⟩
              case measure => simp [intOf]; omega
    · have hend : ¬ ((k : Int) < (n : Int)) ∨ ((k : Int) < (n : Int) ∧ ¬ ((k : Int) < 6)) := by omega
      have hw4 : w.heap.size ≤ g4 := by omega
      have HMN := wi_minus (c' := c') (k := k) (HM := HM) hr hn' hk6
      rcases hend with hend | ⟨hend, hend6⟩
      all_goals
        go_upto_region 15 with (fail)
        have R5 : ∀ w', Lat wr w' → w'.rangeAt g5 0 [.bool false, .slice A' n' c'] := fun w' hl => (k5.later hl).rangeAll
        have J85 : (Tryz.prog.info? 85).map (·.size) = some 2 := by kernel_rfl
        have R2 : ∀ w', Lat wr w' → w'.cell? ⟨g2, 2, none⟩ = some (.int .u32 less) := fun w' hl => (k2.later hl).cell 2
        rename_i KN hKN
        refine wp_region_slotsL (wi15_rows A' n' c' k z r4 less g2) (wi15_base g2 g4 g5) 76 7 [[], [], [1], [2], [3], [4], [0, 5, 5], [6, 6, 0, 1, 2, 3, 4, 5, 6]] (by kernel_rfl) _ rfl rfl (by kernel_rfl) (by kernel_rfl) (by kernel_rfl) (by kernel_rfl) (by kernel_rfl) (by kernel_rfl) (by rfl) rfl ?_ ?_ ?_
        ·
          exact base_of (base_cons (by rfl) (base_cons (by rfl) (base_cons (by rfl) (base_nil _))))
        · exact wi15_steps wr A' n' c' k z r4 less g2 g4 g5 R5 J85 R2 HM.out.1 HM.out.2.1 HM.out.2.2 HL4.out HMN
        · intro a9 W9 hsz9 hdf9 hL9 hbs hsl
          obtain ⟨v9, h09, qv9⟩ := hsl 6 _ _ rfl rfl
          obtain ⟨b6, A6, n6, c6, rfl, s1, s2⟩ := (show LV (z - r4) 1108 v9 W9 from qv9)
          have K9 := k5.later hL9
          refine wp_store_mid 85 (.tmp 5) (.tmp 65) rfl g5 0 #[.bool b6, .slice A6 n6 c6] (hbs 5 _ rfl).ev h09.ev (K9.thereAll _ rfl) (by kernel_rfl) (by simp [Value.oneCell']) ?_
          refine hKN _ _ ?_
          obtain ⟨T9, df9⟩ := a9
          obtain rfl : df9 = [] := hdf9
          obtain ⟨f, hf, rfl⟩ := spell76 T9 hsz9
          have x2 : f 2 = .pointer (some ⟨g2, 0, none⟩) := (hf 2).trans (slot_getD (hbs 2 _ rfl))
          have x4 : f 4 = .pointer (some ⟨g4, 0, none⟩) := (hf 4).trans (slot_getD (hbs 4 _ rfl))
          have x5 : f 5 = .pointer (some ⟨g5, 0, none⟩) := (hf 5).trans (slot_getD (hbs 5 _ rfl))
          clear hbs hsl hf hsz9 h09 qv9 hKN
          simp only [Act.put, x2, x4, x5]
          clear x2 x4 x5
          refine name_long (Q := fun W => Code.wp _ _ _ _ W) K9 ?_
          intro w5 j5 lp hrg
          have r5 := hrg s1
          have j2 := (k2.later hL9).keepP lp (by omega)
          have j4 := (k4.later hL9).keepP lp (by omega)
          have L5 := lp.narrow (L.trans hL9) hw5
          clear K9 s1 lp hrg k2 k4 k5 L hL9 hr HMN hown
          have d0 := j2.cell 0
          have y0 := j5.cell 0
          have y1 := j5.cell 1
          cases b with
          | false =>
            go_wp2_with fail
            refine (rOut_any _ _ _ _ _ w5 r5 (by omega)).mono ?_
            rintro e w6 ⟨u, r, rfl, hu, lu⟩
            have LU := L5
            clear d0 y0 y1 j2 j5 r5 L5
            have huo : u.ok := by
              rcases hu with ⟨_, _, rfl, _⟩ | ⟨_, rfl, _⟩
              · exact W8.of_ok _
              · exact W8.zero_ok
            replace j4 := j4.later lu
            have L6 := LU.trans lu
            clear hu lu LU
            go_upto_region 19 with (fail)
            refine name1 (Q := fun W => Code.wp _ _ _ _ W) ?_
            intro w8 l8 hs8 k11
            replace j4 := j4.later l8
            have d0 := k11.cell 0
            have d1 := k11.cell 1
            have d2 := k11.cell 2
            have d3 := k11.cell 3
            have d4 := k11.cell 4
            have d5 := k11.cell 5
            have d6 := k11.cell 6
            have d7 := k11.cell 7
            have p0 := j4.cell 0
            have p1 := j4.cell 1
            have p2 := j4.cell 2
            have p3 := j4.cell 3
            have p4 := j4.cell 4
            have p5 := j4.cell 5
            have p6 := j4.cell 6
            have p7 := j4.cell 7
            have f0 := j4.frozen 0
            have f1 := j4.frozen 1
            have f2 := j4.frozen 2
            have f3 := j4.frozen 3
            have f4 := j4.frozen 4
            have f5 := j4.frozen 5
            have f6 := j4.frozen 6
            have f7 := j4.frozen 7
            have hlt4 := j4.lt
            go_wp2
            refine name_put8 (Q := fun W => bodyPost _ _ _ _ _ W) j4 ?_
            intro w9 k9 l9
            have e0 := k9.cell 0
            have e1 := k9.cell 1
            have e2 := k9.cell 2
            have e3 := k9.cell 3
            have e4 := k9.cell 4
            have e5 := k9.cell 5
            have e6 := k9.cell 6
            have e7 := k9.cell 7
            refine bodyPost_ret (v := .agg #[.int .u64 u.a0, .int .u64 u.a1, .int .u64 u.a2, .int .u64 u.a3, .int .u64 u.a4, .int .u64 u.a5, .int .u64 u.a6, .int .u64 u.a7]) (by simp [results, Tryz.results11, go_sem, e0, e1, e2, e3, e4, e5, e6, e7]) rfl ?_
            exact ⟨u, rfl, huo, l9.narrow (L6.trans l8) hw4⟩
          | true =>
            go_wp2_with fail
            refine (rTurn_any _ _ _ _ _ w5 r5 (by omega)).mono ?_
            rintro e w6 ⟨b7, A7, n7, c7, rfl, r7, m7, l6⟩
            replace j4 := j4.later l6
            replace j5 := j5.later l6
            have LT := L5.trans l6
            clear d0 y0 y1 j2 r5 L5 l6
            have y0 := j5.cell 0
            have y1 := j5.cell 1
            have f0 := j5.frozen 0
            have f1 := j5.frozen 1
            have hlt5 := j5.lt
            go_upto_region 18 with (fail)
            refine name_long (Q := fun W => Code.wp _ _ _ _ W) j5 ?_
            intro w7 j7 lp7 hrg7
            have r8 := hrg7 r7
            replace j4 := j4.keepP lp7 (by omega)
            have LU := lp7.narrow LT hw5
            clear y0 y1 f0 f1 hlt5 j5 lp7 hrg7 r7 LT
            have y0 := j7.cell 0
            have y1 := j7.cell 1
            go_wp2_with fail
            refine (rOut_any _ _ _ _ _ w7 r8 (by omega)).mono ?_
            rintro e w9 ⟨u, r, rfl, hu, lu⟩
            clear y0 y1 j7 r8
            have huo : u.ok := by
              rcases hu with ⟨_, _, rfl, _⟩ | ⟨_, rfl, _⟩
              · exact W8.of_ok _
              · exact W8.zero_ok
            replace j4 := j4.later lu
            have L6 := LU.trans lu
            clear hu lu LU
            go_upto_region 19 with (fail)
            refine name1 (Q := fun W => Code.wp _ _ _ _ W) ?_
            intro w8 l8 hs8 k11
            replace j4 := j4.later l8
            have d0 := k11.cell 0
            have d1 := k11.cell 1
            have d2 := k11.cell 2
            have d3 := k11.cell 3
            have d4 := k11.cell 4
            have d5 := k11.cell 5
            have d6 := k11.cell 6
            have d7 := k11.cell 7
            have p0 := j4.cell 0
            have p1 := j4.cell 1
            have p2 := j4.cell 2
            have p3 := j4.cell 3
            have p4 := j4.cell 4
            have p5 := j4.cell 5
            have p6 := j4.cell 6
            have p7 := j4.cell 7
            have f0 := j4.frozen 0
            have f1 := j4.frozen 1
            have f2 := j4.frozen 2
            have f3 := j4.frozen 3
            have f4 := j4.frozen 4
            have f5 := j4.frozen 5
            have f6 := j4.frozen 6
            have f7 := j4.frozen 7
            have hlt4 := j4.lt
            go_wp2
            refine name_put8 (Q := fun W => bodyPost _ _ _ _ _ W) j4 ?_
            intro w9 k9 l9
            have e0 := k9.cell 0
            have e1 := k9.cell 1
            have e2 := k9.cell 2
            have e3 := k9.cell 3
            have e4 := k9.cell 4
            have e5 := k9.cell 5
            have e6 := k9.cell 6
            have e7 := k9.cell 7
            refine bodyPost_ret (v := .agg #[.int .u64 u.a0, .int .u64 u.a1, .int .u64 u.a2, .int .u64 u.a3, .int .u64 u.a4, .int .u64 u.a5, .int .u64 u.a6, .int .u64 u.a7]) (by simp [results, Tryz.results11, go_sem, e0, e1, e2, e3, e4, e5, e6, e7]) rfl ?_
            exact ⟨u, rfl, huo, l9.narrow (L6.trans l8) hw4⟩
end Go.Proofs.YtogkkhaepfablaaGreat

/- A draft of a number that came in. -/
namespace Go.Proofs.YtogkkhaepfablaaGreat
open Go.RowKit

/-- A draft of a number that came in. -/
structure DrIn (w : World) (A : Option Addr) (n : Nat) (less : Int) : Prop where
  l0 : 0 ≤ less ∧ less < 4294967296
  s : ∃ xs, Sl w .u16 A n xs ∧ ∀ x ∈ xs, 0 ≤ x ∧ x ≤ 65535
theorem DrIn.later {W w : World} {A : Option Addr} {n : Nat} {less : Int} (h : DrIn W A n less) (hl : Lat W w) : DrIn w A n less := by
  obtain ⟨h1, xs, h2, h3⟩ := h
  exact ⟨h1, xs, h2.later hl, h3⟩
theorem DrIn.within {w : World} {A : Option Addr} {n : Nat} {less : Int} (h : DrIn w A n less) (b : Bool) (c : Nat) (lim : Int) (h1 : 1 ≤ lim) (h2 : lim ≤ 511) :
    Calls Tryz.prog 11 #[.agg #[.bool b, .slice A n c, .int .u32 less], .int .i64 lim] w (fun e w' => ∃ u : W8, e = .returned (.agg #[.int .u64 u.a0, .int .u64 u.a1, .int .u64 u.a2, .int .u64 u.a3, .int .u64 u.a4, .int .u64 u.a5, .int .u64 u.a6, .int .u64 u.a7]) ∧ u.ok ∧ Lat w w') := by
  obtain ⟨hl, xs, hs, hx⟩ := h
  exact rWithin_any b A n c xs less lim w hs hx hl h1 h2
end Go.Proofs.YtogkkhaepfablaaGreat

/- Equality of wide numbers, as the walk meets it. -/
namespace Go.Proofs.YtogkkhaepfablaaGreat
open Go.RowKit

theorem wide_in {u v : W8} (hu : u.ok) (hv : v.ok) (w : World) : (Op.equalIn 10000 26 (.agg #[.int .u64 u.a0, .int .u64 u.a1, .int .u64 u.a2, .int .u64 u.a3, .int .u64 u.a4, .int .u64 u.a5, .int .u64 u.a6, .int .u64 u.a7]) (.agg #[.int .u64 v.a0, .int .u64 v.a1, .int .u64 v.a2, .int .u64 v.a3, .int .u64 v.a4, .int .u64 v.a5, .int .u64 v.a6, .int .u64 v.a7])).run Tryz.prog w = .ok (decide (u.mag = v.mag)) w := by
  obtain ⟨r, hr, hi⟩ := run_equalIn_deep (P := Tryz.prog) 9990 10 26 (by kernel_rfl) w 10 10 (.agg #[.int .u64 u.a0, .int .u64 u.a1, .int .u64 u.a2, .int .u64 u.a3, .int .u64 u.a4, .int .u64 u.a5, .int .u64 u.a6, .int .u64 u.a7]) (.agg #[.int .u64 v.a0, .int .u64 v.a1, .int .u64 v.a2, .int .u64 v.a3, .int .u64 v.a4, .int .u64 v.a5, .int .u64 v.a6, .int .u64 v.a7]) _ _ (by kernel_rfl) (by kernel_rfl) (key30 hu 8) (key30 hv 8)
  have e : r = decide (u.mag = v.mag) := by
    rw [litsW_inj] at hi
    rw [Bool.eq_iff_iff, decide_eq_true_eq, hi]
    exact ⟨fun h => by rw [h], fun h => W8.mag_inj hu hv h⟩
  rw [hr, e]
end Go.Proofs.YtogkkhaepfablaaGreat

/- Loads of a struct at an offset of a block. -/
namespace Go.Proofs.YtogkkhaepfablaaGreat
open Go.RowKit
set_option linter.unusedSimpArgs false

theorem yv_loadO {P : Program} {S : World → Prop} {a : Act} {ty : TypeId} {x : Operand} {b o : Nat} {cs : List Value} {d : TypeDesc} (hx : a.eval x = .pointer (some ⟨b, o, none⟩)) (hR : ∀ w, S w → w.rangeAt b o cs) (hu : P.underlying ty = some d) (hd : d.isRow = true) (hi : (P.info? ty).map (·.size) = some cs.length) :
    ∀ (op : Oper) (w : World), op.op = .load ty x → S w → (execOp a.eval op).run P w = .ok (.value (.agg cs.toArray)) w := by
  intro op w ho hS
  unfold execOp
  simp only [ho, hx, Instr.loadAt, Instr.sureAddr, Sem.run_bind, Sem.run_pure, Result.andThen_ok, run_loadVar_mid w b o ty cs d (hR w hS) hu hd hi]
theorem rangeO {w : World} {g : Nat} {t : TypeId} {cs : Array Value} (h : Blk w g t cs) (o : Nat) (l : List Value) (hl : ∀ j v, l[j]? = some v → cs[o + j]? = some v) : w.rangeAt g o l := fun j v hj => by rw [h.cell]; exact hl j v hj
theorem six_lo {a b c d e f : Value} : ∀ (j : Nat) (v : Value), [a, b, c][j]? = some v → (#[a, b, c, d, e, f] : Array Value)[0 + j]? = some v := by
  intro j v h
  match j, h with
  | 0, h => simpa using h
  | 1, h => simpa using h
  | 2, h => simpa using h
theorem six_hi {a b c d e f : Value} : ∀ (j : Nat) (v : Value), [d, e, f][j]? = some v → (#[a, b, c, d, e, f] : Array Value)[3 + j]? = some v := by
  intro j v h
  match j, h with
  | 0, h => simpa using h
  | 1, h => simpa using h
  | 2, h => simpa using h
end Go.Proofs.YtogkkhaepfablaaGreat
