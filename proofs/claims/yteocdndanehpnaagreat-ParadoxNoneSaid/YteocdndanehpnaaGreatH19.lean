/- Several texts in one: Frac. -/
import Derived.Test.YteocdndanehpnaaGreatH11
namespace Go.Proofs.YteocdndanehpnaaGreat
open Go.RowKit
theorem low_pos {x y : Int} (hy : 0 < y) : lowN x y = x / Int.gcd x y ∧ lowD x y = y / Int.gcd x y := by
 rw [lowN, lowD, if_neg (by omega), if_neg (by omega)]; exact ⟨rfl, rfl⟩
theorem gcd_pos' {x y : Int} (hy : 0 < y) : (0 : Int) < Int.gcd x y := by
 have := Int.gcd_pos_of_ne_zero_right x (show y ≠ 0 by omega)
 omega
theorem low_mul {x y : Int} (hy : 0 < y) : lowN x y * Int.gcd x y = x ∧ lowD x y * Int.gcd x y = y := by
 obtain ⟨h1, h2⟩ := low_pos (x := x) hy
 rw [h1, h2]
 exact ⟨Int.ediv_mul_cancel (Int.gcd_dvd_left ..), Int.ediv_mul_cancel (Int.gcd_dvd_right ..)⟩
theorem lowD_pos {x y : Int} (hy : 0 < y) : 0 < lowD x y := by
 have h := (low_mul (x := x) hy).2
 have hg := gcd_pos' (x := x) hy
 rcases Int.lt_or_le 0 (lowD x y) with h1 | h1
 ·exact h1
 ·have := Int.mul_le_mul_of_nonneg_right h1 (Int.le_of_lt hg)
  omega
theorem low_ok {x y : Int} (hy : 0 < y) : ShOk (lowN x y) (lowD x y) := by
 refine ⟨lowD_pos hy, ?_⟩
 obtain ⟨h1, h2⟩ := low_pos (x := x) hy
 rw [h1, h2]
 exact Int.gcd_ediv_gcd_ediv_gcd (by have := gcd_pos' (x := x) hy; omega)
theorem low_cross {x y : Int} (hy : 0 < y) : lowN x y * y = x * lowD x y := by
 obtain ⟨h1, h2⟩ := low_mul (x := x) hy
 have e : lowN x y * y = lowN x y * (lowD x y * Int.gcd x y) := by rw [h2]
 have e' : x * lowD x y = lowN x y * Int.gcd x y * lowD x y := by rw [h1]
 rw [e, e']
 grind
theorem cop_dvd {a b c : Int} (h : Int.gcd a b = 1) (hd : a ∣ b * c) : a ∣ c := by
 have h1 : a.natAbs ∣ b.natAbs * c.natAbs := by rw [← Int.natAbs_mul]; exact Int.natAbs_dvd_natAbs.2 hd
 exact Int.natAbs_dvd_natAbs.1 (Nat.Coprime.dvd_of_dvd_mul_left h h1)
theorem frac_unique {n1 d1 n2 d2 : Int} (h1 : ShOk n1 d1) (h2 : ShOk n2 d2) (h : n1 * d2 = n2 * d1) : n1 = n2 ∧ d1 = d2 := by
 have e1 : d1 ∣ d2 := by
  refine cop_dvd (b := n1) (by rw [Int.gcd_comm]; exact h1.2) ?_
  rw [h]; exact Int.dvd_mul_left ..
 have e2 : d2 ∣ d1 := by
  refine cop_dvd (b := n2) (by rw [Int.gcd_comm]; exact h2.2) ?_
  rw [← h]; exact Int.dvd_mul_left ..
 have e : d1 = d2 := Int.dvd_antisymm (Int.le_of_lt h1.1) (Int.le_of_lt h2.1) e1 e2
 subst e
 refine ⟨?_, rfl⟩
 exact Int.eq_of_mul_eq_mul_right (by have := h1.1; omega) h
theorem low_congr {a b c d : Int} (hb : 0 < b) (hd : 0 < d) (h : a * d = c * b) : lowN a b = lowN c d ∧ lowD a b = lowD c d := by
 refine frac_unique (low_ok hb) (low_ok hd) ?_
 have h1 := low_cross (x := a) hb
 have h2 := low_cross (x := c) hd
 have e : (lowN a b * lowD c d) * (b * d) = (lowN c d * lowD a b) * (b * d) := by
  have e1 : (lowN a b * lowD c d) * (b * d) = (lowN a b * b) * (lowD c d * d) := by grind
  have e2 : (lowN c d * lowD a b) * (b * d) = (lowN c d * d) * (lowD a b * b) := by grind
  rw [e1, e2, h1, h2]
  have e3 : a * lowD a b * (lowD c d * d) = (a * d) * (lowD a b * lowD c d) := by grind
  have e4 : c * lowD c d * (lowD a b * b) = (c * b) * (lowD a b * lowD c d) := by grind
  rw [e3, e4, h]
 exact Int.eq_of_mul_eq_mul_right (by have := Int.mul_pos hb hd; omega) e
theorem low_abs {x y : Int} (hy : 0 < y) : (lowN x y).natAbs ≤ x.natAbs ∧ lowD x y ≤ y := by
 obtain ⟨h1, h2⟩ := low_mul (x := x) hy
 have hg := gcd_pos' (x := x) hy
 constructor
 ·have : x.natAbs = (lowN x y).natAbs * (Int.gcd x y) := by
   conv => lhs; rw [← h1]
   rw [Int.natAbs_mul]; simp
  rw [this]
  exact Nat.le_mul_of_pos_right _ (by omega)
 ·have := Int.mul_le_mul_of_nonneg_left (show (1 : Int) ≤ Int.gcd x y by omega) (Int.le_of_lt (lowD_pos (x := x) hy))
  omega
theorem side_scale {a k : Int} (hk : 0 < k) : sideOf (a * k) = sideOf a := by
 unfold sideOf
 rcases Int.lt_trichotomy a 0 with h | h | h
 ·rw [if_pos h, if_pos (Int.mul_neg_of_neg_of_pos h hk)]
 ·subst h; simp
 ·have := Int.mul_pos h hk
  rw [if_neg (by omega), if_neg (by omega), if_neg (by omega), if_neg (by omega)]
theorem side_low {a b c d : Int} (hb : 0 < b) (hd : 0 < d) : sideOf (lowN a b * lowD c d - lowN c d * lowD a b) = sideOf (a * d - c * b) := by
 obtain ⟨h1, h2⟩ := low_mul (x := a) hb
 obtain ⟨h3, h4⟩ := low_mul (x := c) hd
 have hg := gcd_pos' (x := a) hb
 have hg' := gcd_pos' (x := c) hd
 have e : a * d - c * b = (lowN a b * lowD c d - lowN c d * lowD a b) * ((Int.gcd a b : Int) * (Int.gcd c d : Int)) := by
  generalize lowN a b = p at *
  generalize lowD a b = q at *
  generalize lowN c d = r at *
  generalize lowD c d = s at *
  generalize (Int.gcd a b : Int) = g at *
  generalize (Int.gcd c d : Int) = k at *
  rw [← h1, ← h2, ← h3, ← h4]
  grind
 rw [e, side_scale (Int.mul_pos hg hg')]
def ShV (u v : W8) (N D : Int) : Prop := u = W8.of (lowN N D) ∧ v = W8.of (lowD N D)
def Fits (N D : Int) : Prop := 0 < D ∧ -P511 < N ∧ N < P511 ∧ D < P511
theorem Fits.low {N D : Int} (h : Fits N D) : -P511 ≤ lowN N D ∧ lowN N D < P511 ∧ -P511 ≤ lowD N D ∧ lowD N D < P511 := by
 obtain ⟨h0, h1, h2, h3⟩ := h
 obtain ⟨a1, a2⟩ := low_abs (x := N) h0
 have := lowD_pos (x := N) h0
 have := P511_pos
 omega
theorem ShV.facts {u v : W8} {N D : Int} (h : ShV u v N D) (hf : Fits N D) : u.ok ∧ v.ok ∧ u.toInt = lowN N D ∧ v.toInt = lowD N D ∧ ShOk u.toInt v.toInt := by
 obtain ⟨rfl, rfl⟩ := h
 obtain ⟨h1, h2, h3, h4⟩ := hf.low
 refine ⟨W8.of_ok _, W8.of_ok _, W8.of_toInt h1 h2, W8.of_toInt h3 h4, ?_⟩
 rw [W8.of_toInt h1 h2, W8.of_toInt h3 h4]
 exact low_ok hf.1
def ShPost (w : World) (N D : Int) (e : Ending) (w' : World) : Prop := ∃ u v : W8, e = .returned (.tuple #[.agg #[.int .u64 u.a0, .int .u64 u.a1, .int .u64 u.a2, .int .u64 u.a3, .int .u64 u.a4, .int .u64 u.a5, .int .u64 u.a6, .int .u64 u.a7, .int .u64 v.a0, .int .u64 v.a1, .int .u64 v.a2, .int .u64 v.a3, .int .u64 v.a4, .int .u64 v.a5, .int .u64 v.a6, .int .u64 v.a7], .int .i64 0]) ∧ ShV u v N D ∧ Lat w w'
theorem SharePost.fits {w w' : World} {N D : Int} {e : Ending} (h : SharePost w (lowN N D) (lowD N D) e w') (hf : Fits N D) : ShPost w N D e w' := by
 obtain ⟨u, v, r, rfl, hs, hl⟩ := h
 obtain ⟨h1, h2, h3, h4⟩ := hf.low
 rcases hs with ⟨_, _, _, _, e1, e2, rfl⟩ | ⟨hbig, _⟩
 ·exact ⟨u, v, rfl, ⟨e1, e2⟩, hl⟩
 ·exfalso; omega
theorem fits_small {N D : Int} (h0 : 0 < D) (h1 : D ≤ 9223372036854775807) (h2 : -9223372036854775808 ≤ N) (h3 : N ≤ 9223372036854775807) : Fits N D := by
 have : (9223372036854775808 : Int) < P511 := by decide
 exact ⟨h0, by omega, by omega, by omega⟩
end Go.Proofs.YteocdndanehpnaaGreat
