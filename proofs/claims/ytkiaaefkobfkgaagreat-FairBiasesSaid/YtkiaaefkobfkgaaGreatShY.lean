/- Shares by their words: differences, comparisons, signs, on both sides. -/
import Derived.Test.YtkiaaefkobfkgaaGreatShX
import Derived.Test.YtkiaaefkobfkgaaGreatRatA
import Derived.Test.YtkiaaefkobfkgaaGreatRatC
import Derived.Test.YtkiaaefkobfkgaaGreatJ24
import Derived.Test.YtkiaaefkobfkgaaGreatSign
namespace Go.Proofs.YtkiaaefkobfkgaaGreat
open Go.RowKit

theorem sub_cross {a b c d : Int} (hb : 0 < b) (hd : 0 < d) : (lowN a b * lowD c d - lowN c d * lowD a b) * (b * d) = (a * d - c * b) * (lowD a b * lowD c d) := by
  obtain ⟨h1, h2⟩ := low_mul (x := a) hb
  obtain ⟨h3, h4⟩ := low_mul (x := c) hd
  generalize lowN a b = p at *
  generalize lowD a b = q at *
  generalize lowN c d = r at *
  generalize lowD c d = s at *
  generalize (Int.gcd a b : Int) = g at *
  generalize (Int.gcd c d : Int) = k at *
  rw [← h1, ← h2, ← h3, ← h4]
  grind
/-- The difference of two shares, in lowest terms. -/
theorem low_sub {a b c d : Int} (hb : 0 < b) (hd : 0 < d) : lowN (lowN a b * lowD c d - lowN c d * lowD a b) (lowD a b * lowD c d) = lowN (a * d - c * b) (b * d) ∧ lowD (lowN a b * lowD c d - lowN c d * lowD a b) (lowD a b * lowD c d) = lowD (a * d - c * b) (b * d) :=
  low_congr (Int.mul_pos (lowD_pos hb) (lowD_pos hd)) (Int.mul_pos hb hd) (sub_cross hb hd)
theorem shSubX {a b c d : Int} (h1 : Fits a b) (h2 : Fits c d) (h3 : Fits (a * d - c * b) (b * d)) (w : World) :
    Calls Tryz.prog 129 #[.agg (shA a b), .agg (shA c d)] w (ShR w (shA (a * d - c * b) (b * d)) 0) := by
  obtain ⟨k1, k2, k3, k4, k5⟩ := (shV_self a b).facts h1
  obtain ⟨m1, m2, m3, m4, m5⟩ := (shV_self c d).facts h2
  have := shSub_ok _ _ _ _ k1 k2 m1 m2 k5 m5 w
  rw [k3, k4, m3, m4, (low_sub h1.1 h2.1).1, (low_sub h1.1 h2.1).2] at this
  exact this.mono fun _ _ h => (h.fits h3).r
theorem rSubX {a b c d : Int} (h1 : Fits a b) (h2 : Fits c d) (h3 : Fits (a * d - c * b) (b * d)) (w : World) :
    Calls Tryz.prog 135 #[.agg (shA a b), .agg (shA c d)] w (ShR w (shA (a * d - c * b) (b * d)) 0) := by
  obtain ⟨k1, k2, k3, k4, k5⟩ := (shV_self a b).facts h1
  obtain ⟨m1, m2, m3, m4, m5⟩ := (shV_self c d).facts h2
  have := rSub_ok _ _ _ _ k1 k2 m1 m2 k5 m5 w
  rw [k3, k4, m3, m4, (low_sub h1.1 h2.1).1, (low_sub h1.1 h2.1).2] at this
  exact this.mono fun _ _ h => (h.fits h3).r
theorem shCmpX {a b c d : Int} (h1 : Fits a b) (h2 : Fits c d) (w : World) :
    Calls Tryz.prog 119 #[.agg (shA a b), .agg (shA c d)] w (fun e w' => e = .returned (.tuple #[.int .i64 (sideOf (a * d - c * b)), .int .i64 0]) ∧ Lat w w') := by
  obtain ⟨k1, k2, k3, k4, k5⟩ := (shV_self a b).facts h1
  obtain ⟨m1, m2, m3, m4, m5⟩ := (shV_self c d).facts h2
  have := shCmp_ok _ _ _ _ k1 k2 m1 m2 k5 m5 w
  rw [k3, k4, m3, m4, side_low h1.1 h2.1] at this
  exact this
theorem ord_side (x : Int) : ordR x = sideOf x := rfl
theorem rCmpX {a b c d : Int} (h1 : Fits a b) (h2 : Fits c d) (w : World) :
    Calls Tryz.prog 120 #[.agg (shA a b), .agg (shA c d)] w (fun e w' => e = .returned (.tuple #[.int .i64 (sideOf (a * d - c * b)), .int .i64 0]) ∧ Lat w w') := by
  obtain ⟨k1, k2, k3, k4, k5⟩ := (shV_self a b).facts h1
  obtain ⟨m1, m2, m3, m4, m5⟩ := (shV_self c d).facts h2
  have := rCmp_ok _ _ _ _ k1 k2 m1 m2 k5 m5 w
  rw [k3, k4, m3, m4, ord_side, side_low h1.1 h2.1] at this
  exact this
theorem shSignX {a b : Int} (h1 : Fits a b) (w : World) :
    Calls Tryz.prog 20 #[.agg (shA a b)] w (fun e w' => e = .returned (.tuple #[.int .i64 (sideOf a), .int .i64 0]) ∧ Lat w w') := by
  obtain ⟨k1, k2, k3, k4, k5⟩ := (shV_self a b).facts h1
  have := shSign_ok _ _ k1 k2 k5 w
  have e0 := (low_mul (x := a) h1.1).1
  have hg := gcd_pos' (x := a) h1.1
  have e : sideOf (lowN a b) = sideOf a := by
    conv => rhs; rw [← e0]
    rw [side_scale hg]
  rw [k3, e] at this
  exact this
end Go.Proofs.YtkiaaefkobfkgaaGreat
