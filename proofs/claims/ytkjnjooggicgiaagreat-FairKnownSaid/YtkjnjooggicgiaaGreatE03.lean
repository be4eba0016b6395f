/- Several texts in one: ShX, ShY. -/
import Derived.Test.YtkjnjooggicgiaaGreatJ15
import Derived.Test.YtkjnjooggicgiaaGreatJ31
import Derived.Test.YtkjnjooggicgiaaGreatE01
import Derived.Test.YtkjnjooggicgiaaGreatJ25
import Derived.Test.YtkjnjooggicgiaaGreatJ32
import Derived.Test.YtkjnjooggicgiaaGreatE02
import Derived.Test.YtkjnjooggicgiaaGreatJ24

/- Shares by their words: what Of leaves on both sides; two shares are equal just if their words are. -/
namespace Go.Proofs.YtkjnjooggicgiaaGreat
open Go.RowKit

/-- The words of the share N / D. -/
def shA (N D : Int) : Array Value := #[.int .u64 (W8.of (lowN N D)).a0, .int .u64 (W8.of (lowN N D)).a1, .int .u64 (W8.of (lowN N D)).a2, .int .u64 (W8.of (lowN N D)).a3, .int .u64 (W8.of (lowN N D)).a4, .int .u64 (W8.of (lowN N D)).a5, .int .u64 (W8.of (lowN N D)).a6, .int .u64 (W8.of (lowN N D)).a7, .int .u64 (W8.of (lowD N D)).a0, .int .u64 (W8.of (lowD N D)).a1, .int .u64 (W8.of (lowD N D)).a2, .int .u64 (W8.of (lowD N D)).a3, .int .u64 (W8.of (lowD N D)).a4, .int .u64 (W8.of (lowD N D)).a5, .int .u64 (W8.of (lowD N D)).a6, .int .u64 (W8.of (lowD N D)).a7]
/-- The words of no share. -/
def zA : Array Value := #[.int .u64 W8.zero.a0, .int .u64 W8.zero.a1, .int .u64 W8.zero.a2, .int .u64 W8.zero.a3, .int .u64 W8.zero.a4, .int .u64 W8.zero.a5, .int .u64 W8.zero.a6, .int .u64 W8.zero.a7, .int .u64 W8.zero.a0, .int .u64 W8.zero.a1, .int .u64 W8.zero.a2, .int .u64 W8.zero.a3, .int .u64 W8.zero.a4, .int .u64 W8.zero.a5, .int .u64 W8.zero.a6, .int .u64 W8.zero.a7]
/-- Words of a share. -/
def GoodX (X : Array Value) : Prop := X.size = 16 ∧ X.all (·.oneCell') = true ∧ ∃ u v : W8, u.ok ∧ v.ok ∧ X = #[.int .u64 u.a0, .int .u64 u.a1, .int .u64 u.a2, .int .u64 u.a3, .int .u64 u.a4, .int .u64 u.a5, .int .u64 u.a6, .int .u64 u.a7, .int .u64 v.a0, .int .u64 v.a1, .int .u64 v.a2, .int .u64 v.a3, .int .u64 v.a4, .int .u64 v.a5, .int .u64 v.a6, .int .u64 v.a7]
theorem good_of {u v : W8} (hu : u.ok) (hv : v.ok) : GoodX #[.int .u64 u.a0, .int .u64 u.a1, .int .u64 u.a2, .int .u64 u.a3, .int .u64 u.a4, .int .u64 u.a5, .int .u64 u.a6, .int .u64 u.a7, .int .u64 v.a0, .int .u64 v.a1, .int .u64 v.a2, .int .u64 v.a3, .int .u64 v.a4, .int .u64 v.a5, .int .u64 v.a6, .int .u64 v.a7] := ⟨rfl, by simp [Value.oneCell'], u, v, hu, hv, rfl⟩
theorem shA_good (N D : Int) : GoodX (shA N D) := good_of (W8.of_ok _) (W8.of_ok _)
theorem zA_good : GoodX zA := good_of W8.zero_ok W8.zero_ok
/-- A share is equal to itself. -/
theorem GoodX.eql {X : Array Value} (h : GoodX X) (w : World) : (binOp .eql 35 (.agg X) (.agg X)).run Tryz.prog w = .ok (.bool true) w := by
  obtain ⟨_, _, u, v, hu, hv, rfl⟩ := h
  obtain ⟨r, hr, hi⟩ := share_eq hu hv hu hv w
  rw [run_eql_struct, hr, hi.2 ⟨rfl, rfl⟩]
  rfl
theorem GoodX.neq {X : Array Value} (h : GoodX X) (w : World) : (binOp .neq 35 (.agg X) (.agg X)).run Tryz.prog w = .ok (.bool false) w := by
  obtain ⟨_, _, u, v, hu, hv, rfl⟩ := h
  obtain ⟨r, hr, hi⟩ := share_eq hu hv hu hv w
  rw [run_neq_struct, hr, hi.2 ⟨rfl, rfl⟩]
  rfl
/-- What a call leaves that returns words of a share, and an error. -/
def ShR (w : World) (X : Array Value) (er : Int) (e : Ending) (w' : World) : Prop := e = .returned (.tuple #[.agg X, .int .i64 er]) ∧ Lat w w'
theorem ShPost.r {w w' : World} {N D : Int} {e : Ending} (h : ShPost w N D e w') : ShR w (shA N D) 0 e w' := by
  obtain ⟨u, v, rfl, ⟨rfl, rfl⟩, hl⟩ := h
  exact ⟨rfl, hl⟩
theorem ShNo.r {w w' : World} {er : Int} {e : Ending} (h : ShNo w er e w') : ShR w zA er e w' := h
theorem shareInfo16 : (Tryz.prog.info? 35).map (·.size) = some 16 := by kernel_rfl
theorem GoodX.info {X : Array Value} (h : GoodX X) : (Tryz.prog.info? 35).map (·.size) = some X.size := by rw [h.1]; exact shareInfo16
theorem shGuard : Tryz.prog.eqGuardType Tryz.prog.depth 35 = false := by kernel_rfl

theorem shOfX (n d : Int) (w : World) (h0 : 0 < d) (h1 : d ≤ 9223372036854775807) (h2 : -9223372036854775808 ≤ n) (h3 : n ≤ 9223372036854775807) :
    Calls Tryz.prog 37 #[.int .i64 n, .int .i64 d] w (ShR w (shA n d) 0) :=
  (shOf_ok n d (by omega) h2 (by omega) (by omega) (by omega) w).mono fun _ _ h => (h.fits (fits_small h0 h1 h2 h3)).r
theorem rOfX (n d : Int) (w : World) (h0 : 0 < d) (h1 : d ≤ 9223372036854775807) (h2 : -9223372036854775808 ≤ n) (h3 : n ≤ 9223372036854775807) :
    Calls Tryz.prog 26 #[.int .i64 n, .int .i64 d] w (ShR w (shA n d) 0) :=
  (rOf_ok n d (by omega) h2 (by omega) (by omega) (by omega) w).mono fun _ _ h => (h.fits (fits_small h0 h1 h2 h3)).r
theorem shV_self (N D : Int) : ShV (W8.of (lowN N D)) (W8.of (lowD N D)) N D := ⟨rfl, rfl⟩
theorem shA_congr {a b c d : Int} (hb : 0 < b) (hd : 0 < d) (h : a * d = c * b) : shA a b = shA c d := by
  obtain ⟨h1, h2⟩ := low_congr hb hd h
  rw [shA, shA, h1, h2]
end Go.Proofs.YtkjnjooggicgiaaGreat

/- Shares by their words: differences, comparisons, signs, on both sides. -/
namespace Go.Proofs.YtkjnjooggicgiaaGreat
open Go.RowKit

theorem sub_cross {a b c d : Int} (hb : 0 < b) (hd : 0 < d) : (lowN a b * lowD c d - lowN c d * lowD a b) * (b * d) = (a * d - c * b) * (lowD a b * lowD c d) := by
  obtain ⟨h1, h2⟩ := low_mul (x := a) hb
  obtain ⟨h3, h4⟩ := low_mul (x := c) hd
  generalize lowN a b = p at *
  generalize lowD a b = q at *
  generalize lowN c d = r at *
  generalize lowD c d = s at *
  generalize (Int.gcd a b : Int) = g at *
  generalize (Int.gcd c d : Int) = k at *
  rw [← h1, ← h2, ← h3, ← h4]
  grind
/-- The difference of two shares, in lowest terms. -/
theorem low_sub {a b c d : Int} (hb : 0 < b) (hd : 0 < d) : lowN (lowN a b * lowD c d - lowN c d * lowD a b) (lowD a b * lowD c d) = lowN (a * d - c * b) (b * d) ∧ lowD (lowN a b * lowD c d - lowN c d * lowD a b) (lowD a b * lowD c d) = lowD (a * d - c * b) (b * d) :=
  low_congr (Int.mul_pos (lowD_pos hb) (lowD_pos hd)) (Int.mul_pos hb hd) (sub_cross hb hd)
theorem shSubX {a b c d : Int} (h1 : Fits a b) (h2 : Fits c d) (h3 : Fits (a * d - c * b) (b * d)) (w : World) :
    Calls Tryz.prog 38 #[.agg (shA a b), .agg (shA c d)] w (ShR w (shA (a * d - c * b) (b * d)) 0) := by
  obtain ⟨k1, k2, k3, k4, k5⟩ := (shV_self a b).facts h1
  obtain ⟨m1, m2, m3, m4, m5⟩ := (shV_self c d).facts h2
  have := shSub_ok _ _ _ _ k1 k2 m1 m2 k5 m5 w
  rw [k3, k4, m3, m4, (low_sub h1.1 h2.1).1, (low_sub h1.1 h2.1).2] at this
  exact this.mono fun _ _ h => (h.fits h3).r
theorem shCmpX {a b c d : Int} (h1 : Fits a b) (h2 : Fits c d) (w : World) :
    Calls Tryz.prog 31 #[.agg (shA a b), .agg (shA c d)] w (fun e w' => e = .returned (.tuple #[.int .i64 (sideOf (a * d - c * b)), .int .i64 0]) ∧ Lat w w') := by
  obtain ⟨k1, k2, k3, k4, k5⟩ := (shV_self a b).facts h1
  obtain ⟨m1, m2, m3, m4, m5⟩ := (shV_self c d).facts h2
  have := shCmp_ok _ _ _ _ k1 k2 m1 m2 k5 m5 w
  rw [k3, k4, m3, m4, side_low h1.1 h2.1] at this
  exact this
theorem ord_side (x : Int) : ordR x = sideOf x := rfl
end Go.Proofs.YtkjnjooggicgiaaGreat
