/- Shares by their words: what Of leaves on both sides; two shares are equal just if their words are. -/
import Derived.Test.YtkiaaefkobfkgaaGreatJ15
import Derived.Test.YtkiaaefkobfkgaaGreatJ31
import Derived.Test.YtkiaaefkobfkgaaGreatE01
import Derived.Test.YtkiaaefkobfkgaaGreatJ25
import Derived.Test.YtkiaaefkobfkgaaGreatJ32
namespace Go.Proofs.YtkiaaefkobfkgaaGreat
open Go.RowKit

/-- The words of the share N / D. -/
def shA (N D : Int) : Array Value := #[.int .u64 (W8.of (lowN N D)).a0, .int .u64 (W8.of (lowN N D)).a1, .int .u64 (W8.of (lowN N D)).a2, .int .u64 (W8.of (lowN N D)).a3, .int .u64 (W8.of (lowN N D)).a4, .int .u64 (W8.of (lowN N D)).a5, .int .u64 (W8.of (lowN N D)).a6, .int .u64 (W8.of (lowN N D)).a7, .int .u64 (W8.of (lowD N D)).a0, .int .u64 (W8.of (lowD N D)).a1, .int .u64 (W8.of (lowD N D)).a2, .int .u64 (W8.of (lowD N D)).a3, .int .u64 (W8.of (lowD N D)).a4, .int .u64 (W8.of (lowD N D)).a5, .int .u64 (W8.of (lowD N D)).a6, .int .u64 (W8.of (lowD N D)).a7]
/-- The words of no share. -/
def zA : Array Value := #[.int .u64 W8.zero.a0, .int .u64 W8.zero.a1, .int .u64 W8.zero.a2, .int .u64 W8.zero.a3, .int .u64 W8.zero.a4, .int .u64 W8.zero.a5, .int .u64 W8.zero.a6, .int .u64 W8.zero.a7, .int .u64 W8.zero.a0, .int .u64 W8.zero.a1, .int .u64 W8.zero.a2, .int .u64 W8.zero.a3, .int .u64 W8.zero.a4, .int .u64 W8.zero.a5, .int .u64 W8.zero.a6, .int .u64 W8.zero.a7]
/-- Words of a share. -/
def GoodX (X : Array Value) : Prop := X.size = 16 ∧ X.all (·.oneCell') = true ∧ ∃ u v : W8, u.ok ∧ v.ok ∧ X = #[.int .u64 u.a0, .int .u64 u.a1, .int .u64 u.a2, .int .u64 u.a3, .int .u64 u.a4, .int .u64 u.a5, .int .u64 u.a6, .int .u64 u.a7, .int .u64 v.a0, .int .u64 v.a1, .int .u64 v.a2, .int .u64 v.a3, .int .u64 v.a4, .int .u64 v.a5, .int .u64 v.a6, .int .u64 v.a7]
theorem good_of {u v : W8} (hu : u.ok) (hv : v.ok) : GoodX #[.int .u64 u.a0, .int .u64 u.a1, .int .u64 u.a2, .int .u64 u.a3, .int .u64 u.a4, .int .u64 u.a5, .int .u64 u.a6, .int .u64 u.a7, .int .u64 v.a0, .int .u64 v.a1, .int .u64 v.a2, .int .u64 v.a3, .int .u64 v.a4, .int .u64 v.a5, .int .u64 v.a6, .int .u64 v.a7] := ⟨rfl, by simp [Value.oneCell'], u, v, hu, hv, rfl⟩
theorem shA_good (N D : Int) : GoodX (shA N D) := good_of (W8.of_ok _) (W8.of_ok _)
theorem zA_good : GoodX zA := good_of W8.zero_ok W8.zero_ok
/-- A share is equal to itself. -/
theorem GoodX.eql {X : Array Value} (h : GoodX X) (w : World) : (binOp .eql 35 (.agg X) (.agg X)).run Tryz.prog w = .ok (.bool true) w := by
  obtain ⟨_, _, u, v, hu, hv, rfl⟩ := h
  obtain ⟨r, hr, hi⟩ := share_eq hu hv hu hv w
  rw [run_eql_struct, hr, hi.2 ⟨rfl, rfl⟩]
  rfl
theorem GoodX.neq {X : Array Value} (h : GoodX X) (w : World) : (binOp .neq 35 (.agg X) (.agg X)).run Tryz.prog w = .ok (.bool false) w := by
  obtain ⟨_, _, u, v, hu, hv, rfl⟩ := h
  obtain ⟨r, hr, hi⟩ := share_eq hu hv hu hv w
  rw [run_neq_struct, hr, hi.2 ⟨rfl, rfl⟩]
  rfl
/-- What a call leaves that returns words of a share, and an error. -/
def ShR (w : World) (X : Array Value) (er : Int) (e : Ending) (w' : World) : Prop := e = .returned (.tuple #[.agg X, .int .i64 er]) ∧ Lat w w'
theorem ShPost.r {w w' : World} {N D : Int} {e : Ending} (h : ShPost w N D e w') : ShR w (shA N D) 0 e w' := by
  obtain ⟨u, v, rfl, ⟨rfl, rfl⟩, hl⟩ := h
  exact ⟨rfl, hl⟩
theorem ShNo.r {w w' : World} {er : Int} {e : Ending} (h : ShNo w er e w') : ShR w zA er e w' := h
theorem shareInfo16 : (Tryz.prog.info? 35).map (·.size) = some 16 := by kernel_rfl
theorem GoodX.info {X : Array Value} (h : GoodX X) : (Tryz.prog.info? 35).map (·.size) = some X.size := by rw [h.1]; exact shareInfo16
theorem shGuard : Tryz.prog.eqGuardType Tryz.prog.depth 35 = false := by kernel_rfl

theorem shOfX (n d : Int) (w : World) (h0 : 0 < d) (h1 : d ≤ 9223372036854775807) (h2 : -9223372036854775808 ≤ n) (h3 : n ≤ 9223372036854775807) :
    Calls Tryz.prog 128 #[.int .i64 n, .int .i64 d] w (ShR w (shA n d) 0) :=
  (shOf_ok n d (by omega) h2 (by omega) (by omega) (by omega) w).mono fun _ _ h => (h.fits (fits_small h0 h1 h2 h3)).r
theorem rOfX (n d : Int) (w : World) (h0 : 0 < d) (h1 : d ≤ 9223372036854775807) (h2 : -9223372036854775808 ≤ n) (h3 : n ≤ 9223372036854775807) :
    Calls Tryz.prog 73 #[.int .i64 n, .int .i64 d] w (ShR w (shA n d) 0) :=
  (rOf_ok n d (by omega) h2 (by omega) (by omega) (by omega) w).mono fun _ _ h => (h.fits (fits_small h0 h1 h2 h3)).r
theorem shV_self (N D : Int) : ShV (W8.of (lowN N D)) (W8.of (lowD N D)) N D := ⟨rfl, rfl⟩
theorem shA_congr {a b c d : Int} (hb : 0 < b) (hd : 0 < d) (h : a * d = c * b) : shA a b = shA c d := by
  obtain ⟨h1, h2⟩ := low_congr hb hd h
  rw [shA, shA, h1, h2]
end Go.Proofs.YtkiaaefkobfkgaaGreat
