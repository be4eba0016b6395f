/- Several texts in one: RdX. -/
import Derived.Test.YtpmbglhbcjbkcaaGreatH22
namespace Go.Proofs.YtpmbglhbcjbkcaaGreat
set_option maxHeartbeats 16000000
set_option maxRecDepth 100000
open Go.RowKit
set_option linter.unusedSimpArgs false
theorem zlT {u v : W8} (hu : u.ok) (hv : v.ok) (w : World) : (Op.equalIn 10000 38 (.agg (W8.one u)) (.agg (W8.one v))).run Tryz.prog w = .ok (decide (u.mag = v.mag)) w := by
 obtain ⟨r, hr, hi⟩ := run_equalIn_deep (P := Tryz.prog) 9990 10 38 (by kernel_rfl) w 10 10 (.agg (W8.one u)) (.agg (W8.one v)) _ _ (by kernel_rfl) (by kernel_rfl) (zlL hu 8) (zlL hv 8)
 have e : r = decide (u.mag = v.mag) := by
  rw [zgw] at hi
  rw [Bool.eq_iff_iff, decide_eq_true_eq, hi]
  exact ⟨fun h => by rw [h], fun h => W8.mag_inj hu hv h⟩
 rw [hr, e]
theorem zlU {u : W8} (hu : u.ok) (h0 : -9223372036854775808 ≤ u.toInt) (h1 : u.toInt < 9223372036854775808) : IntKind.i64.wrap u.a0 = u.toInt := by
 have e := W8.eq_of hu rfl
 have e2 : u.a0 = u.toInt % zcA % W64 := by
  conv => lhs; rw [e]
  rfl
 have hP : zcA = 18446744073709551616 * (18446744073709551616 ^ 7) := by decide
 have hm : u.toInt % zcA % W64 = u.toInt % 18446744073709551616 := by
  show u.toInt % zcA % 18446744073709551616 = _
  rw [hP]
  exact Int.emod_emod_of_dvd _ ⟨_, rfl⟩
 rw [e2, hm, IntKind.wrap_i64]
 omega
theorem zko (x : Int) : -9223372036854775808 ≤ IntKind.i64.wrap x ∧ IntKind.i64.wrap x < 9223372036854775808 := by
 rw [IntKind.wrap_i64]; omega
theorem zlV : (9223372036854775808 : Int) < zaV := by decide
theorem zgI (u : W8) (m E : Int) (q : Bool) (hw : IntKind.i64.wrap u.a0 = m) (HO : ∀ w, Calls Tryz.prog 68 #[.int .i64 m] w (fun e w' => e = .returned (.agg (W8.one (W8.of m))) ∧ Lat w w'))
  (HE : ∀ w, (Op.equalIn 10000 38 (.agg (W8.one (W8.of m))) (.agg (W8.one u))).run Tryz.prog w = .ok q w) (hq : E = if q = true then 0 else 6) (w : World) :
  Calls Tryz.prog 65 #[.agg (W8.one u)] w (fun e w' => e = .returned (.tuple #[.int .i64 (if q = true then m else 0), .int .i64 E]) ∧ Lat w w') := by
 obtain ⟨v, hv⟩ : ∃ v, W8.of m = v := ⟨_, rfl⟩
 rw [hv] at HO HE
 clear hv
 go_enter Tryz.func65, Tryz.ntmps65
 go_upto_region 1 with (fail)
 refine zas (Q := fun W => Code.wp _ _ _ _ W) ?_
 intro W hl hs k1
 have c0 := k1.cell 0
 go_upto_region 2 with (fail)
 have L0 := Lat.drew W
 have a0 := k1.ever 0 rfl
 have a1 := k1.ever 1 rfl
 have a2 := k1.ever 2 rfl
 have a3 := k1.ever 3 rfl
 have a4 := k1.ever 4 rfl
 have a5 := k1.ever 5 rfl
 have a6 := k1.ever 6 rfl
 have a7 := k1.ever 7 rfl
 cases q
 all_goals
  subst hq
  go_region_held3 (fun w' => Lat W w') (first | (with_reducible assumption))
   (first
     | (go_at_call 68; (with_reducible refine (HO _).mono ?_); rintro e w2 ⟨rfl, q3⟩; have L2 := L0.trans q3))
  go_wp2
  go_ret2
  exact ⟨rfl, hl.trans L2⟩
theorem zh6 (u : W8) (hu : u.ok) (w : World) : Calls Tryz.prog 65 #[.agg (W8.one u)] w (fun e w' => e = .returned (.tuple #[.int .i64 (zeR u.toInt), .int .i64 (zdM u.toInt)]) ∧ Lat w w') := by
 have hr := zko u.a0
 have hP := zlV
 have HO := fun w => ze7 (IntKind.i64.wrap u.a0) hr.1 hr.2 w
 have HE := fun w => zlT (W8.of_ok (IntKind.i64.wrap u.a0)) hu w
 have hm : (W8.of (IntKind.i64.wrap u.a0)).toInt = IntKind.i64.wrap u.a0 := W8.of_toInt (by omega) (by omega)
 by_cases hz : -9223372036854775808 ≤ u.toInt ∧ u.toInt < 9223372036854775808
 ·have hlow := zlU hu hz.1 hz.2
  have he : (W8.of (IntKind.i64.wrap u.a0)).mag = u.mag := by rw [hlow, ← W8.eq_of hu rfl]
  rw [decide_eq_true he] at HE
  unfold zeR zdM
  rw [if_pos hz, if_pos hz]
  have := zgI u (IntKind.i64.wrap u.a0) 0 true rfl HO HE rfl w
  rw [if_pos rfl] at this
  rw [hlow] at this
  exact this
 ·have he : ¬ (W8.of (IntKind.i64.wrap u.a0)).mag = u.mag := fun h => by
   have := W8.mag_inj (W8.of_ok _) hu h
   rw [this] at hm
   omega
  rw [decide_eq_false he] at HE
  unfold zeR zdM
  rw [if_neg hz, if_neg hz]
  have := zgI u (IntKind.i64.wrap u.a0) 6 false rfl HO HE rfl w
  exact this
end Go.Proofs.YtpmbglhbcjbkcaaGreat
