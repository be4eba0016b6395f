/- Several texts in one: Div64, Divided. -/
import Derived.Test.YtpmbglhbcjbkcaaGreatH05
namespace Go.Proofs.YtpmbglhbcjbkcaaGreat
set_option maxHeartbeats 16000000
set_option maxRecDepth 100000
open Go.RowKit
def zn8 (s : Nat) (Y Q1 Q0 M l0 : Int) (w : World) (e : Ending) (w' : World) : Prop := e = .returned (.tuple #[.int .u64 (Q1 * 4294967296 + Q0), .int .u64 (IntKind.u64.wrap (IntKind.u64.wrap (IntKind.u64.wrap (M * 4294967296) + l0) - IntKind.u64.wrap (Q0 * Y)) / 2 ^ s)]) ∧ w = w'
theorem ziW (hi lo y : Int) (h3 : 0 ≤ y ∧ y < W64) (hlt : hi < y) (hh : 0 < hi) (w : World)
  (Y y1 y0 U L l1 l0 Q1 Q0 M : Int)
  (eY : IntKind.u64.wrap (y * 2 ^ (64 - bitsOf y)) = Y) (e1 : Y / 4294967296 = y1) (e0 : bits .and .u64 Y 4294967295 = y0)
  (eU : bits .or .u64 (IntKind.u64.wrap (hi * 2 ^ (64 - bitsOf y))) (lo / 2 ^ (64 - (64 - bitsOf y))) = U)
  (eL : IntKind.u64.wrap (lo * 2 ^ (64 - bitsOf y)) = L) (el1 : L / 4294967296 = l1) (el0 : bits .and .u64 L 4294967295 = l0)
  (hYb : 0 ≤ Y ∧ Y ≤ 18446744073709551615) (hy1 : 2147483648 ≤ y1 ∧ y1 < 4294967296) (hy0 : 0 ≤ y0 ∧ y0 < 4294967296) (hl1 : 0 ≤ l1 ∧ l1 < 4294967296) (hl0 : 0 ≤ l0 ∧ l0 < 4294967296)
  (_hL : 0 ≤ L) (hU : 0 ≤ U ∧ U < Y) (hY : Hid (Y = y1 * 4294967296 + y0)) (hQ1 : Hid (IsQ U Y l1 Q1)) (hM : Hid (U * 4294967296 + l1 - Q1 * Y = M)) (hMb : 0 ≤ M ∧ M < Y) (hQ0 : Hid (IsQ M Y l0 Q0)) :
  Calls Tryz.prog 132 #[.int .u64 hi, .int .u64 lo, .int .u64 y] w (zn8 (64 - bitsOf y) Y Q1 Q0 M l0 w) := by
 have hy00 : ((y : Int) == 0) = false := by simp; omega
 have hh0 : ((hi : Int) == 0) = false := by simp; omega
 have hyn : ((y1 : Int) == 0) = false := by simp; omega
 have hb := (zbL h3).2.1
 have hQ1n := hQ1.out.nonneg hU.1 (by omega) hl1.1
 have hQ0n := hQ0.out.nonneg hMb.1 (by omega) hl0.1
 have hQ1b := hQ1.out.lt_base hU.2 (by omega) hl1.2
 have hQ0b := hQ0.out.lt_base hMb.2 (by omega) hl0.2
 have hst := DInv.start hQ1.out hY.out hy1 hy0 hU hl1
 have hst2 := DInv.start hQ0.out hY.out hy1 hy0 hMb hl0
 have hr1 : 0 ≤ U - U / y1 * y1 ∧ U - U / y1 * y1 < 4294967296 := ⟨hst.2.2.1, hst.2.2.2.1⟩
 have hq1 : 0 ≤ U / y1 ∧ U / y1 ≤ 4294967297 := ⟨hst.1, hst.2.1⟩
 obtain ⟨q1, hqq⟩ : ∃ q1, U / y1 = q1 := ⟨_, rfl⟩
 rw [hqq] at hst hr1 hq1
 obtain ⟨p1, hpp⟩ : ∃ p1, IntKind.u64.wrap (q1 * y1) = p1 := ⟨_, rfl⟩
 have hp1 : Hid (p1 = q1 * y1) := by
  show _ = _
  rw [← hpp]
  refine wrap_u64 (Int.mul_nonneg hq1.1 (by omega)) ?_
  have : W64 = 18446744073709551616 := rfl
  omega
 have hp2 : 0 ≤ U - p1 ∧ U - p1 < 4294967296 := by rw [hp1.out]; exact hr1
 have HST : Hid (DInv U y1 Q1 q1 (U - p1)) := by show DInv _ _ _ _ _; rw [hp1.out]; exact hst
 have hr2 : 0 ≤ M - M / y1 * y1 ∧ M - M / y1 * y1 < 4294967296 := ⟨hst2.2.2.1, hst2.2.2.2.1⟩
 have hq2 : 0 ≤ M / y1 ∧ M / y1 ≤ 4294967297 := ⟨hst2.1, hst2.2.1⟩
 obtain ⟨q2, hqq2⟩ : ∃ q2, M / y1 = q2 := ⟨_, rfl⟩
 rw [hqq2] at hst2 hr2 hq2
 obtain ⟨p2, hpp2⟩ : ∃ p2, IntKind.u64.wrap (q2 * y1) = p2 := ⟨_, rfl⟩
 have hp3 : Hid (p2 = q2 * y1) := by
  show _ = _
  rw [← hpp2]
  refine wrap_u64 (Int.mul_nonneg hq2.1 (by omega)) ?_
  have : W64 = 18446744073709551616 := rfl
  omega
 have hp4 : 0 ≤ M - p2 ∧ M - p2 < 4294967296 := by rw [hp3.out]; exact hr2
 have HST2 : Hid (DInv M y1 Q0 q2 (M - p2)) := by show DInv _ _ _ _ _; rw [hp3.out]; exact hst2
 clear hst hr1 hh hst2 hr2
 go_enter Tryz.func132, Tryz.ntmps132
 go_wp2_with (go_at_call 131; refine (zhW y h3 _).mono ?_; rintro e w' ⟨rfl, rfl⟩)
 have hYW : Y < W64 := by unfold W64; omega
 have eM : IntKind.u64.wrap (IntKind.u64.wrap (IntKind.u64.wrap (U * 4294967296) + l1) - IntKind.u64.wrap (Q1 * Y)) = M := by rw [left_eq hQ1.out hYW]; exact hM.out
 go_loopw [15, 16] (fun a b wr => ∃ q r : Int, a = .int .u64 q ∧ b = .int .u64 r ∧ (0 ≤ q ∧ q ≤ 4294967297) ∧ (0 ≤ r ∧ r < 4294967296) ∧ Hid (DInv U y1 Q1 q r) ∧ w = wr) (fun a _ _ => (intOf a).toNat)
 case atStart => exact ⟨q1, U - p1, by first | rfl | rw [hqq], rfl, hq1, hp2, HST, rfl⟩
 case round =>
  obtain ⟨q, r, rfl, rfl, hq, hr, hinv, rfl⟩ := hrel
  clear hqq hpp HST hp2 hp1 eL eU eY e1 e0 el1 el0
  by_cases hA : 4294967296 ≤ q
  ·have hle := DInv.less hQ1.out hY.out hU hl1 hinv.out (.inl hA)
   by_cases hB : 4294967296 ≤ r + y1
   ·have hqe := DInv.break_ hQ1.out hY.out hy0 hU hl1 hinv.out hle hB
    go_wp2
    go_loopw [18, 16] (fun a b wr => ∃ q r : Int, a = .int .u64 q ∧ b = .int .u64 r ∧ (0 ≤ q ∧ q ≤ 4294967297) ∧ (0 ≤ r ∧ r < 4294967296) ∧ Hid (DInv M y1 Q0 q r) ∧ w = wr) (fun a _ _ => (intOf a).toNat)
    case atStart => exact ⟨q2, M - p2, by first | rfl | rw [hqq2], rfl, hq2, hp4, HST2, rfl⟩
    case round =>
     clear hinv hq hr
     obtain ⟨q, r, rfl, rfl, hq, hr, hinv, rfl⟩ := hrel
     clear hqq2 hpp2 HST2 hp4 hp3 eM
     by_cases hA : 4294967296 ≤ q
     ·have hle := DInv.less hQ0.out hY.out hMb hl0 hinv.out (.inl hA)
      by_cases hB : 4294967296 ≤ r + y1
      ·have hqe := DInv.break_ hQ0.out hY.out hy0 hMb hl0 hinv.out hle hB
       go_wp2
       go_ret2
       exact ⟨rfl, rfl⟩
      ·have hnx := Lib.hid (DInv.next hQ0.out hY.out hy1 hMb hl0 hinv.out hle (by omega))
       go_wp2
       go_roundw
       case rel => exact ⟨q - 1, r + y1, rfl, rfl, by omega, by omega, hnx, trivial⟩
       case measure => simp [intOf]; omega
     ·obtain ⟨m, hm⟩ : ∃ m, IntKind.u64.wrap (q * y0) = m := ⟨_, rfl⟩
      have hmq : Hid (q * y0 = m) := by
       show _ = _
       rw [← hm]
       refine (wrap_u64 (Int.mul_nonneg hq.1 hy0.1) ?_).symm
       have := Int.mul_le_mul_of_nonneg_left (show y0 ≤ 4294967295 by omega) hq.1
       unfold W64
       omega
      by_cases hC : 4294967296 * r + l0 < m
      ·have hle := DInv.less hQ0.out hY.out hMb hl0 hinv.out (.inr (by rw [hmq.out]; exact hC))
       by_cases hB : 4294967296 ≤ r + y1
       ·have hqe := DInv.break_ hQ0.out hY.out hy0 hMb hl0 hinv.out hle hB
        go_wp2
        go_ret2
        exact ⟨rfl, rfl⟩
       ·have hnx := Lib.hid (DInv.next hQ0.out hY.out hy1 hMb hl0 hinv.out hle (by omega))
        go_wp2
        go_roundw
        case rel => exact ⟨q - 1, r + y1, rfl, rfl, by omega, by omega, hnx, trivial⟩
        case measure => simp [intOf]; omega
      ·have hqe := DInv.done hQ0.out hY.out hMb hinv.out (by rw [hmq.out]; omega)
       subst hqe
       go_wp2
       go_ret2
       exact ⟨rfl, rfl⟩
   ·have hnx := Lib.hid (DInv.next hQ1.out hY.out hy1 hU hl1 hinv.out hle (by omega))
    go_wp2
    go_roundw
    case rel => exact ⟨q - 1, r + y1, rfl, rfl, by omega, by omega, hnx, trivial⟩
    case measure => simp [intOf]; omega
  ·obtain ⟨m, hm⟩ : ∃ m, IntKind.u64.wrap (q * y0) = m := ⟨_, rfl⟩
   have hmq : Hid (q * y0 = m) := by
    show _ = _
    rw [← hm]
    refine (wrap_u64 (Int.mul_nonneg hq.1 hy0.1) ?_).symm
    have := Int.mul_le_mul_of_nonneg_left (show y0 ≤ 4294967295 by omega) hq.1
    unfold W64
    omega
   by_cases hC : 4294967296 * r + l1 < m
   ·have hle := DInv.less hQ1.out hY.out hU hl1 hinv.out (.inr (by rw [hmq.out]; exact hC))
    by_cases hB : 4294967296 ≤ r + y1
    ·have hqe := DInv.break_ hQ1.out hY.out hy0 hU hl1 hinv.out hle hB
     go_wp2
     go_loopw [18, 16] (fun a b wr => ∃ q r : Int, a = .int .u64 q ∧ b = .int .u64 r ∧ (0 ≤ q ∧ q ≤ 4294967297) ∧ (0 ≤ r ∧ r < 4294967296) ∧ Hid (DInv M y1 Q0 q r) ∧ w = wr) (fun a _ _ => (intOf a).toNat)
     case atStart => exact ⟨q2, M - p2, by first | rfl | rw [hqq2], rfl, hq2, hp4, HST2, rfl⟩
     case round =>
      clear hinv hq hr
      obtain ⟨q, r, rfl, rfl, hq, hr, hinv, rfl⟩ := hrel
      clear hqq2 hpp2 HST2 hp4 hp3 eM
      by_cases hA : 4294967296 ≤ q
      ·have hle := DInv.less hQ0.out hY.out hMb hl0 hinv.out (.inl hA)
       by_cases hB : 4294967296 ≤ r + y1
       ·have hqe := DInv.break_ hQ0.out hY.out hy0 hMb hl0 hinv.out hle hB
        go_wp2
        go_ret2
        exact ⟨rfl, rfl⟩
       ·have hnx := Lib.hid (DInv.next hQ0.out hY.out hy1 hMb hl0 hinv.out hle (by omega))
        go_wp2
        go_roundw
        case rel => exact ⟨q - 1, r + y1, rfl, rfl, by omega, by omega, hnx, trivial⟩
        case measure => simp [intOf]; omega
      ·obtain ⟨m, hm⟩ : ∃ m, IntKind.u64.wrap (q * y0) = m := ⟨_, rfl⟩
       have hmq : Hid (q * y0 = m) := by
        show _ = _
        rw [← hm]
        refine (wrap_u64 (Int.mul_nonneg hq.1 hy0.1) ?_).symm
        have := Int.mul_le_mul_of_nonneg_left (show y0 ≤ 4294967295 by omega) hq.1
        unfold W64
        omega
       by_cases hC : 4294967296 * r + l0 < m
       ·have hle := DInv.less hQ0.out hY.out hMb hl0 hinv.out (.inr (by rw [hmq.out]; exact hC))
        by_cases hB : 4294967296 ≤ r + y1
        ·have hqe := DInv.break_ hQ0.out hY.out hy0 hMb hl0 hinv.out hle hB
         go_wp2
         go_ret2
         exact ⟨rfl, rfl⟩
        ·have hnx := Lib.hid (DInv.next hQ0.out hY.out hy1 hMb hl0 hinv.out hle (by omega))
         go_wp2
         go_roundw
         case rel => exact ⟨q - 1, r + y1, rfl, rfl, by omega, by omega, hnx, trivial⟩
         case measure => simp [intOf]; omega
       ·have hqe := DInv.done hQ0.out hY.out hMb hinv.out (by rw [hmq.out]; omega)
        subst hqe
        go_wp2
        go_ret2
        exact ⟨rfl, rfl⟩
    ·have hnx := Lib.hid (DInv.next hQ1.out hY.out hy1 hU hl1 hinv.out hle (by omega))
     go_wp2
     go_roundw
     case rel => exact ⟨q - 1, r + y1, rfl, rfl, by omega, by omega, hnx, trivial⟩
     case measure => simp [intOf]; omega
   ·have hqe := DInv.done hQ1.out hY.out hU hinv.out (by rw [hmq.out]; omega)
    subst hqe
    go_wp2
    go_loopw [18, 16] (fun a b wr => ∃ q r : Int, a = .int .u64 q ∧ b = .int .u64 r ∧ (0 ≤ q ∧ q ≤ 4294967297) ∧ (0 ≤ r ∧ r < 4294967296) ∧ Hid (DInv M y1 Q0 q r) ∧ w = wr) (fun a _ _ => (intOf a).toNat)
    case atStart => exact ⟨q2, M - p2, by first | rfl | rw [hqq2], rfl, hq2, hp4, HST2, rfl⟩
    case round =>
     clear hinv hq hr
     obtain ⟨q, r, rfl, rfl, hq, hr, hinv, rfl⟩ := hrel
     clear hqq2 hpp2 HST2 hp4 hp3 eM
     by_cases hA : 4294967296 ≤ q
     ·have hle := DInv.less hQ0.out hY.out hMb hl0 hinv.out (.inl hA)
      by_cases hB : 4294967296 ≤ r + y1
      ·have hqe := DInv.break_ hQ0.out hY.out hy0 hMb hl0 hinv.out hle hB
       go_wp2
       go_ret2
       exact ⟨rfl, rfl⟩
      ·have hnx := Lib.hid (DInv.next hQ0.out hY.out hy1 hMb hl0 hinv.out hle (by omega))
       go_wp2
       go_roundw
       case rel => exact ⟨q - 1, r + y1, rfl, rfl, by omega, by omega, hnx, trivial⟩
       case measure => simp [intOf]; omega
     ·obtain ⟨m, hm⟩ : ∃ m, IntKind.u64.wrap (q * y0) = m := ⟨_, rfl⟩
      have hmq : Hid (q * y0 = m) := by
       show _ = _
       rw [← hm]
       refine (wrap_u64 (Int.mul_nonneg hq.1 hy0.1) ?_).symm
       have := Int.mul_le_mul_of_nonneg_left (show y0 ≤ 4294967295 by omega) hq.1
       unfold W64
       omega
      by_cases hC : 4294967296 * r + l0 < m
      ·have hle := DInv.less hQ0.out hY.out hMb hl0 hinv.out (.inr (by rw [hmq.out]; exact hC))
       by_cases hB : 4294967296 ≤ r + y1
       ·have hqe := DInv.break_ hQ0.out hY.out hy0 hMb hl0 hinv.out hle hB
        go_wp2
        go_ret2
        exact ⟨rfl, rfl⟩
       ·have hnx := Lib.hid (DInv.next hQ0.out hY.out hy1 hMb hl0 hinv.out hle (by omega))
        go_wp2
        go_roundw
        case rel => exact ⟨q - 1, r + y1, rfl, rfl, by omega, by omega, hnx, trivial⟩
        case measure => simp [intOf]; omega
      ·have hqe := DInv.done hQ0.out hY.out hMb hinv.out (by rw [hmq.out]; omega)
       subst hqe
       go_wp2
       go_ret2
       exact ⟨rfl, rfl⟩
def znh (hi lo y : Int) (w : World) (e : Ending) (w' : World) : Prop :=
 ∃ q r : Int, e = .returned (.tuple #[.int .u64 q, .int .u64 r]) ∧ hi * W64 + lo = q * y + r ∧ (0 ≤ r ∧ r < y) ∧ (0 ≤ q ∧ q < W64) ∧ Lat w w'
theorem ziX (lo y : Int) (h2 : 0 ≤ lo ∧ lo < W64) (h3 : 0 < y ∧ y < W64) (w : World) :
  Calls Tryz.prog 132 #[.int .u64 0, .int .u64 lo, .int .u64 y] w (fun e w' => e = .returned (.tuple #[.int .u64 (lo / y), .int .u64 (lo % y)]) ∧ Lat w w') := by
 have hy0 : ((y : Int) == 0) = false := by simp; omega
 have hy1 : ¬ y = 0 := by omega
 have hle : ¬ y ≤ 0 := by omega
 have hq : IntKind.u64.wrap (lo.tdiv y) = lo / y := by
  rw [Int.tdiv_eq_ediv_of_nonneg h2.1, wrap_u64 (Int.ediv_nonneg h2.1 (by omega))]
  exact Int.lt_of_le_of_lt (Int.ediv_le_self y h2.1) h2.2
 have hr : IntKind.u64.wrap (lo.tmod y) = lo % y := by
  rw [Int.tmod_eq_emod_of_nonneg h2.1, wrap_u64 (Int.emod_nonneg _ hy1)]
  have := Int.emod_lt_of_pos lo h3.1
  omega
 go_enter Tryz.func132, Tryz.ntmps132
 go_wp2
 go_quiet (fail)
 go_wp2
 go_ret2
 exact ⟨rfl, Lat.drewN _ _⟩
theorem zjX {y : Int} (h3 : 0 < y ∧ y < W64) : 0 < bitsOf y ∧ bitsOf y ≤ 64 ∧ y * 2 ^ (64 - bitsOf y) < W64 ∧ 9223372036854775808 ≤ y * 2 ^ (64 - bitsOf y) := by
 obtain ⟨a, b, c⟩ := zbL (x := y) ⟨by omega, h3.2⟩
 obtain ⟨c1, c2⟩ := c (by omega)
 refine ⟨c1, b, ?_, ?_⟩
 ·have h := Int.mul_lt_mul_of_pos_right a (two_pow_pos (64 - bitsOf y))
  rw [← Int.pow_add, show bitsOf y + (64 - bitsOf y) = 64 by omega] at h
  exact h
 ·have h := Int.mul_le_mul_of_nonneg_right c2 (Int.le_of_lt (two_pow_pos (64 - bitsOf y)))
  rw [← Int.pow_add, show bitsOf y - 1 + (64 - bitsOf y) = 63 by omega] at h
  exact h
theorem zjY (hi lo y : Int) (h1 : 0 ≤ hi) (h2 : 0 ≤ lo ∧ lo < W64) (h3 : 0 < y ∧ y < W64) (hlt : hi < y) (w : World) :
  Calls Tryz.prog 132 #[.int .u64 hi, .int .u64 lo, .int .u64 y] w (znh hi lo y w) := by
 rcases Int.lt_or_eq_of_le h1 with hp | he
 ·obtain ⟨b1, b2, t1, t2⟩ := zjX h3
  have hW : W64 = 18446744073709551616 := rfl
  have hs : 64 - (64 - bitsOf y) = bitsOf y := by omega
  have hr : 64 - bitsOf y < 64 := by omega
  obtain ⟨s, es⟩ : ∃ s, s = 64 - bitsOf y := ⟨_, rfl⟩
  have ebs : bitsOf y = 64 - s := by omega
  have rlo := zcF h2 (r := s) (by omega)
  obtain ⟨f1, f2, _, f3, f4⟩ := rlo
  have ps := two_pow_pos s
  rw [← es] at t1 t2
  -- the numbers
  have hYv : IntKind.u64.wrap (y * 2 ^ s) = y * 2 ^ s := wrap_u64 (by omega) t1
  have hhi : hi * 2 ^ s + 2 ^ s ≤ y * 2 ^ s := by
   have := Int.mul_le_mul_of_nonneg_right (show hi + 1 ≤ y by omega) (Int.le_of_lt ps)
   rw [Int.add_mul] at this
   omega
  have hhi0 : 0 ≤ hi * 2 ^ s := Int.mul_nonneg h1 (Int.le_of_lt ps)
  have hHv : IntKind.u64.wrap (hi * 2 ^ s) = hi * 2 ^ s := wrap_u64 hhi0 (by omega)
  have hUv : bits .or .u64 (hi * 2 ^ s) (lo / 2 ^ (64 - s)) = hi * 2 ^ s + zfy lo (64 - s) := by
   have := zcE (r := s) (a := zfy lo (64 - s)) (b := hi) (by omega) ⟨f3, f4⟩ h1 (by rw [Int.mul_comm]; omega)
   rw [Int.mul_comm (2 ^ s) hi] at this
   have hc : bits .or .u64 (hi * 2 ^ s) (zfy lo (64 - s)) = bits .or .u64 (zfy lo (64 - s)) (hi * 2 ^ s) := by
    rw [u64_or _ _ hhi0 (by omega) f3 (by omega), u64_or _ _ f3 (by omega) hhi0 (by omega), Nat.or_comm]
   show bits .or .u64 (hi * 2 ^ s) (zfy lo (64 - s)) = _
   rw [hc, this]; omega
  obtain ⟨Q1, hQ1⟩ := IsQ.exists (U := hi * 2 ^ s + zfy lo (64 - s)) (l := zcg lo s / 4294967296) (Y := y * 2 ^ s) (by omega)
  obtain ⟨Q0, hQ0⟩ := IsQ.exists (U := (hi * 2 ^ s + zfy lo (64 - s)) * 4294967296 + zcg lo s / 4294967296 - Q1 * (y * 2 ^ s)) (l := zcg lo s % 4294967296) (Y := y * 2 ^ s) (by omega)
  have hcore := ziW hi lo y ⟨by omega, h3.2⟩ hlt hp w (y * 2 ^ s) (y * 2 ^ s / 4294967296) (y * 2 ^ s % 4294967296) (hi * 2 ^ s + zfy lo (64 - s)) (zcg lo s) (zcg lo s / 4294967296) (zcg lo s % 4294967296) Q1 Q0 _
   (by rw [← es]; exact hYv) rfl (zjW _ ⟨by omega, t1⟩) (by rw [← es, hHv]; exact hUv) (by rw [← es]; exact zbu _) rfl (zjW _ f2)
   (by omega) (by omega) (by omega) (by omega) (by omega) f2.1 (by omega) (by show _ = _; omega) hQ1 rfl hQ1 hQ0
  refine hcore.mono ?_
  rintro e w' ⟨rfl, rfl⟩
  rw [← es]
  rw [left_eq hQ0 t1]
  have q1n := hQ1.nonneg (by omega) (by omega) (by omega)
  have q1b := hQ1.lt_base (by omega) (by omega) (by omega)
  have q0n := hQ0.nonneg hQ1.1 (by omega) (by omega)
  have q0b := hQ0.lt_base hQ1.2 (by omega) (by omega)
  -- the remainder
  have key : hi * W64 * 2 ^ s + lo * 2 ^ s = (Q1 * 4294967296 + Q0) * (y * 2 ^ s) + (((hi * 2 ^ s + zfy lo (64 - s)) * 4294967296 + zcg lo s / 4294967296 - Q1 * (y * 2 ^ s)) * 4294967296 + zcg lo s % 4294967296 - Q0 * (y * 2 ^ s)) := by
   have hL := Int.emod_add_mul_ediv (zcg lo s) 4294967296
   generalize zcg lo s / 4294967296 = l1 at *
   generalize zcg lo s % 4294967296 = l0 at *
   generalize zfy lo (64 - s) = u at *
   generalize y * 2 ^ s = Y at *
   rw [← f1]
   generalize zcg lo s = L at *
   generalize (2 : Int) ^ s = z at *
   clear hcore hUv hHv hYv hQ0 hQ1
   rw [hW]
   grind
  generalize hR : ((hi * 2 ^ s + zfy lo (64 - s)) * 4294967296 + zcg lo s / 4294967296 - Q1 * (y * 2 ^ s)) * 4294967296 + zcg lo s % 4294967296 - Q0 * (y * 2 ^ s) = R at *
  have hR0 : 0 ≤ R ∧ R < y * 2 ^ s := by rw [← hR]; exact hQ0
  generalize hQQ : Q1 * 4294967296 + Q0 = Q at *
  have hRd : R = 2 ^ s * (hi * W64 + lo - Q * y) := by
   generalize (2 : Int) ^ s = z at *
   clear hcore hUv hHv hYv hQ0 hQ1 hR
   grind
  have hRr : R / 2 ^ s = hi * W64 + lo - Q * y := by
   rw [hRd, Int.mul_ediv_cancel_left _ (by omega)]
  rw [hRr]
  refine ⟨Q, _, rfl, by omega, ⟨?_, ?_⟩, by omega, Lat.refl _⟩
  ·rcases Int.lt_or_le (hi * W64 + lo - Q * y) 0 with hneg | hpos
   ·have := Int.mul_lt_mul_of_pos_left hneg ps
    omega
   ·exact hpos
  ·have h := hR0.2
   rw [hRd, Int.mul_comm y] at h
   exact Int.lt_of_mul_lt_mul_left h (Int.le_of_lt ps)
 ·subst he
  have e := Int.emod_add_mul_ediv lo y
  have m0 := Int.emod_nonneg lo (show y ≠ 0 by omega)
  have m1 := Int.emod_lt_of_pos lo h3.1
  have q0 : 0 ≤ lo / y := Int.ediv_nonneg h2.1 (by omega)
  have q1 : lo / y ≤ lo := Int.ediv_le_self y h2.1
  rw [Int.mul_comm] at e
  refine (ziX lo y h2 h3 w).mono ?_
  rintro e' w' ⟨rfl, hl⟩
  exact ⟨_, _, rfl, by omega, ⟨m0, m1⟩, ⟨q0, by omega⟩, hl⟩
def zfC (w : World) (x y : Int) (N : Nat) (e : Ending) (w' : World) : Prop :=
 ∃ A n c qs A' n' c' rs, e = .returned (.tuple #[.slice A n c, .slice A' n' c']) ∧ (Sl w' .u64 A n qs ∧ InR W64 qs ∧ val W64 qs = x / y ∧ n ≤ c ∧ n ≤ N) ∧
  (Sl w' .u64 A' n' rs ∧ InR W64 rs ∧ Nz rs ∧ val W64 rs = x % y ∧ n' ≤ c') ∧ Lat w w'
def OneInv (xs : List Int) (n : Nat) (d : Int) (j : Nat) (rest : Int) (qs : List Int) : Prop :=
 qs.length = n ∧ InR W64 qs ∧ (0 ≤ rest ∧ rest < d) ∧ val W64 (xs.drop j) = val W64 (qs.drop j) * d + rest
theorem OneInv.start {xs : List Int} {n : Nat} {d : Int} (hx : xs.length = n) (hd : 0 < d) : OneInv xs n d n 0 (List.replicate n 0) := by
 refine ⟨by simp, InR.zeros zaf _, ⟨Int.le_refl _, hd⟩, ?_⟩
 rw [List.drop_of_length_le (by omega), List.drop_of_length_le (by simp)]
 simp [val]
theorem OneInv.step {xs : List Int} {n : Nat} {d : Int} {j : Nat} {rest x q r : Int} {qs : List Int} (h : OneInv xs n d (j + 1) rest qs) (hj : j < n) (hx : xs[j]? = some x) (he : rest * W64 + x = q * d + r) (hr : 0 ≤ r ∧ r < d) (hq : 0 ≤ q ∧ q < W64) :
  OneInv xs n d j r (qs.set j q) := by
 obtain ⟨hl, hi, _, hv⟩ := h
 obtain ⟨lx, ex⟩ := List.getElem?_eq_some_iff.1 hx
 refine ⟨by simpa using hl, hi.set _ hq, hr, ?_⟩
 have e1 : (qs.set j q).drop j = q :: qs.drop (j + 1) := by
  rw [List.set_eq_take_append_cons_drop, if_pos (by omega), List.drop_append_of_le_length (by simp; omega), List.drop_of_length_le (by simp; omega)]
  rfl
 rw [e1, List.drop_eq_getElem_cons lx, ex, zfw, zfw, hv]
 generalize val W64 (qs.drop (j + 1)) = p
 grind
theorem OneInv.done {xs : List Int} {n : Nat} {d rest : Int} {qs : List Int} (h : OneInv xs n d 0 rest qs) : val W64 qs = val W64 xs / d ∧ rest = val W64 xs % d := by
 obtain ⟨_, _, hr, hv⟩ := h
 simp only [List.drop_zero] at hv
 rw [hv]
 constructor
 ·rw [Int.add_comm, Int.add_mul_ediv_right _ _ (by omega), Int.ediv_eq_zero_of_lt hr.1 hr.2]; omega
 ·rw [Int.add_comm, Int.add_mul_emod_self_right, Int.emod_eq_of_lt hr.1 hr.2]
theorem zhp (A1 : Option Addr) (n1 c1 : Nat) (xs : List Int) (A2 : Option Addr) (c2 : Nat) (d : Int) (w : World) (h1 : Sl w .u64 A1 n1 xs) (h2 : Sl w .u64 A2 1 [d]) (hx : InR W64 xs) (hd : 0 < d ∧ d < W64)
  (hn : n1 ≤ 1000000) :
  Calls Tryz.prog 117 #[.slice A1 n1 c1, .slice A2 1 c2] w (zfC w (val W64 xs) d n1) := by
 have hmk := zav (P := Tryz.prog) Tryz.underlying86 zbP (n1 : Int) n1 rfl (by omega) (by omega)
 go_enter Tryz.func117, Tryz.ntmps117
 go_wp2
 clear hmk
 refine zas (Q := fun W => Code.wp _ _ _ _ W) ?_
 intro W hl hs hb
 go_loopw [6, 7] (fun r i wr => ∃ (j : Nat) (rest : Int) (qs : List Int), j ≤ n1 ∧ i = .int .i64 ((j : Int) - 1) ∧ r = .int .u64 rest ∧ Hid (OneInv xs n1 d j rest qs) ∧ Lat w wr ∧ Blk wr w.heap.size 36 (nums .u64 qs)) (fun _ i _ => (intOf i + 1).toNat)
 case atStart => exact ⟨n1, 0, _, Nat.le_refl _, rfl, rfl, OneInv.start h1.1 hd.1, hl, hb⟩
 case round =>
  obtain ⟨j, rest, qs, hj, rfl, rfl, hinv, hlr, hbr⟩ := hrel
  clear hl hb hs
  rcases Nat.eq_zero_or_pos j with rfl | hp
  ·obtain ⟨hlen, hqi, hrest, hv⟩ := hinv.out
   obtain ⟨e1, e2⟩ := hinv.out.done
   have E1 := Lib.hid e1
   have E2 := Lib.hid e2
   have hsl : Sl (wr.alloc (.cells #[.int .u64 rest] 36)) .u64 (some ⟨wr.heap.size, 0, none⟩) 1 [rest] := Sl.of_blk (xs := [rest]) (Blk.new _ _ _)
   have hri : InR W64 [rest] := InR.cons ⟨hrest.1, by omega⟩ (InR.nil _)
   have hval : Hid (sgn false (val W64 [rest]) = rest) := by show _ = _; simp [sgn, val]
   have h0 : 0 ≤ sgn false (val W64 [rest]) := by rw [hval.out]; exact hrest.1
   have HLEN := Lib.hid hlen
   clear hlen hv e1 e2
   go_wp2_with (go_at_call 99; refine (zaI false _ _ _ _ [rest] hsl hri (Nat.le_refl _) (by omega)).mono ?_; intro e w' hpost; obtain ⟨m, zs, rfl, z1, z2, z3, z4, z5, z6, z7⟩ := hpost.words h0; have Z4 := Lib.hid z4; clear z4 hpost)
   go_ret2
   have L := (Lat.alloc wr (.cells #[.int .u64 rest] 36)).trans z7
   exact ⟨_, _, _, qs, _, _, _, zs, rfl, ⟨(Sl.of_blk' hbr HLEN.out).later L, hqi, E1.out, Nat.le_refl _, Nat.le_refl _⟩, ⟨z1, z2, z3, Z4.out.trans (hval.out.trans E2.out), z5⟩, hlr.trans L⟩
  ·obtain ⟨k, rfl⟩ : ∃ k, j = k + 1 := ⟨j - 1, by omega⟩
   have ej : (((k + 1 : Nat) : Int) - 1) = (k : Int) := by omega
   rw [ej]
   clear ej
   obtain ⟨a, x, rfl, ha, hxk, hcell⟩ := h1.at (i := k) (by omega)
   obtain ⟨a2, d', rfl, ha2, hd', hcell2⟩ := h2.at (i := 0) (by omega)
   obtain rfl : d = d' := by simpa using hd'
   obtain ⟨o, _, ho, hfo⟩ := hbr.slot (i := k) (by have := hinv.out.1; omega)
   have ea : a2.add 0 = a2 := rfl
   rw [ea] at hcell2
   clear ea
   have hrx := hx.at hxk
   have hrest := hinv.out.2.2.1
   have HX := Lib.hid hxk
   clear hxk hd'
   have b1 : (k : Int) < (n1 : Int) := by omega
   have b0 : (0 : Int) ≤ (k : Int) := by omega
   go_wp2
   have C1 : ∀ w', Lat w w' → w'.cell? (a.add k) = some (.int .u64 x) := fun w' hl => hl.cell (by rw [block_add]; exact ha) hcell
   have C2 : ∀ w', Lat w w' → w'.cell? a2 = some (.int .u64 d) := fun w' hl => hl.cell ha2 hcell2
   clear hcell hcell2
   have L0 := Lat.drew wr
   have L00 := hlr.trans L0
   go_region_held3 (fun w' => Lat w w') (first | assumption | exact Lat.setCell ‹_› (Nat.le_refl _) _) (first | (go_at_call 132; refine (zjY rest x d hrest.1 hrx hd hrest.2 _).mono ?_; rintro e w' ⟨q, r, rfl, he, hr, hq, hl⟩; have L1 := L0.trans hl; have L2 := hlr.trans L1; have hbq := hbr.later L1; have c3 := hl.cell hbr.lt ho; have c4 := hbq.frozen k; have HE := Lib.hid he; clear he))
   go_wp2
   go_roundw
   case rel => exact ⟨k, r, _, by omega, rfl, rfl, hinv.out.step (by omega) HX.out HE.out hr hq, L2.setCell (Nat.le_refl _) _, hbq.put k _⟩
   case measure => simp [intOf]
end Go.Proofs.YtpmbglhbcjbkcaaGreat
