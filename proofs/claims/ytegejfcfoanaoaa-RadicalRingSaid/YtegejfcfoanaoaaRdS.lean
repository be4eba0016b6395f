
/- Radical, the reference: Squares. -/
import Derived.Deep.DeepCutAuto
import Derived.Test.YtegejfcfoanaoaaRdC
import Derived.Test.YtegejfcfoanaoaaRdF
import Derived.Test.YtegejfcfoanaoaaRdI
namespace Go.Proofs.Ytegejfcfoanaoaa
open Go.RowKit
set_option linter.unusedSimpArgs false
set_option linter.unusedVariables false
set_option maxRecDepth 100000

theorem PtIn.pow {N p f n s m k n' : Nat} (h : PtAt N p f n s m) (e : n = p ^ k * n') (hN : 0 < N) : k < n ∧ 0 < n' ∧ n' ≤ n ∧ ∀ i, i ≤ k / 2 → s * p ^ i ≤ N := by
  have hi : PtIn N p n s m k n' (s * p ^ (k / 2)) := ⟨e, rfl⟩
  have hl := hi.le h hN
  have hp := h.two
  have h1 := pow_ge p k hp
  have h2 : p ^ k * 1 ≤ p ^ k * n' := Nat.mul_le_mul_left _ hl.1
  have h3 : 1 * n' ≤ p ^ k * n' := Nat.mul_le_mul_right _ (Nat.pow_pos (by omega))
  refine ⟨by omega, hl.1, by omega, fun i hik => Nat.le_trans ?_ hl.2.2.1⟩
  exact Nat.mul_le_mul_left _ (Nat.pow_le_pow_right (by omega) hik)
theorem PtAt.finR {N p f n s m : Nat} (h : PtAt N p f n s m) (h0 : 0 < N) (h1 : N ≤ 10000000000000) (hx : 21545 < p) :
    ∃ r rr S U : Nat, ((∀ w, Calls Try.prog 44 #[.int .i64 (n : Nat)] w (RefN w (n : Nat) 2)) ∧
      (∀ A1 n1 c1 w, Rg w false A1 n1 c1 (n : Nat) → n1 ≤ 2 → Calls Try.prog 56 #[.agg #[.bool false, .slice A1 n1 c1]] w (RefPost w (r : Nat) 3)) ∧
      (∀ b1 A1 n1 c1 w, Rg w b1 A1 n1 c1 (r : Nat) → n1 ≤ 3 → Calls Try.prog 45 #[.agg #[.bool b1, .slice A1 n1 c1]] w (fun e w' => e = .returned (.tuple #[.int .i64 (r : Nat), .int .i64 0]) ∧ Lat w w'))) ∧
      wrap64 ((r : Int) * (r : Int)) = (rr : Int) ∧ sqOf N = S ∧ unOf N = U ∧
      ((rr = n ∧ wrap64 ((s : Int) * (r : Int)) = (S : Int) ∧ m = U) ∨ ((((rr : Nat) : Int) == ((n : Nat) : Int)) = false ∧ s = S ∧ wrap64 ((m : Int) * (n : Int)) = (U : Int))) := by
  have hl := h.le h0
  have hst := h.stop (by left; have := h.cnt; omega)
  have hle3 := part_le h0
  have hrl := rt_le n
  have hn1 : n ≤ 10000000000000 := by omega
  have hrn0 : rt n ≤ n := by
    rcases Nat.eq_zero_or_pos (rt n) with h0 | h0
    · omega
    · have : rt n * 1 ≤ rt n * rt n := Nat.mul_le_mul_left _ h0
      omega
  refine ⟨rt n, rt n * rt n, sqOf N, unOf N, ⟨fun w => ?_, fun A1 n1 c1 w h1 h2 => ?_, fun b1 A1 n1 c1 w h1 h2 => ?_⟩, nat_mul rfl (by omega), rfl, rfl, ?_⟩
  · exact (rLong1_any (n : Int) w (by omega) (by omega)).mono fun e w' h => h.nonneg (by omega)
  · have := rFloor_any A1 n1 c1 (n : Int) w h1 (by omega)
    rw [rtZ_nat] at this
    refine this.mono ?_
    rintro e w' ⟨b, A, n', c, h3, h4, h5, h6⟩
    exact ⟨b, A, n', c, h3, h4, by omega, h6⟩
  · have := rInteger_any b1 A1 n1 c1 (rt n : Nat) w h1 (by omega)
    unfold intV intE at this
    rw [if_pos (by omega), if_pos (by omega)] at this
    exact this
  · unfold finQ at hst
    by_cases hrn : rt n * rt n = n
    · rw [if_pos hrn] at hst
      refine .inl ⟨hrn, nat_mul hst.1 (by omega), ?_⟩
      have := hst.2
      simp only [Nat.mul_one] at this
      exact this
    · rw [if_neg hrn] at hst
      refine .inr ⟨?_, ?_, nat_mul hst.2 (by omega)⟩
      · rw [beq_eq_false_iff_ne]
        intro e
        exact hrn (Int.ofNat.inj e)
      · have := hst.1
        simp only [Nat.mul_one] at this
        exact this
theorem sq_half {N p f n s m k n' : Nat} (hP : PtAt N p (f + 1) n s m) (hI : n = p ^ k * n') (h0 : 0 < N) (h1 : N ≤ 10000000000000) (hd : n' % p ≠ 0) :
    ∃ h t : Nat, (k : Int).tdiv 2 = (h : Int) ∧ wrap64 (h : Int) = (h : Int) ∧ (k : Int).tmod 2 = (t : Int) ∧ wrap64 (t : Int) = (t : Int) ∧ h ≤ 10000000000000 ∧
      (∀ i s' : Nat, i < h → s' = s * p ^ i → ∃ s2 : Nat, wrap64 ((s' : Int) * (p : Int)) = (s2 : Int) ∧ s2 = s * p ^ (i + 1)) ∧
      (∀ s' : Nat, s' = s * p ^ h → (t = 0 ∧ PtAt N (p + 1) f n' s' m) ∨ (t = 1 ∧ ∃ m2 : Nat, wrap64 ((m : Int) * (p : Int)) = (m2 : Int) ∧ PtAt N (p + 1) f n' s' m2)) := by
  have hpw := PtIn.pow hP hI h0
  have hle := hP.le h0
  have hnx := hP.next (k := k) (s' := s * p ^ (k / 2)) ⟨hI, rfl⟩ hd
  refine ⟨k / 2, k % 2, nat_tdiv k 2, nat_wrap (by omega), nat_tmod k 2, nat_wrap (by omega), by omega, fun i s' hi hs => ?_, fun s' hs => ?_⟩
  · have h3 : s' * p = s * p ^ (i + 1) := by rw [hs, Nat.pow_succ, Nat.mul_assoc]
    have h4 := hpw.2.2.2 (i + 1) hi
    exact ⟨_, nat_mul h3 (by omega), rfl⟩
  · rw [← hs] at hnx
    rcases Nat.mod_two_eq_zero_or_one k with h | h
    · rw [h, Nat.pow_zero, Nat.mul_one] at hnx
      exact .inl ⟨h, hnx⟩
    · rw [h, Nat.pow_one] at hnx
      have := (hnx.le h0).2.2.2.1
      exact .inr ⟨h, m * p, nat_mul rfl (by omega), hnx⟩
set_option maxHeartbeats 8000000 in
theorem squares_any (N : Nat) (w : World) (h0 : 0 < N) (h1 : N ≤ 10000000000000) :
    Calls Try.prog 41 #[.int .i64 (N : Nat)] w (fun e w' => e = .returned (.tuple #[.int .i64 (sqOf N : Nat), .int .i64 (unOf N : Nat)]) ∧ Lat w w') := by
  have H0 := Lib.hid h0
  have H1 := Lib.hid h1
  clear h0 h1
  go_enter Try.func41, Try.ntmps41
  go_wp2
  go_loopw [4, 5, 6, 7] (fun v4 v5 v6 v7 wr => ∃ p f n s m : Nat, v4 = .int .i64 (s : Nat) ∧ v5 = .int .i64 (m : Nat) ∧ v6 = .int .i64 (n : Nat) ∧ v7 = .int .i64 (p : Nat) ∧ Hid (PtAt N p f n s m) ∧ wr = w) (fun _ _ _ p _ => 21546 - (intOf p).toNat)
  case atStart => exact ⟨2, 21544, N, 1, 1, rfl, rfl, rfl, rfl, PtAt.start H0.out, rfl⟩
  case round =>
    obtain ⟨p, f, n, s, m, rfl, rfl, rfl, rfl, hP, rfl⟩ := hrel
    have hle := hP.out.le H0.out
    have hcnt := hP.out.cnt
    have htwo := hP.out.two
    have hpos := hP.out.pos
    have hN := H1.out
    by_cases hgo : p ≤ 21545
    · obtain ⟨f', rfl⟩ : ∃ f', f = f' + 1 := ⟨f - 1, by omega⟩
      have hpI : (p : Int) ≤ 21545 := by omega
      have hp0 : ¬ (p : Int) = 0 := by omega
      have hp0' : ¬ p = 0 := by omega
      have HN := Lib.hid hN
      have HL := Lib.hid hle
      have HC := Lib.hid hcnt
      have HT := Lib.hid htwo
      have HG := Lib.hid hgo
      clear hN hle hcnt htwo hpos hgo
      obtain ⟨wo, rfl⟩ : ∃ wo : World, wo = wr := ⟨_, rfl⟩
      go_wp2
      go_loopw [6, 8] (fun v6 v8 wr => ∃ k n' : Nat, v6 = .int .i64 (n' : Nat) ∧ v8 = .int .i64 (k : Nat) ∧ Hid (n = p ^ k * n') ∧ wr = wo) (fun n _ _ => (intOf n).toNat)
      case atStart => exact ⟨0, n, rfl, rfl, (by show n = _; simp), rfl⟩
      case round =>
        obtain ⟨k, n', rfl, rfl, hI, rfl⟩ := hrel
        have hpw := PtIn.pow hP.out hI.out H0.out
        have hm := nat_tmod n' p
        have hq := nat_tdiv n' p
        obtain ⟨r, hr⟩ : ∃ z, n' % p = z := ⟨_, rfl⟩
        obtain ⟨q, hqe⟩ : ∃ z, n' / p = z := ⟨_, rfl⟩
        rw [hr] at hm
        rw [hqe] at hq
        have hqn : q ≤ n' := by rw [← hqe]; exact Nat.div_le_self _ _
        have hqw := nat_wrap (a := q) (by have := HN.out; have := HL.out; omega)
        have hkw : wrap64 ((k : Int) + 1) = (k : Int) + 1 := IntWalk.wrap64_in _ (by have := HN.out; have := HL.out; omega)
        have HR := Lib.hid hr
        have HQ := Lib.hid hqe
        have HPW := Lib.hid hpw
        clear hr hqe hqn hpw
        by_cases hr0 : r = 0
        · as_aux_lemma =>
          subst hr0
          have hI2 : Hid (n = p ^ (k + 1) * q) := by
            have hd : n' = p * q := by rw [← HQ.out]; exact (Nat.mul_div_cancel' (Nat.dvd_of_mod_eq_zero HR.out)).symm
            show n = _
            rw [hI.out, Nat.pow_succ, Nat.mul_assoc, ← hd]
          have hlt : Hid (q < n') := by
            show q < n'
            rw [← HQ.out]; exact Nat.div_lt_self HPW.out.2.1 HT.out
          go_wp2
          go_roundw
          case rel => exact ⟨k + 1, q, by rw [hqw], by first | exact me_succ k | (rw [hkw]; exact me_succ k), hI2, by first | rfl | trivial⟩
          case measure => rw [hqw]; exact me_dn hlt.out
        · as_aux_lemma =>
          obtain ⟨h, t, e1, e2, e3, e4, e5, e6, e7⟩ := sq_half hP.out hI.out H0.out H1.out (by rw [HR.out]; exact hr0)
          have hrI : ((r : Int) == 0) = false := by simpa using hr0
          have hrI2 : ¬ (r : Int) = 0 := by omega
          have hwp : wrap64 ((p : Int) + 1) = (p : Int) + 1 := IntWalk.wrap64_in _ (by have := HG.out; omega)
          have hplt : Hid (p < 21546) := Nat.lt_succ_of_le HG.out
          have E5 := Lib.hid e5
          have E6 := Lib.hid e6
          have E7 := Lib.hid e7
          clear e5 e6 e7 hqw hkw hq
          obtain ⟨w5, rfl⟩ : ∃ w5 : World, w5 = wr := ⟨_, rfl⟩
          go_wp2
          go_loopw [4, 9] (fun v4 v9 wr => ∃ i s' : Nat, i ≤ h ∧ v4 = .int .i64 (s' : Nat) ∧ v9 = .int .i64 (i : Nat) ∧ Hid (s' = s * p ^ i) ∧ wr = w5) (fun _ i _ => h - (intOf i).toNat)
          case atStart => exact ⟨0, s, Nat.zero_le _, rfl, rfl, (by show s = _; simp), rfl⟩
          case round =>
            obtain ⟨i, s', hi, rfl, rfl, hs, rfl⟩ := hrel
            by_cases hih : i < h
            · as_aux_lemma =>
              obtain ⟨s2, hsw, hs3⟩ := E6.out i s' hih hs.out
              have hiw : wrap64 ((i : Int) + 1) = (i : Int) + 1 := IntWalk.wrap64_in _ (by have := E5.out; omega)
              have hlt : (i : Int) < (h : Int) := Int.ofNat_lt.2 hih
              have HS3 := Lib.hid hs3
              have HIH := Lib.hid hih
              clear hs3 hih hi
              go_wp2
              go_roundw
              case rel => exact ⟨i + 1, s2, HIH.out, by rw [hsw], by first | exact me_succ i | (rw [hiw]; exact me_succ i), HS3, by first | rfl | trivial⟩
              case measure => first | exact me_up HIH.out | (rw [hiw]; exact me_up HIH.out)
            · as_aux_lemma =>
              obtain rfl : i = h := Nat.le_antisymm hi (Nat.le_of_not_lt hih)
              have hge : ¬ (i : Int) < (i : Int) := Int.lt_irrefl _
              have H7 := E7.out s' hs.out
              clear hi hih E7 E6 E5 hs
              rcases H7 with ⟨rfl, hx⟩ | ⟨rfl, m2, hsw, hx⟩
              · have HX := Lib.hid hx
                clear hx
                go_wp2
                go_roundw
                case rel => exact ⟨p + 1, f', n', s', m, rfl, rfl, rfl, by first | exact me_succ p | (rw [hwp]; exact me_succ p), HX, by first | rfl | trivial⟩
                case measure => first | exact me_up hplt.out | (rw [hwp]; exact me_up hplt.out)
              · have HX := Lib.hid hx
                clear hx
                go_wp2
                go_roundw
                case rel => exact ⟨p + 1, f', n', s', m2, rfl, by rw [hsw], rfl, by first | exact me_succ p | (rw [hwp]; exact me_succ p), HX, by first | rfl | trivial⟩
                case measure => first | exact me_up hplt.out | (rw [hwp]; exact me_up hplt.out)
    · as_aux_lemma =>
      have hex : ¬ (p : Int) ≤ 21545 := by omega
      obtain ⟨r, rr, S, U, f1, f2, f3, f4, f5⟩ := hP.out.finR H0.out H1.out (by omega)
      have HF := Lib.hid f5
      clear f5 hle hcnt htwo hpos hN hgo hP H0 H1
      go_wp2_with fail
      refine (f1.1 wr).mono ?_
      rintro e w1 ⟨A1, n1, c1, rfl, q1, q2, l1⟩
      go_wp2_with fail
      refine (f1.2.1 A1 n1 c1 w1 q1 q2).mono ?_
      rintro e w2 ⟨b2, A2, n2, c2, rfl, q3, q4, l2⟩
      have L2 := l1.trans l2
      clear q1 l1 l2 q2
      go_wp2_with fail
      refine (f1.2.2 b2 A2 n2 c2 w2 q3 q4).mono ?_
      rintro e w3 ⟨rfl, l3⟩
      have L3 := L2.trans l3
      clear q3 q4 l3 L2 f1
      rcases HF.out with ⟨rfl, k1, rfl⟩ | ⟨k0, rfl, k1⟩
      · clear HF
        go_wp2
        go_ret2
        exact ⟨by rw [f3, f4, k1]; rfl, L3⟩
      · clear HF
        go_wp2
        go_ret2
        exact ⟨by rw [f3, f4, k1]; rfl, L3⟩
end Go.Proofs.Ytegejfcfoanaoaa
