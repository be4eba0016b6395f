/- Several texts in one: RdC, Cells, Many. -/
import Derived.Test.YtpmbglhbcjbkcaaGreatH24
import Derived.Test.YtpmbglhbcjbkcaaGreatH03
import Derived.Test.YtpmbglhbcjbkcaaGreatH13
import Derived.Deep.AppendLies
namespace Go.Proofs.YtpmbglhbcjbkcaaGreat
set_option maxHeartbeats 16000000
set_option maxRecDepth 100000
open Go.RowKit
set_option linter.unusedSimpArgs false
set_option linter.unusedVariables false
structure znq (n L H M : Int) : Prop where
 sum : wrap64 (L + H) = L + H
 half : (L + H).tdiv 2 = M
 half' : wrap64 M = M
 sq : wrap64 (M * M) = M * M
 lo : L < M
 hi : M < H
theorem znr {n L H : Int} (h0 : 0 ≤ L) (h1 : 1 < H - L) (h2 : H ≤ 4000000) : ∃ M, znq n L H M := by
 have hd : (L + H).tdiv 2 = (L + H) / 2 := Int.tdiv_eq_ediv_of_nonneg (by omega)
 have hm : 0 ≤ (L + H) / 2 ∧ (L + H) / 2 ≤ 4000000 := by omega
 have hs : (L + H) / 2 * ((L + H) / 2) ≤ 4000000 * 4000000 := Int.mul_le_mul hm.2 hm.2 hm.1 (by omega)
 have hp := Int.mul_nonneg hm.1 hm.1
 exact ⟨(L + H) / 2, IntWalk.wrap64_in _ (by omega), hd, IntWalk.wrap64_in _ (by omega), IntWalk.wrap64_in _ (by omega), by omega, by omega⟩
theorem zlZ (n : Int) (w : World) (h0 : 0 ≤ n) (h1 : n ≤ 10000000000000) :
  Calls Tryz.prog 98 #[.int .i64 n] w (fun e w' => e = .returned (.int .i64 (rtZ n)) ∧ w' = w) := by
 have H0 := Lib.hid h0
 have H1 := Lib.hid h1
 clear h0 h1
 go_enter Tryz.func98, Tryz.ntmps98
 go_wp2
 go_loopw [3, 4] (fun l h wr => ∃ L H : Int, l = .int .i64 L ∧ h = .int .i64 H ∧ 0 ≤ L ∧ L < H ∧ H ≤ 4000000 ∧ Hid (L * L ≤ n) ∧ Hid (n < H * H) ∧ wr = w) (fun l h _ => (intOf h - intOf l).toNat)
 case atStart => exact ⟨0, 4000000, rfl, rfl, by omega, by omega, by omega, (by have := H0.out; show (0 : Int) * 0 ≤ n; omega), (by have := H1.out; show n < 4000000 * 4000000; omega), rfl⟩
 case round =>
  obtain ⟨L, H, rfl, rfl, a0, a1, a2, a3, a4, rfl⟩ := hrel
  have hsub : wrap64 (H - L) = H - L := IntWalk.wrap64_in _ (by omega)
  by_cases hlt : 1 < H - L
  ·obtain ⟨M, m1, m2, m3, m4, m5, m6⟩ := znr (n := n) a0 hlt a2
   have A0 := Lib.hid a0
   have A1 := Lib.hid a1
   have A2 := Lib.hid a2
   have M5 := Lib.hid m5
   have M6 := Lib.hid m6
   have me1 : intOf (.int .i64 M) = M := rfl
   clear a0 a1 a2 m5 m6
   by_cases hle : M * M ≤ n
   ·go_wp2
    go_roundw
    case rel => exact ⟨M, H, by rw [m3], rfl, by have := A0.out; have := M5.out; omega, M6.out, A2.out, hle, a4, by first | rfl | trivial⟩
    case measure => simp only [intOf, m3]; have := M5.out; have := M6.out; omega
   ·have hgt : ¬ M * M ≤ n := hle
    go_wp2
    go_roundw
    case rel => exact ⟨L, M, rfl, by rw [m3], A0.out, M5.out, by have := A2.out; have := M6.out; omega, a3, (by show n < M * M; omega), by first | rfl | trivial⟩
    case measure => simp only [intOf, m3]; have := M5.out; have := M6.out; omega
  ·have e : H = L + 1 := by omega
   have hr : Hid (rtZ n = L) := zh7 a0 a3.out (by have := a4.out; rw [e] at this; exact this)
   clear e a3 a4
   go_wp2
   go_ret
   exact ⟨by rw [hr.out]; rfl, by first | rfl | trivial⟩
structure PtAt (N p f n s m : Nat) : Prop where
 cnt : p + f = 21546
 two : 2 ≤ p
 pos : 0 < n
 no : NoDiv p n
 prod : s * s * (m * n) = N
 sq : s * (zaN f p n).1 = zbR N
 un : m * (zaN f p n).2 = zbs N
theorem PtAt.start {N : Nat} (h : 0 < N) : PtAt N 2 21544 N 1 1 := ⟨rfl, by omega, h, NoDiv.two N, by omega, by rw [Nat.one_mul]; unfold zbR; rw [zef], by rw [Nat.one_mul]; unfold zbs; rw [zef]⟩
theorem PtAt.le {N p f n s m : Nat} (h : PtAt N p f n s m) (hN : 0 < N) : 0 < s ∧ 0 < m ∧ s ≤ N ∧ m ≤ N ∧ n ≤ N ∧ m * n ≤ N := by
 have hp := h.prod
 obtain ⟨h1, h2⟩ := zfe hp hN
 have hn := h.pos
 have hm : 0 < m := by
  rcases Nat.eq_zero_or_pos m with h0 | h0
  ·subst h0; simp at hp; omega
  ·exact h0
 have hs : 0 < s := by
  rcases Nat.eq_zero_or_pos s with h0 | h0
  ·subst h0; simp at hp; omega
  ·exact h0
 have h3 : m * 1 ≤ m * n := Nat.mul_le_mul_left _ hn
 have h4 : 1 * n ≤ m * n := Nat.mul_le_mul_right _ hm
 exact ⟨hs, hm, h1, by omega, by omega, h2⟩
structure PtIn (N p n s m k n' s' : Nat) : Prop where
 n : n = p ^ k * n'
 s : s' = s * p ^ (k / 2)
theorem PtIn.start (N p n s m : Nat) : PtIn N p n s m 0 n s := ⟨by simp, by simp⟩
theorem PtIn.le {N p f n s m k n' s' : Nat} (h : PtAt N p f n s m) (hi : PtIn N p n s m k n' s') (hN : 0 < N) : 0 < n' ∧ 0 < s' ∧ s' ≤ N ∧ n' ≤ N := by
 obtain ⟨e1, e2⟩ := hi
 have hn := h.pos
 have hp := h.two
 obtain ⟨hs, hm, _, _, hl, _⟩ := h.le hN
 have hpp : 0 < p ^ k := Nat.pow_pos (by omega)
 have hn' : 0 < n' := by
  rcases Nat.eq_zero_or_pos n' with h0 | h0
  ·subst h0; simp at e1; omega
  ·exact h0
 have hle : p ^ (k / 2) * p ^ (k / 2) ≤ p ^ k := by
  rw [← Nat.pow_add]
  exact Nat.pow_le_pow_right (by omega) (by omega)
 have h2 : s' * s' ≤ N := by
  have h3 : s * s * (p ^ (k / 2) * p ^ (k / 2)) ≤ s * s * (m * n) := by
   refine Nat.mul_le_mul_left _ (Nat.le_trans hle ?_)
   have h4 : p ^ k * 1 ≤ p ^ k * n' := Nat.mul_le_mul_left _ hn'
   have h5 : 1 * n ≤ m * n := Nat.mul_le_mul_right _ hm
   omega
  rw [h.prod] at h3
  have h6 : s' * s' = s * s * (p ^ (k / 2) * p ^ (k / 2)) := by rw [e2, Nat.mul_mul_mul_comm]
  omega
 have hs' : 0 < s' := by rw [e2]; exact Nat.mul_pos hs (Nat.pow_pos (by omega))
 have h7 : s' * 1 ≤ s' * s' := Nat.mul_le_mul_left _ hs'
 have h8 : 1 * n' ≤ p ^ k * n' := Nat.mul_le_mul_right _ hpp
 exact ⟨hn', hs', by omega, by omega⟩
theorem PtIn.step {N p n s m k n' s' : Nat} (hi : PtIn N p n s m k n' s') (hp : 2 ≤ p) (hd : n' % p = 0) : PtIn N p n s m (k + 1) (n' / p) (if k % 2 = 1 then s' * p else s') := by
 obtain ⟨e1, e2⟩ := hi
 have hk : n' = p * (n' / p) := (Nat.mul_div_cancel' (Nat.dvd_of_mod_eq_zero hd)).symm
 refine ⟨?_, ?_⟩
 ·rw [Nat.pow_succ, Nat.mul_assoc, ← hk]; exact e1
 ·by_cases h : k % 2 = 1
  ·rw [if_pos h, e2, show (k + 1) / 2 = k / 2 + 1 by omega, Nat.pow_succ, Nat.mul_assoc]
  ·rw [if_neg h, e2, show (k + 1) / 2 = k / 2 by omega]
theorem PtAt.next {N p f n s m k n' s' : Nat} (h : PtAt N p (f + 1) n s m) (hi : PtIn N p n s m k n' s') (hd : n' % p ≠ 0) : PtAt N (p + 1) f n' s' (m * p ^ (k % 2)) := by
 obtain ⟨h1, h2, h3, h4, h5, h6, h7⟩ := h
 obtain ⟨e1, e2⟩ := hi
 obtain ⟨x1, x2⟩ := zdp h2 hd e1
 have hn' : 0 < n' := by
  rcases Nat.eq_zero_or_pos n' with h0 | h0
  ·subst h0; simp at hd
  ·exact h0
 have hdv : n' ∣ n := ⟨p ^ k, by rw [e1, Nat.mul_comm]⟩
 have hh := zia p k
 simp only [zaN, x1, x2] at h6 h7
 refine ⟨by omega, by omega, hn', h4.step hdv hd, ?_, by rw [e2, Nat.mul_assoc]; exact h6, by rw [Nat.mul_assoc]; exact h7⟩
 rw [← h5, e1, e2, ← hh]
 simp only [Nat.mul_assoc, Nat.mul_left_comm, Nat.mul_comm]
theorem PtAt.stop {N p f n s m : Nat} (h : PtAt N p f n s m) (hlt : f = 0 ∨ n < p * p) : s * (zh9 n).1 = zbR N ∧ m * (zh9 n).2 = zbs N := by
 have e : zaN f p n = zh9 n := by
  rcases hlt with rfl | hlt
  ·rfl
  ·exact zcN f p n h.two h.pos hlt h.no
 have h6 := h.sq
 have h7 := h.un
 rw [e] at h6 h7
 exact ⟨h6, h7⟩
theorem zc8 {a : Nat} (h : a ≤ 9000000000000000) : wrap64 (a : Int) = (a : Int) := IntWalk.wrap64_in _ (by omega)
theorem zbz {a b c : Nat} (h : a * b = c) (hc : c ≤ 9000000000000000) : wrap64 ((a : Int) * (b : Int)) = (c : Int) := by
 rw [← Int.natCast_mul, h]; exact zc8 hc
theorem zfR (a b : Nat) : (a : Int).tmod (b : Int) = ((a % b : Nat) : Int) := by rw [Int.tmod_eq_emod_of_nonneg (by omega)]; omega
theorem zfS (a b : Nat) : (a : Int).tdiv (b : Int) = ((a / b : Nat) : Int) := by rw [Int.tdiv_eq_ediv_of_nonneg (by omega)]; omega
theorem zl0 {p : Nat} (h : p ≤ 21545) : wrap64 ((p : Int) * (p : Int)) = ((p * p : Nat) : Int) := zbz rfl (by have := Nat.mul_le_mul h h; omega)
theorem PtAt.fin {N p f n s m : Nat} (h : PtAt N p f n s m) (h0 : 0 < N) (h1 : N ≤ 10000000000000) (hx : (21545 < p) ∨ (p ≤ 21545 ∧ n < p * p)) :
  ∃ r rr S U : Nat, (∀ w, Calls Tryz.prog 98 #[.int .i64 (n : Nat)] w (fun e w' => e = .returned (.int .i64 (r : Nat)) ∧ w' = w)) ∧ wrap64 ((r : Int) * (r : Int)) = (rr : Int) ∧ zbR N = S ∧ zbs N = U ∧
   ((rr = n ∧ wrap64 ((s : Int) * (r : Int)) = (S : Int) ∧ m = U) ∨ ((((rr : Nat) : Int) == ((n : Nat) : Int)) = false ∧ s = S ∧ wrap64 ((m : Int) * (n : Int)) = (U : Int))) := by
 have hl := h.le h0
 have hst := h.stop (by
  rcases hx with hx | hx
  ·left; have := h.cnt; omega
  ·exact .inr hx.2)
 have hle3 := zb6 h0
 have hrl := zno n
 have hn1 : n ≤ 10000000000000 := by omega
 refine ⟨rt n, rt n * rt n, zbR N, zbs N, fun w => ?_, zbz rfl (by omega), rfl, rfl, ?_⟩
 ·have := zlZ (n : Int) w (by omega) (by omega)
  rw [zkq] at this
  exact this
 ·unfold zh9 at hst
  by_cases hrn : rt n * rt n = n
  ·rw [if_pos hrn] at hst
   refine .inl ⟨hrn, zbz hst.1 (by omega), ?_⟩
   have := hst.2
   simp only [Nat.mul_one] at this
   exact this
  ·rw [if_neg hrn] at hst
   refine .inr ⟨?_, ?_, zbz hst.2 (by omega)⟩
   ·rw [beq_eq_false_iff_ne]
    intro e
    exact hrn (Int.ofNat.inj e)
   ·have := hst.1
    simp only [Nat.mul_one] at this
    exact this
theorem zns {a b : Nat} (h : a < b) : (intOf (.int .i64 (a : Int))).toNat < (intOf (.int .i64 (b : Int))).toNat := by simpa [intOf] using h
theorem zar {B a : Nat} (h : a < B) : B - (intOf (.int .i64 ((a : Int) + 1))).toNat < B - (intOf (.int .i64 (a : Int))).toNat := by simp [intOf]; omega
theorem zel (i : Nat) : (intOf (.int .i64 ((i : Int) - 1)) + 1).toNat < (intOf (.int .i64 (i : Int)) + 1).toNat := by simp [intOf]
theorem zac (k : Nat) : Value.int .i64 ((k : Int) + 1) = .int .i64 ((k + 1 : Nat) : Int) := by simp
theorem zfj (N : Nat) (w : World) (h0 : 0 < N) (h1 : N ≤ 10000000000000) :
  Calls Tryz.prog 60 #[.int .i64 (N : Nat)] w (fun e w' => e = .returned (.tuple #[.int .i64 (zbR N : Nat), .int .i64 (zbs N : Nat)]) ∧ w' = w) := by
 have H0 := Lib.hid h0
 have H1 := Lib.hid h1
 clear h0 h1
 go_enter Tryz.func60, Tryz.ntmps60
 go_wp2_with fail
 refine wp_scope_straight ?_
 go_wp2
 go_step3
 go_wp2
 go_loopw [0, 2, 3, 4] (fun v0 v2 v3 v4 wr => ∃ p f n s m : Nat, v0 = .int .i64 (n : Nat) ∧ v2 = .int .i64 (s : Nat) ∧ v3 = .int .i64 (m : Nat) ∧ v4 = .int .i64 (p : Nat) ∧ Hid (PtAt N p f n s m) ∧ wr = w) (fun _ _ _ p _ => 21546 - (intOf p).toNat)
 case atStart => exact ⟨2, 21544, N, 1, 1, rfl, rfl, rfl, rfl, PtAt.start H0.out, rfl⟩
 case round =>
  obtain ⟨p, f, n, s, m, rfl, rfl, rfl, rfl, hP, rfl⟩ := hrel
  have hle := hP.out.le H0.out
  have hcnt := hP.out.cnt
  have htwo := hP.out.two
  have hpos := hP.out.pos
  have hN := H1.out
  by_cases hgo : p ≤ 21545 ∧ p * p ≤ n
  ·obtain ⟨g1, g2⟩ := hgo
   obtain ⟨f', rfl⟩ : ∃ f', f = f' + 1 := ⟨f - 1, by omega⟩
   have hpI : (p : Int) ≤ 21545 := by omega
   obtain ⟨pp, hpp⟩ : ∃ z, p * p = z := ⟨_, rfl⟩
   have hw := zbz hpp (by omega)
   have hng : ¬ (n : Int) < (pp : Int) := by omega
   have hp0 : ¬ (p : Int) = 0 := by omega
   have hp0' : ¬ p = 0 := by omega
   have HN := Lib.hid hN
   have HL := Lib.hid hle
   have HC := Lib.hid hcnt
   have HT := Lib.hid htwo
   have HG := Lib.hid g1
   clear hN hle hcnt htwo hpos g1 g2 hpp
   obtain ⟨wo, rfl⟩ : ∃ wo : World, wo = wr := ⟨_, rfl⟩
   go_wp2
   go_loopw [0, 2, 5] (fun v0 v2 v5 wr => ∃ (k n' s' : Nat) (o : Bool), v0 = .int .i64 (n' : Nat) ∧ v2 = .int .i64 (s' : Nat) ∧ v5 = .bool o ∧ Hid (o = decide (k % 2 = 1)) ∧ Hid (PtIn N p n s m k n' s') ∧ wr = wo) (fun n _ _ _ => (intOf n).toNat)
   case atStart => exact ⟨0, n, s, false, rfl, rfl, rfl, rfl, PtIn.start _ _ _ _ _, rfl⟩
   case round =>
    obtain ⟨k, n', s', o, rfl, rfl, rfl, ho, hI, rfl⟩ := hrel
    have hle2 := hI.out.le hP.out H0.out
    have hm := zfR n' p
    have hq := zfS n' p
    obtain ⟨r, hr⟩ : ∃ z, n' % p = z := ⟨_, rfl⟩
    obtain ⟨q, hqe⟩ : ∃ z, n' / p = z := ⟨_, rfl⟩
    rw [hr] at hm
    rw [hqe] at hq
    have hqn : q ≤ n' := by rw [← hqe]; exact Nat.div_le_self _ _
    have hqw := zc8 (a := q) (by have := HN.out; omega)
    have HR := Lib.hid hr
    have HQ := Lib.hid hqe
    have HL2 := Lib.hid hle2
    clear hr hqe hle2 hqn
    by_cases hr0 : r = 0
    ·as_aux_lemma =>
     subst hr0
     have hI2 := hI.out.step HT.out HR.out
     have hle3 := hI2.le hP.out H0.out
     have hlt : q < n' := by rw [← HQ.out]; exact Nat.div_lt_self HL2.out.1 HT.out
     rw [HQ.out] at hI2 hle3
     have HI2 := Lib.hid hI2
     have HL3 := Lib.hid hle3
     have HLT := Lib.hid hlt
     clear hI2 hle3 hlt
     cases o with
     | false =>
       have hk : ¬ k % 2 = 1 := by simpa using ho.out.symm
       have hk1 : true = decide ((k + 1) % 2 = 1) := by symm; rw [decide_eq_true_eq]; omega
       have HI3 := HI2.out
       rw [if_neg hk] at HI3
       have HI4 := Lib.hid HI3
       have HK := Lib.hid hk1
       clear HI3 hk hk1 HI2 HL3 ho
       go_wp2
       go_roundw
       case rel => exact ⟨k + 1, q, s', true, by rw [hqw], rfl, rfl, HK, HI4, by first | rfl | trivial⟩
       case measure => rw [hqw]; exact zns HLT.out
     | true =>
       have hk : k % 2 = 1 := by simpa using ho.out.symm
       have hk1 : false = decide ((k + 1) % 2 = 1) := by symm; rw [decide_eq_false_iff_not]; omega
       have HI3 := HI2.out
       have HL4 := HL3.out
       rw [if_pos hk] at HI3 HL4
       obtain ⟨s2, hs2⟩ : ∃ z, s' * p = z := ⟨_, rfl⟩
       have hsw := zbz hs2 (by have := HN.out; omega)
       rw [hs2] at HI3
       have HI4 := Lib.hid HI3
       have HK := Lib.hid hk1
       clear HI3 HL4 hs2 hk hk1 HI2 HL3 ho
       go_wp2
       go_roundw
       case rel => exact ⟨k + 1, q, s2, false, by rw [hqw], by rw [hsw], rfl, HK, HI4, by first | rfl | trivial⟩
       case measure => rw [hqw]; exact zns HLT.out
    ·as_aux_lemma =>
     have hnx := hP.out.next hI.out (by rw [HR.out]; exact hr0)
     have hrI : ((r : Int) == 0) = false := by simpa using hr0
     have hrI2 : ¬ (r : Int) = 0 := by omega
     have hwp : wrap64 ((p : Int) + 1) = (p : Int) + 1 := IntWalk.wrap64_in _ (by have := HG.out; omega)
     have hlt : Hid (p < 21546) := by have := HG.out; show p < 21546; omega
     cases o with
     | false =>
       have hk : ¬ k % 2 = 1 := by simpa using ho.out.symm
       rw [show k % 2 = 0 by omega, Nat.pow_zero, Nat.mul_one] at hnx
       have HX := Lib.hid hnx
       clear hnx hk ho
       go_wp2
       go_roundw
       case rel => exact ⟨p + 1, f', n', s', m, rfl, rfl, rfl, zac p, HX, by first | rfl | trivial⟩
       case measure => exact zar hlt.out
     | true =>
       have hk : k % 2 = 1 := by simpa using ho.out.symm
       rw [hk, Nat.pow_one] at hnx
       obtain ⟨m2, hm2⟩ : ∃ z, m * p = z := ⟨_, rfl⟩
       rw [hm2] at hnx
       have hsw := zbz hm2 (by have := (hnx.le H0.out); have := HN.out; omega)
       have HX := Lib.hid hnx
       clear hnx hk ho hm2
       go_wp2
       go_roundw
       case rel => exact ⟨p + 1, f', n', s', m2, rfl, rfl, by rw [hsw], zac p, HX, by first | rfl | trivial⟩
       case measure => exact zar hlt.out
  ·have hex : (21545 < p) ∨ (p ≤ 21545 ∧ n < p * p) := by
    rcases Nat.lt_or_ge 21545 p with h5 | h5
    ·exact .inl h5
    ·refine .inr ⟨h5, ?_⟩
     rcases Nat.lt_or_ge n (p * p) with h6 | h6
     ·exact h6
     ·exact absurd ⟨h5, h6⟩ hgo
   clear hle hcnt htwo hpos hN hgo
   obtain ⟨r, rr, S, U, f1, f2, f3, f4, f5⟩ := hP.out.fin H0.out H1.out hex
   rcases hex with hex | ⟨h5, h6⟩
   ·as_aux_lemma =>
    have hex' : ¬ (p : Int) ≤ 21545 := by omega
    have HF := Lib.hid f5
    clear f5 hex hP H0 H1
    go_wp2_with fail
    refine (f1 wr).mono ?_
    rintro e w' ⟨rfl, rfl⟩
    clear f1
    rcases HF.out with ⟨rfl, k1, rfl⟩ | ⟨k0, rfl, k1⟩
    ·clear HF
     go_wp2
     rw [Exit.noGoto_ret]
     go_ret2
     exact ⟨by rw [f3, f4, k1]; rfl, by first | rfl | trivial⟩
    ·clear HF
     go_wp2
     rw [Exit.noGoto_ret]
     go_ret2
     exact ⟨by rw [f3, f4, k1]; rfl, by first | rfl | trivial⟩
   ·as_aux_lemma =>
    have h5' : (p : Int) ≤ 21545 := by omega
    have h6' := zl0 h5
    obtain ⟨pp, hpp⟩ : ∃ z, p * p = z := ⟨_, rfl⟩
    rw [hpp] at h6 h6'
    have h7' : (n : Int) < (pp : Int) := by omega
    have HF := Lib.hid f5
    clear f5 hpp h6 h5 hP H0 H1
    go_wp2_with fail
    refine (f1 wr).mono ?_
    rintro e w' ⟨rfl, rfl⟩
    clear f1
    rcases HF.out with ⟨rfl, k1, rfl⟩ | ⟨k0, rfl, k1⟩
    ·clear HF
     go_wp2
     rw [Exit.noGoto_ret]
     go_ret2
     exact ⟨by rw [f3, f4, k1]; rfl, by first | rfl | trivial⟩
    ·clear HF
     go_wp2
     rw [Exit.noGoto_ret]
     go_ret2
     exact ⟨by rw [f3, f4, k1]; rfl, by first | rfl | trivial⟩
section
variable {w W : World} {A : Option Addr} {n : Nat} {xs : List Value}
end
section
variable {w w' : World} {B : Nat} {E : TypeId} {v : Value} {xs : List Value}
end
def RowM (w : World) (A : Option Addr) (m n : Nat) (xs : List (List Value)) : Prop :=
 xs.length = n ∧ (∀ x ∈ xs, x.length = m) ∧ (0 < n → ∃ g o, A = some ⟨g, o, none⟩ ∧ g < w.heap.size ∧ ∀ (i : Nat) (x : List Value), xs[i]? = some x → w.rangeAt g (o + i * m) x)
theorem zfT {W w : World} {g o : Nat} {l : List Value} (h : W.rangeAt g o l) (hg : g < W.heap.size) (hl : Lat W w) : w.rangeAt g o l := fun j v hj => hl.cell (p := ⟨g, o + j, none⟩) hg (h j v hj)
theorem zgM {W w : World} {g o : Nat} {l : List Value} (h : W.rangeAt g o l) (hk : w.heap[g]? = W.heap[g]?) : w.rangeAt g o l := fun j v hj => by
 rw [← h j v hj]
 exact World.cell?_of_block (a := ⟨g, o + j, none⟩) hk
section
variable {w W : World} {A : Option Addr} {m n : Nat} {xs : List (List Value)}
theorem RowM.later (h : RowM W A m n xs) (hl : Lat W w) : RowM w A m n xs :=
 ⟨h.1, h.2.1, fun hn => by
  obtain ⟨g, o, e, hb, hc⟩ := h.2.2 hn
  exact ⟨g, o, e, Nat.lt_of_lt_of_le hb hl.size, fun i x hx => zfT (hc i x hx) hb hl⟩⟩
theorem RowM.kept (h : RowM W A m n xs) (hs : W.heap.size ≤ w.heap.size) (hk : ∀ a, A = some a → w.heap[a.block]? = W.heap[a.block]?) : RowM w A m n xs :=
 ⟨h.1, h.2.1, fun hn => by
  obtain ⟨g, o, e, hb, hc⟩ := h.2.2 hn
  exact ⟨g, o, e, Nat.lt_of_lt_of_le hb hs, fun i x hx => zgM (hc i x hx) (hk _ e)⟩⟩
theorem RowM.nil (w : World) (A : Option Addr) (m : Nat) : RowM w A m 0 [] := ⟨rfl, fun x h => by simp at h, fun h => absurd h (by omega)⟩
theorem RowM.at (h : RowM w A m n xs) {i : Nat} (hi : i < n) : ∃ g o x, A = some ⟨g, o, none⟩ ∧ g < w.heap.size ∧ xs[i]? = some x ∧ x.length = m ∧ w.rangeAt g (o + i * m) x := by
 obtain ⟨g, o, e, hb, hc⟩ := h.2.2 (by omega)
 have hl : i < xs.length := by have := h.1; omega
 exact ⟨g, o, xs[i], e, hb, List.getElem?_eq_getElem hl, h.2.1 _ (List.getElem_mem hl), hc i _ (List.getElem?_eq_getElem hl)⟩
theorem RowM.take (h : RowM w A m n xs) {k : Nat} (hk : k ≤ n) : RowM w A m k (xs.take k) := by
 refine ⟨by rw [List.length_take, h.1]; omega, fun x hx => h.2.1 x (List.mem_of_mem_take hx), fun hp => ?_⟩
 obtain ⟨g, o, e, hb, hc⟩ := h.2.2 (by omega)
 refine ⟨g, o, e, hb, fun i x hx => hc i x ?_⟩
 rw [List.getElem?_take] at hx
 split at hx
 ·exact hx
 ·cases hx
end
theorem zem {m : Nat} : ∀ {xs : List (List Value)}, (∀ x ∈ xs, x.length = m) → xs.flatten.length = xs.length * m
 | [], _ => by simp
 | x :: r, h => by
   have h1 := h x (by simp)
   have h2 := zem (xs := r) (fun y hy => h y (by simp [hy]))
   rw [List.flatten_cons, List.length_append, h1, h2, List.length_cons, Nat.add_mul]
   omega
theorem flat_get {m : Nat} : ∀ {xs : List (List Value)} (_ : ∀ x ∈ xs, x.length = m) {i j : Nat} {x : List Value} {v : Value}, xs[i]? = some x → x[j]? = some v → xs.flatten[i * m + j]? = some v
 | [], _, i, j, x, v, hx, _ => by simp at hx
 | y :: r, h, 0, j, x, v, hx, hv => by
   simp at hx
   subst hx
   have hj : j < y.length := (List.getElem?_eq_some_iff.1 hv).1
   rw [Nat.zero_mul, Nat.zero_add, List.flatten_cons, List.getElem?_append_left hj]
   exact hv
 | y :: r, h, i + 1, j, x, v, hx, hv => by
   have h1 := h y (by simp)
   have h2 := flat_get (xs := r) (fun z hz => h z (by simp [hz])) (i := i) (by simpa using hx) hv
   rw [List.flatten_cons, List.getElem?_append_right (by rw [h1, Nat.add_mul]; omega), h1]
   rw [show (i + 1) * m + j - m = i * m + j by rw [Nat.add_mul]; omega]
   exact h2
def OwnM (w : World) (B : Nat) (E : TypeId) (m : Nat) (v : Value) (xs : List (List Value)) : Prop := (∀ x ∈ xs, x.length = m) ∧ w.ownsRow B E m v xs.length xs.flatten
section
variable {w w' : World} {B m : Nat} {E : TypeId} {v : Value} {xs : List (List Value)}
theorem OwnM.nil (w : World) (B : Nat) (E : TypeId) (m : Nat) : OwnM w B E m (.slice none 0 0) [] := ⟨fun x h => by simp at h, World.ownsRow_nil _ _ _ _⟩
theorem OwnM.later (h : OwnM w B E m v xs) (hl : Lat w w') : OwnM w' B E m v xs := by
 obtain ⟨h0, h1, h2⟩ := h
 refine ⟨h0, h1, ?_⟩
 rcases h2 with h2 | ⟨g, cap, cur, a1, a2, a3, a4⟩
 ·exact .inl h2
 ·refine .inr ⟨g, cap, cur, a1, a2, ?_, a4⟩
  have hlt : g < w.heap.size := by
   rcases Nat.lt_or_ge g w.heap.size with hlt | hge
   ·exact hlt
   ·rw [Array.getElem?_eq_none hge] at a3; cases a3
  rw [Below.block hl g hlt]; exact a3
theorem OwnM.kept (h : OwnM w B E m v xs) (hk : ∀ g, v.ownBlock = some g → w'.heap[g]? = w.heap[g]?) : OwnM w' B E m v xs := by
 obtain ⟨h0, h1, h2⟩ := h
 refine ⟨h0, h1, ?_⟩
 rcases h2 with h2 | ⟨g, cap, cur, a1, a2, a3, a4⟩
 ·exact .inl h2
 ·refine .inr ⟨g, cap, cur, a1, a2, ?_, a4⟩
  rw [hk g (by rw [a1]; rfl)]; exact a3
theorem OwnM.form (h : OwnM w B E m v xs) : ∃ A c, v = .slice A xs.length c ∧ RowM w A m xs.length xs ∧ xs.length ≤ c ∧ (∀ a, A = some a → B ≤ a.block ∧ a.block < w.heap.size) ∧ (A = none → xs.length = 0 ∧ c = 0) := by
 obtain ⟨h0, h1, h2⟩ := h
 rcases h2 with ⟨rfl, hz⟩ | ⟨g, cap, cur, rfl, hb, hg, hnc, _, hcs, ht⟩
 ·refine ⟨none, 0, by rw [hz], ?_, by omega, (fun a e => by cases e), fun _ => ⟨hz, rfl⟩⟩
  have : xs = [] := List.eq_nil_of_length_eq_zero hz
  subst this
  exact RowM.nil _ _ _
 ·have hlt : g < w.heap.size := by
   rcases Nat.lt_or_ge g w.heap.size with hlt | hge
   ·exact hlt
   ·rw [Array.getElem?_eq_none hge] at hg; cases hg
  refine ⟨_, cap, rfl, ⟨rfl, h0, fun hn => ⟨g, 0, rfl, hlt, fun i x hx j u hu => ?_⟩⟩, hnc, (fun a e => by cases e; exact ⟨hb, hlt⟩), fun e => by cases e⟩
  rw [cell_of_row w g (0 + i * m + j) cur E (0, 0) hg]
  have hi := flat_get h0 hx hu
  rw [← ht, List.getElem?_take] at hi
  split at hi
  ·rw [Nat.zero_add]; simpa using hi
  ·cases hi
theorem OwnM.lat {W : World} (h : OwnM w B E m v xs) (hl : Lat W w) (hB : W.heap.size ≤ B) (hg : w.grownBy w' v.ownBlock) : Lat W w' :=
 Below.grown hl hg (hl.size) (fun j hj => by
  rcases h.2.2 with ⟨rfl, _⟩ | ⟨g, cap, cur, rfl, hb, _⟩
  ·cases hj
  ·have : g = j := by simpa [Value.ownBlock] using hj
   omega)
end
theorem zaR {P : Program} {ops : Array Oper} {rest : List Oper} {o : Oper} {a : Act} {Q : Exit → Act → World → Prop} (hgd : o.guard = none) (s x : Operand) (t : TypeId)
  (ho : o.op = .call { callee := .builtin .append, args := #[s, x], argTypes := #[t, t] })
  (B : Nat) (E T : TypeId) (z : Value) (m by_ : Nat) (ht : P.underlying t = some (.slice E)) (hinfo : (P.info? E).map (fun i => (i.zero, i.size, i.bytes)) = some (some z, m, by_)) (hz : z.cells.size = m) (hm : 0 < m) (hby : by_ ≤ 1000)
  (v : Value) (xs : List (List Value)) (y : List Value) (hys : ∀ u ∈ y, u.oneCell' = true) (w : World) (g : Nat) (hs : a.eval s = v) (hown : OwnM w B E m v xs) (hb : Blk w g T y.toArray)
  (hy : y.length = m) (c : Nat) (hx : a.eval x = .slice (some ⟨g, 0, none⟩) 1 c) (hlen : xs.length ≤ 100000000) (hB : B ≤ w.heap.size)
  (h : ∀ v' w', OwnM w' B E m v' (xs ++ [y]) → w.grownBy w' v.ownBlock → (∀ W0, Lat W0 w → W0.heap.size ≤ B → Lat W0 w') → wpList P ops Q rest (a.put o.dst v') w') : wpList P ops Q (o :: rest) a w := by
 obtain ⟨i0, hi, hz0, hz1, hz2⟩ := info_parts hinfo
 refine wpList_append_own _ hgd s x t ho B E i0 z m by_ ht hi hz0 hz1 hz2 hz hm v xs.length _ hs hown.2 ⟨g, 0, none⟩ 1 c y hx (by omega) ?_ hys ?_ ?_ hB ?_
 ·intro j u hu
  have e : (⟨g, 0, none⟩ : Addr).add j = ⟨g, j, none⟩ := by unfold Addr.add; split <;> simp_all
  rw [e, hb.cell j]
  simpa using hu
 ·unfold maxLen; omega
 ·have := Nat.mul_le_mul_left (xs.length + 1) hby; omega
 ·intro v' w' h1 h2 _
  refine h v' w' ⟨fun u hu => ?_, ?_⟩ h2 (fun W0 hl hle => OwnM.lat hown hl hle h2)
  ·rcases List.mem_append.1 hu with hu | hu
   ·exact hown.1 u hu
   ·rw [List.mem_singleton] at hu; subst hu; exact hy
  ·rw [List.length_append, List.flatten_append]
   simpa using h1
end Go.Proofs.YtpmbglhbcjbkcaaGreat
