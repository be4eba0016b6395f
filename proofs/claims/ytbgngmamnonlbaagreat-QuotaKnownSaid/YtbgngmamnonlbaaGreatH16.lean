/- Several texts in one: RefL, RefM. -/
import Derived.Test.YtbgngmamnonlbaaGreatH15
import Derived.Deep.LoopGhost
namespace Go.Proofs.YtbgngmamnonlbaaGreat
open Go.RowKit
theorem parts_dig (A1 : Option Addr) (n1 c1 : Nat) (xs : List Int) (A2 : Option Addr) (n2 c2 : Nat) (ys : List Int) (w : World) (h1 : Sl w .i64 A1 n1 xs) (h2 : Sl w .i64 A2 n2 ys) (hx : InR B32 xs) (hy : InR B32 ys)
  (zx : Nz xs) (zy : Nz ys) (hc1 : n1 ≤ c1) (hne : ys ≠ []) (hn : n1 ≤ 100000) (hm : n2 ≤ 100000) :
  Calls Tryz.prog 139 #[.slice A1 n1 c1, .slice A2 n2 c2] w (PrtPost w (val B32 xs / val B32 ys) (val B32 xs % val B32 ys) (n1 + 1) n2) := by
 obtain ⟨m, rfl⟩ : ∃ m, n2 = m + 1 := ⟨n2 - 1, by
  have := h2.1
  have : 0 < ys.length := List.length_pos_iff.2 hne
  omega⟩
 rcases Nat.lt_or_ge m n1 with h | h
 ·obtain ⟨L, rfl⟩ : ∃ L, n1 = L + m := ⟨n1 - m, by omega⟩
  exact parts_long A1 L m c1 xs A2 c2 ys w h1 h2 hx hy zx zy hc1 (by omega) (by omega) (by omega)
 ·exact parts_short A1 n1 c1 xs A2 m c2 ys w h1 h2 hx hy zx zy h (by omega)
theorem rg_of {w : World} {A : Option Addr} {n c : Nat} {xs : List Int} (hs : Sl w .i64 A n xs) (hr : InR B32 xs) (hz : Nz xs) (hc : n ≤ c) : Rg w false A n c (val B32 xs) :=
 ⟨hc, xs, hs, hr, hz, (fun h => by cases h), rfl⟩
theorem rs_gcd (b c : Bool) (x y : Int) : Int.gcd (sgn b x) (sgn c y) = Int.gcd x y := by
 cases b <;> cases c <;> simp [sgn]
set_option maxRecDepth 100000 in
set_option maxHeartbeats 1000000 in
theorem rDivisor_any (b1 : Bool) (A1 : Option Addr) (n1 c1 : Nat) (x : Int) (b2 : Bool) (A2 : Option Addr) (n2 c2 : Nat) (y : Int) (w : World) (h1 : Rg w b1 A1 n1 c1 x) (h2 : Rg w b2 A2 n2 c2 y) (hn : n1 ≤ 100000) (hm : n2 ≤ 100000) :
  Calls Tryz.prog 107 #[.agg #[.bool b1, .slice A1 n1 c1], .agg #[.bool b2, .slice A2 n2 c2]] w (RefPost w (Int.gcd x y) (max n1 n2)) := by
 obtain ⟨hc1, xs, s1, r1, z1, _, v1⟩ := h1
 obtain ⟨hc2, ys, s2, r2, z2, _, v2⟩ := h2
 have HG : Hid (Int.gcd x y = Int.gcd (val B32 xs) (val B32 ys)) := by show _ = _; rw [v1, v2, rs_gcd]
 clear v1 v2
 go_enter Tryz.func107, Tryz.ntmps107
 go_wp2
 refine name3 (Q := fun W => Code.wp _ _ _ _ W) ?_
 intro W hl hs k1 k2 k3
 have d1 := k1.cell (0 + 1)
 have d3 := k2.cell (0 + 1)
 go_quiet (fail)
 go_wp2
 refine gen (Q := fun W => Code.wp _ _ _ _ W) _ ?_
 intro W1 hW1
 have hl1 : Lat w W1 := by rw [hW1]; exact hl.trans (Lat.drewN _ _)
 have hk3 : Blk W1 (w.heap.size + 1 + 1) 116 #[.bool false, .slice none 0 0] := by rw [hW1]; exact k3
 clear hW1 d1 d3 k1 k2 k3 hs hl
 go_loopg [5, 6] (val B32 ys).toNat (fun gk a b wr => ∃ (A : Option Addr) (n c : Nat) (us : List Int) (B : Option Addr) (m d : Nat) (vs : List Int), a = .slice A n c ∧ b = .slice B m d ∧
  (Sl wr .i64 A n us ∧ InR B32 us ∧ Nz us ∧ n ≤ c ∧ n ≤ max n1 n2) ∧ (Sl wr .i64 B m vs ∧ InR B32 vs ∧ Nz vs ∧ m ≤ d ∧ m ≤ max n1 n2) ∧ Lat w wr ∧ Blk wr (w.heap.size + 1 + 1) 116 #[.bool false, .slice none 0 0] ∧
  Hid (Int.gcd x y = Int.gcd (val B32 us) (val B32 vs)) ∧ Hid (gk = (val B32 vs).toNat))
 case atStart => exact ⟨A1, n1, c1, xs, A2, n2, c2, ys, rfl, rfl, ⟨s1.later hl1, r1, z1, hc1, by omega⟩, ⟨s2.later hl1, r2, z2, hc2, by omega⟩, hl1, hk3, HG, rfl⟩
 case round =>
  clear hl1 hk3 HG
  obtain ⟨A, n, c, us, B, m, d, vs, rfl, rfl, ⟨u1, u2, u3, u4, u5⟩, ⟨v1, v2, v3, v4, v5⟩, hlr, hk, hg, hgk⟩ := hrel
  rcases Nat.eq_zero_or_pos m with rfl | hp
  ·have hG : Hid ((Int.gcd x y : Int) = val B32 us) := by
    have := List.eq_nil_of_length_eq_zero v1.1
    subst this
    show _ = _
    rw [hg.out, val_nil, Int.gcd_zero_right]
    exact Int.natAbs_of_nonneg (val_nonneg B32_pos u2)
   have c0 := hk.cell 0
   have c1' := hk.cell 1
   have f0 := hk.frozen 0
   have f1 := hk.frozen 1
   go_wp2
   refine bodyPost_ret (v := .agg #[.bool false, .slice A n c]) (by simp [results, Tryz.results107, go_sem, c0, c1']) rfl ?_
   rw [hG.out]
   exact RefPost.close hk (rg_of u1 u2 u3 u4) hlr (by omega) u5
  ·have hne : Hid (vs ≠ []) := by intro e; have := v1.1; simp [e] at this; omega
   have hvp : 0 < val B32 vs := val_pos B32_pos v2 v3 hne.out
   have hp' : decide ((0 : Int) < (m : Int)) = true := by simp; omega
   go_wp2_with fail
   refine (parts_dig A n c us B m d vs wr u1 v1 u2 v2 u3 v3 u4 hne.out (by omega) (by omega)).mono ?_
   rintro e w2 ⟨Aq, nq, cq, Ar, nr, cr, rfl, q1, q2, ⟨r5', rs, r1', r2', r3', r4'⟩, r6, hl2⟩
   have hlt : val B32 rs < val B32 vs := by rw [r4']; exact Int.emod_lt_of_pos _ hvp
   have h0 := val_nonneg B32_pos r2'
   have R4 := Lib.hid r4'
   clear q1 r4' q2
   go_wp2
   go_roundg (val B32 rs).toNat
   case measure => rw [hgk.out]; omega
   case rel => exact ⟨B, m, d, vs, Ar, nr, cr, rs, rfl, rfl, ⟨v1.later hl2, v2, v3, v4, v5⟩, ⟨r1', r2', r3', r5', by omega⟩, hlr.trans hl2, hk.later hl2, by show _ = _; rw [hg.out, R4.out, gcd_step], rfl⟩
end Go.Proofs.YtbgngmamnonlbaaGreat
namespace Go.Proofs.YtbgngmamnonlbaaGreat
open Go.RowKit
theorem val_two (u : Int) : val B32 [u % 4294967296, u / 4294967296] = u := by
 simp only [val, B32]; omega
theorem inr_two {u : Int} (h0 : 0 ≤ u) (h1 : u ≤ 9223372036854775808) : InR B32 [u % 4294967296, u / 4294967296] :=
 InR.cons (by unfold B32; omega) (InR.cons (by unfold B32; omega) (InR.nil _))
theorem neg_wraps (m : Int) (h0 : 0 < m) (h1 : m ≤ 9223372036854775808) : ∃ M, IntKind.u64.wrap (-m) = M ∧ 0 ≤ M ∧ IntKind.u64.wrap (-M) = m := by
 refine ⟨_, rfl, ?_, ?_⟩
 ·rw [IntKind.wrap_u64]; omega
 ·rw [IntKind.wrap_u64, IntKind.wrap_u64]; omega
set_option maxRecDepth 100000 in
set_option maxHeartbeats 1000000 in
theorem rLong1_pos (n : Int) (w : World) (h0 : 0 ≤ n) (h1 : n ≤ 9223372036854775807) :
  Calls Tryz.prog 89 #[.int .i64 n] w (RefPost w n 2) := by
 have hlt : decide (n < 0) = false := by simp; omega
 have HV := Lib.hid (val_two n)
 have HR := inr_two h0 (by omega)
 obtain ⟨a, ha⟩ : ∃ a, n % 4294967296 = a := ⟨_, rfl⟩
 obtain ⟨b, hb⟩ : ∃ b, n / 4294967296 = b := ⟨_, rfl⟩
 rw [ha, hb] at HR
 have HV' : Hid (val B32 [a, b] = n) := by show _ = _; rw [← ha, ← hb]; exact HV.out
 have ha0 : 0 ≤ a := by omega
 have ha1 : a < 4294967296 := by omega
 have hb0 : 0 ≤ b := by omega
 have hb1 : b < 4294967296 := by omega
 clear HV
 go_enter Tryz.func89, Tryz.ntmps89
 go_wp2_with fail
 refine name2 (Q := fun W => Calls _ _ _ W _) ?_
 intro W hl hs k1 k2
 refine (made_any false (some ⟨w.heap.size + 1, 0, none⟩) 2 2 W [a, b] (Sl.of_blk' (t := 3) k2 rfl) HR (Nat.le_refl _) (by omega)).mono ?_
 rintro e w1 ⟨b', A, m, c, rfl, hlg, hnn, hl1⟩
 have hk1 := k1.later hl1
 have c0 := hk1.cell 0
 have c1 := hk1.cell 1
 have f0 := hk1.frozen 0
 have f1 := hk1.frozen 1
 clear ha hb
 go_wp2
 refine bodyPost_ret (v := .agg #[.bool b', .slice A m c]) (by simp [results, Tryz.results89, go_sem, c0, c1]) rfl ?_
 have := RefPost.close hk1 hlg (hl.trans hl1) (by omega) hnn
 rw [HV'.out] at this
 exact this
set_option maxRecDepth 100000 in
set_option maxHeartbeats 1000000 in
theorem rLong1_neg (m : Int) (w : World) (h0 : 0 < m) (h1 : m ≤ 9223372036854775808) :
  Calls Tryz.prog 89 #[.int .i64 (-m)] w (RefPost w (-m) 2) := by
 have hlt : decide (-m < 0) = true := by simp; omega
 obtain ⟨M, e1, hM0, e2⟩ := neg_wraps m h0 h1
 have HV := Lib.hid (val_two m)
 have HR := inr_two (u := m) (by omega) (by omega)
 obtain ⟨a, ha⟩ : ∃ a, m % 4294967296 = a := ⟨_, rfl⟩
 obtain ⟨b, hb⟩ : ∃ b, m / 4294967296 = b := ⟨_, rfl⟩
 rw [ha, hb] at HR
 have HV' : Hid (val B32 [a, b] = m) := by show _ = _; rw [← ha, ← hb]; exact HV.out
 have ha0 : 0 ≤ a := by omega
 have ha1 : a < 4294967296 := by omega
 have hb0 : 0 ≤ b := by omega
 have hb1 : b < 4294967296 := by omega
 clear HV
 go_enter Tryz.func89, Tryz.ntmps89
 go_wp2_with fail
 refine name2 (Q := fun W => Calls _ _ _ W _) ?_
 intro W hl hs k1 k2
 refine (made_any true (some ⟨w.heap.size + 1, 0, none⟩) 2 2 W [a, b] (Sl.of_blk' (t := 3) k2 rfl) HR (Nat.le_refl _) (by omega)).mono ?_
 rintro e w1 ⟨b', A, n, c, rfl, hlg, hnn, hl1⟩
 have hk1 := k1.later hl1
 have c0 := hk1.cell 0
 have c1 := hk1.cell 1
 have f0 := hk1.frozen 0
 have f1 := hk1.frozen 1
 clear ha hb e1 e2
 go_wp2
 refine bodyPost_ret (v := .agg #[.bool b', .slice A n c]) (by simp [results, Tryz.results89, go_sem, c0, c1]) rfl ?_
 have := RefPost.close hk1 hlg (hl.trans hl1) (by omega) hnn
 rw [HV'.out] at this
 exact this
theorem rLong1_any (n : Int) (w : World) (h0 : -9223372036854775808 ≤ n) (h1 : n < 9223372036854775808) :
  Calls Tryz.prog 89 #[.int .i64 n] w (RefPost w n 2) := by
 rcases Int.lt_or_le n 0 with h | h
 ·have := rLong1_neg (-n) w (by omega) (by omega)
  rwa [Int.neg_neg] at this
 ·exact rLong1_pos n w h (by omega)
end Go.Proofs.YtbgngmamnonlbaaGreat
