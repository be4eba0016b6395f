/- Several texts in one: RefL, RefM, RefN, RefO, RefP, RefQ, RefR, RefS. -/
import Derived.Test.YtpmbglhbcjbkcaaGreatH17
import Derived.Deep.LoopGhost
import Derived.Deep.DeepCutAuto
import Derived.Deep.DrawnRows
import Derived.Test.YtpmbglhbcjbkcaaGreatH11
namespace Go.Proofs.YtpmbglhbcjbkcaaGreat
set_option maxHeartbeats 16000000
set_option maxRecDepth 100000
open Go.RowKit
theorem zgz (A1 : Option Addr) (n1 c1 : Nat) (xs : List Int) (A2 : Option Addr) (n2 c2 : Nat) (ys : List Int) (w : World) (h1 : Sl w .i64 A1 n1 xs) (h2 : Sl w .i64 A2 n2 ys) (hx : InR B32 xs) (hy : InR B32 ys)
  (zx : Nz xs) (zy : Nz ys) (hc1 : n1 ≤ c1) (hne : ys ≠ []) (hn : n1 ≤ 100000) (hm : n2 ≤ 100000) :
  Calls Tryz.prog 121 #[.slice A1 n1 c1, .slice A2 n2 c2] w (zhr w (val B32 xs / val B32 ys) (val B32 xs % val B32 ys) (n1 + 1) n2) := by
 obtain ⟨m, rfl⟩ : ∃ m, n2 = m + 1 := ⟨n2 - 1, by
  have := h2.1
  have : 0 < ys.length := List.length_pos_iff.2 hne
  omega⟩
 rcases Nat.lt_or_ge m n1 with h | h
 ·obtain ⟨L, rfl⟩ : ∃ L, n1 = L + m := ⟨n1 - m, by omega⟩
  exact zi2 A1 L m c1 xs A2 c2 ys w h1 h2 hx hy zx zy hc1 (by omega) (by omega) (by omega)
 ·exact zhs A1 n1 c1 xs A2 m c2 ys w h1 h2 hx hy zx zy h (by omega)
def zgA (x : Int) : Int := if x < 0 then -1 else if x = 0 then 0 else 1
theorem zbl (b1 : Bool) (A1 : Option Addr) (n1 c1 : Nat) (x : Int) (b2 : Bool) (A2 : Option Addr) (n2 c2 : Nat) (y : Int) (w : World) (h1 : Rg w b1 A1 n1 c1 x) (h2 : Rg w b2 A2 n2 c2 y) (hn : n1 ≤ 1000000) (hm : n2 ≤ 1000000) :
  Calls Tryz.prog 75 #[.agg #[.bool b1, .slice A1 n1 c1], .agg #[.bool b2, .slice A2 n2 c2]] w (fun e w' => e = .returned (.int .i64 (zgA (x - y))) ∧ Lat w w') := by
 go_enter Tryz.func75, Tryz.ntmps75
 go_wp2_with fail
 refine zaK (Q := fun W => Calls _ _ _ W _) ?_
 intro W hl hs k1 k2
 refine (zdn b1 A1 n1 c1 x b2 A2 n2 c2 y W (h1.later hl) (h2.later hl) hn hm).mono ?_
 rintro e w1 ⟨b, A, n, c, rfl, ⟨hnc, xs, s1, r1, z1, hne, v1⟩, p2, p3⟩
 cases b with
 | true =>
   have hx : Hid (zgA (x - y) = -1) := by
    have := zaX zak r1 z1 (hne rfl)
    simp only [sgn, if_true] at v1
    show _ = _
    rw [zgA, if_pos (by omega)]
   clear v1
   go_wp2
   go_ret
   exact ⟨by simp [hx.out], (hl.trans p3).trans (Lat.alloc _ _)⟩
 | false =>
   rcases Nat.eq_zero_or_pos n with rfl | hp
   ·have hx : Hid (zgA (x - y) = 0) := by
     have := List.eq_nil_of_length_eq_zero s1.1
     subst this
     have e : x - y = 0 := by simpa [sgn, val] using v1
     show _ = _
     rw [e]; rfl
    clear v1
    go_wp2
    go_ret
    exact ⟨by simp [hx.out], (hl.trans p3).trans (Lat.alloc _ _)⟩
   ·have hx : Hid (zgA (x - y) = 1) := by
     have hxs : xs ≠ [] := by intro e; have := s1.1; simp [e] at this; omega
     have := zaX zak r1 z1 hxs
     simp only [sgn, if_false, Bool.false_eq_true] at v1
     show _ = _
     rw [zgA, if_neg (by omega), if_neg (by omega)]
    clear v1
    have hn0 : decide ((0 : Int) < (n : Int)) = true := by simp; omega
    go_wp2
    go_ret
    exact ⟨by simp [hx.out], (hl.trans p3).trans (Lat.alloc _ _)⟩
theorem rg_of {w : World} {A : Option Addr} {n c : Nat} {xs : List Int} (hs : Sl w .i64 A n xs) (hr : InR B32 xs) (hz : Nz xs) (hc : n ≤ c) : Rg w false A n c (val B32 xs) :=
 ⟨hc, xs, hs, hr, hz, (fun h => by cases h), rfl⟩
theorem zoi (b c : Bool) (x y : Int) : Int.gcd (sgn b x) (sgn c y) = Int.gcd x y := by
 cases b <;> cases c <;> simp [sgn]
theorem zgB (b1 : Bool) (A1 : Option Addr) (n1 c1 : Nat) (x : Int) (b2 : Bool) (A2 : Option Addr) (n2 c2 : Nat) (y : Int) (w : World) (h1 : Rg w b1 A1 n1 c1 x) (h2 : Rg w b2 A2 n2 c2 y) (hn : n1 ≤ 100000) (hm : n2 ≤ 100000) :
  Calls Tryz.prog 94 #[.agg #[.bool b1, .slice A1 n1 c1], .agg #[.bool b2, .slice A2 n2 c2]] w (RefPost w (Int.gcd x y) (max n1 n2)) := by
 obtain ⟨hc1, xs, s1, r1, z1, _, v1⟩ := h1
 obtain ⟨hc2, ys, s2, r2, z2, _, v2⟩ := h2
 have HG : Hid (Int.gcd x y = Int.gcd (val B32 xs) (val B32 ys)) := by show _ = _; rw [v1, v2, zoi]
 clear v1 v2
 go_enter Tryz.func94, Tryz.ntmps94
 go_wp2
 refine za0 (Q := fun W => Code.wp _ _ _ _ W) ?_
 intro W hl hs k1 k2 k3
 have d1 := k1.cell (0 + 1)
 have d3 := k2.cell (0 + 1)
 go_quiet (fail)
 go_wp2
 refine gen (Q := fun W => Code.wp _ _ _ _ W) _ ?_
 intro W1 hW1
 have hl1 : Lat w W1 := by rw [hW1]; exact hl.trans (Lat.drewN _ _)
 have hk3 : Blk W1 (w.heap.size + 1 + 1) 79 #[.bool false, .slice none 0 0] := by rw [hW1]; exact k3
 clear hW1 d1 d3 k1 k2 k3 hs hl
 go_loopg [5, 6] (val B32 ys).toNat (fun gk a b wr => ∃ (A : Option Addr) (n c : Nat) (us : List Int) (B : Option Addr) (m d : Nat) (vs : List Int), a = .slice A n c ∧ b = .slice B m d ∧
  (Sl wr .i64 A n us ∧ InR B32 us ∧ Nz us ∧ n ≤ c ∧ n ≤ max n1 n2) ∧ (Sl wr .i64 B m vs ∧ InR B32 vs ∧ Nz vs ∧ m ≤ d ∧ m ≤ max n1 n2) ∧ Lat w wr ∧ Blk wr (w.heap.size + 1 + 1) 79 #[.bool false, .slice none 0 0] ∧
  Hid (Int.gcd x y = Int.gcd (val B32 us) (val B32 vs)) ∧ Hid (gk = (val B32 vs).toNat))
 case atStart => exact ⟨A1, n1, c1, xs, A2, n2, c2, ys, rfl, rfl, ⟨s1.later hl1, r1, z1, hc1, by omega⟩, ⟨s2.later hl1, r2, z2, hc2, by omega⟩, hl1, hk3, HG, rfl⟩
 case round =>
  clear hl1 hk3 HG
  obtain ⟨A, n, c, us, B, m, d, vs, rfl, rfl, ⟨u1, u2, u3, u4, u5⟩, ⟨v1, v2, v3, v4, v5⟩, hlr, hk, hg, hgk⟩ := hrel
  rcases Nat.eq_zero_or_pos m with rfl | hp
  ·have hG : Hid ((Int.gcd x y : Int) = val B32 us) := by
    have := List.eq_nil_of_length_eq_zero v1.1
    subst this
    show _ = _
    rw [hg.out, zdR, Int.gcd_zero_right]
    exact Int.natAbs_of_nonneg (zaj zak u2)
   have c0 := hk.cell 0
   have c1' := hk.cell 1
   have f0 := hk.frozen 0
   have f1 := hk.frozen 1
   go_wp2
   refine bodyPost_ret (v := .agg #[.bool false, .slice A n c]) (by simp [results, Tryz.results94, go_sem, c0, c1']) rfl ?_
   rw [hG.out]
   exact RefPost.close hk (rg_of u1 u2 u3 u4) hlr (by omega) u5
  ·have hne : Hid (vs ≠ []) := by intro e; have := v1.1; simp [e] at this; omega
   have hvp : 0 < val B32 vs := zaX zak v2 v3 hne.out
   have hp' : decide ((0 : Int) < (m : Int)) = true := by simp; omega
   go_wp2_with fail
   refine (zgz A n c us B m d vs wr u1 v1 u2 v2 u3 v3 u4 hne.out (by omega) (by omega)).mono ?_
   rintro e w2 ⟨Aq, nq, cq, Ar, nr, cr, rfl, q1, q2, ⟨r5', rs, r1', r2', r3', r4'⟩, r6, hl2⟩
   have hlt : val B32 rs < val B32 vs := by rw [r4']; exact Int.emod_lt_of_pos _ hvp
   have h0 := zaj zak r2'
   have R4 := Lib.hid r4'
   clear q1 r4' q2
   go_wp2
   go_roundg (val B32 rs).toNat
   case measure => rw [hgk.out]; omega
   case rel => exact ⟨B, m, d, vs, Ar, nr, cr, rs, rfl, rfl, ⟨v1.later hl2, v2, v3, v4, v5⟩, ⟨r1', r2', r3', r5', by omega⟩, hlr.trans hl2, hk.later hl2, by show _ = _; rw [hg.out, R4.out, zhU], rfl⟩
theorem zkg (u : Int) : val B32 [u % 4294967296, u / 4294967296] = u := by
 simp only [val, B32]; omega
theorem zkh {u : Int} (h0 : 0 ≤ u) (h1 : u ≤ 9223372036854775808) : InR B32 [u % 4294967296, u / 4294967296] :=
 InR.cons (by unfold B32; omega) (InR.cons (by unfold B32; omega) (InR.nil _))
theorem zki (m : Int) (h0 : 0 < m) (h1 : m ≤ 9223372036854775808) : ∃ M, IntKind.u64.wrap (-m) = M ∧ 0 ≤ M ∧ IntKind.u64.wrap (-M) = m := by
 refine ⟨_, rfl, ?_, ?_⟩
 ·rw [IntKind.wrap_u64]; omega
 ·rw [IntKind.wrap_u64, IntKind.wrap_u64]; omega
theorem zi4 (n : Int) (w : World) (h0 : 0 ≤ n) (h1 : n ≤ 9223372036854775807) :
  Calls Tryz.prog 30 #[.int .i64 n] w (RefPost w n 2) := by
 have hlt : decide (n < 0) = false := by simp; omega
 have HV := Lib.hid (zkg n)
 have HR := zkh h0 (by omega)
 obtain ⟨a, ha⟩ : ∃ a, n % 4294967296 = a := ⟨_, rfl⟩
 obtain ⟨b, hb⟩ : ∃ b, n / 4294967296 = b := ⟨_, rfl⟩
 rw [ha, hb] at HR
 have HV' : Hid (val B32 [a, b] = n) := by show _ = _; rw [← ha, ← hb]; exact HV.out
 have ha0 : 0 ≤ a := by omega
 have ha1 : a < 4294967296 := by omega
 have hb0 : 0 ≤ b := by omega
 have hb1 : b < 4294967296 := by omega
 clear HV
 go_enter Tryz.func30, Tryz.ntmps30
 go_wp2_with fail
 refine zaK (Q := fun W => Calls _ _ _ W _) ?_
 intro W hl hs k1 k2
 refine (zbr false (some ⟨w.heap.size + 1, 0, none⟩) 2 2 W [a, b] (Sl.of_blk' (t := 3) k2 rfl) HR (Nat.le_refl _) (by omega)).mono ?_
 rintro e w1 ⟨b', A, m, c, rfl, hlg, hnn, hl1⟩
 have hk1 := k1.later hl1
 have c0 := hk1.cell 0
 have c1 := hk1.cell 1
 have f0 := hk1.frozen 0
 have f1 := hk1.frozen 1
 clear ha hb
 go_wp2
 refine bodyPost_ret (v := .agg #[.bool b', .slice A m c]) (by simp [results, Tryz.results30, go_sem, c0, c1]) rfl ?_
 have := RefPost.close hk1 hlg (hl.trans hl1) (by omega) hnn
 rw [HV'.out] at this
 exact this
theorem zi5 (m : Int) (w : World) (h0 : 0 < m) (h1 : m ≤ 9223372036854775808) :
  Calls Tryz.prog 30 #[.int .i64 (-m)] w (RefPost w (-m) 2) := by
 have hlt : decide (-m < 0) = true := by simp; omega
 obtain ⟨M, e1, hM0, e2⟩ := zki m h0 h1
 have HV := Lib.hid (zkg m)
 have HR := zkh (u := m) (by omega) (by omega)
 obtain ⟨a, ha⟩ : ∃ a, m % 4294967296 = a := ⟨_, rfl⟩
 obtain ⟨b, hb⟩ : ∃ b, m / 4294967296 = b := ⟨_, rfl⟩
 rw [ha, hb] at HR
 have HV' : Hid (val B32 [a, b] = m) := by show _ = _; rw [← ha, ← hb]; exact HV.out
 have ha0 : 0 ≤ a := by omega
 have ha1 : a < 4294967296 := by omega
 have hb0 : 0 ≤ b := by omega
 have hb1 : b < 4294967296 := by omega
 clear HV
 go_enter Tryz.func30, Tryz.ntmps30
 go_wp2_with fail
 refine zaK (Q := fun W => Calls _ _ _ W _) ?_
 intro W hl hs k1 k2
 refine (zbr true (some ⟨w.heap.size + 1, 0, none⟩) 2 2 W [a, b] (Sl.of_blk' (t := 3) k2 rfl) HR (Nat.le_refl _) (by omega)).mono ?_
 rintro e w1 ⟨b', A, n, c, rfl, hlg, hnn, hl1⟩
 have hk1 := k1.later hl1
 have c0 := hk1.cell 0
 have c1 := hk1.cell 1
 have f0 := hk1.frozen 0
 have f1 := hk1.frozen 1
 clear ha hb e1 e2
 go_wp2
 refine bodyPost_ret (v := .agg #[.bool b', .slice A n c]) (by simp [results, Tryz.results30, go_sem, c0, c1]) rfl ?_
 have := RefPost.close hk1 hlg (hl.trans hl1) (by omega) hnn
 rw [HV'.out] at this
 exact this
theorem zay (n : Int) (w : World) (h0 : -9223372036854775808 ≤ n) (h1 : n < 9223372036854775808) :
  Calls Tryz.prog 30 #[.int .i64 n] w (RefPost w n 2) := by
 rcases Int.lt_or_le n 0 with h | h
 ·have := zi5 (-n) w (by omega) (by omega)
  rwa [Int.neg_neg] at this
 ·exact zi4 n w h (by omega)
attribute [local go_sem ↓] Go.wp_at_zero Go.wp_at_succ
def RPartsPost (w : World) (q r : Int) (N M : Nat) (e : Ending) (w' : World) : Prop :=
 ∃ b A n c b' A' n' c', e = .returned (.tuple #[.agg #[.bool b, .slice A n c], .agg #[.bool b', .slice A' n' c']]) ∧ Rg w' b A n c q ∧ n ≤ N ∧ Rg w' b' A' n' c' r ∧ n' ≤ M ∧ Lat w w'
def zfL (W w : World) (z : Int) (N : Nat) (e : Ending) (w' : World) : Prop :=
 ∃ b A n c, e = .returned (.agg #[.bool b, .slice A n c]) ∧ Rg w' b A n c z ∧ n ≤ N ∧ Lat w w' ∧ Lat W w' ∧ w.heap.size ≤ w'.heap.size
theorem RefPost.two {W w w' : World} {z : Int} {N : Nat} {e : Ending} (hx : Lat W w) (h : RefPost w z N e w') : zfL W w z N e w' := by
 obtain ⟨b, A, n, c, h1, h2, h3, h4⟩ := h
 exact ⟨b, A, n, c, h1, h2, h3, h4, hx.trans h4, h4.size⟩
def TwoVars (W1 : World) (q r : Int) (N M : Nat) (s8 s9 : Value) (wx : World) : Prop :=
 ∃ g8 g9 b A n c b' A' n' c', s8 = .pointer (some ⟨g8, 0, none⟩) ∧ s9 = .pointer (some ⟨g9, 0, none⟩) ∧ W1.heap.size ≤ g8 ∧ W1.heap.size ≤ g9 ∧ Blk wx g8 79 #[.bool b, .slice A n c] ∧ Blk wx g9 79 #[.bool b', .slice A' n' c'] ∧
  Rg wx b A n c q ∧ n ≤ N ∧ Rg wx b' A' n' c' r ∧ n' ≤ M ∧ Lat W1 wx
theorem TwoVars.of {W1 w2 : World} {q r : Int} {N M g8 g9 : Nat} {b b' : Bool} {A A' : Option Addr} {n c n' c' : Nat} (h8 : Blk w2 g8 79 #[.bool false, .slice none 0 0]) (h9 : Blk w2 g9 79 #[.bool false, .slice none 0 0]) (hne : g8 ≠ g9)
  (hq : Rg w2 b A n c q) (hn : n ≤ N) (hr : Rg w2 b' A' n' c' r) (hm : n' ≤ M) (hL : Lat W1 w2) (l8 : W1.heap.size ≤ g8) (l9 : W1.heap.size ≤ g9) :
  TwoVars W1 q r N M (.pointer (some ⟨g8, 0, none⟩)) (.pointer (some ⟨g9, 0, none⟩)) ((((w2.setCell ⟨g8, 0, none⟩ (.bool b)).setCell ⟨g8, 1, none⟩ (.slice A n c)).setCell ⟨g9, 0, none⟩ (.bool b')).setCell ⟨g9, 1, none⟩ (.slice A' n' c')) := by
 have a1 := hq.apart h8 (zbM _ _ _ _)
 have a2 := hq.apart h9 (zbM _ _ _ _)
 have a3 := hr.apart h8 (zbM _ _ _ _)
 have a4 := hr.apart h9 (zbM _ _ _ _)
 refine ⟨g8, g9, b, A, n, c, b', A', n', c', rfl, rfl, l8, l9, ?_, ?_, ?_, hn, ?_, hm, ?_⟩
 ·have := (((h8.set 0 (.bool b)).set 1 (.slice A n c)).far (p := ⟨g9, 0, none⟩) hne (.bool b')).far (p := ⟨g9, 1, none⟩) hne (.slice A' n' c')
  simpa using this
 ·have := (((h9.far (p := ⟨g8, 0, none⟩) hne.symm (.bool b)).far (p := ⟨g8, 1, none⟩) hne.symm (.slice A n c)).set 0 (.bool b')).set 1 (.slice A' n' c')
  simpa using this
 ·exact (((hq.far (p := ⟨g8, 0, none⟩) a1 _).far (p := ⟨g8, 1, none⟩) a1 _).far (p := ⟨g9, 0, none⟩) a2 _).far (p := ⟨g9, 1, none⟩) a2 _
 ·exact (((hr.far (p := ⟨g8, 0, none⟩) a3 _).far (p := ⟨g8, 1, none⟩) a3 _).far (p := ⟨g9, 0, none⟩) a4 _).far (p := ⟨g9, 1, none⟩) a4 _
 ·exact (((hL.setCell (p := ⟨g8, 0, none⟩) l8 _).setCell (p := ⟨g8, 1, none⟩) l8 _).setCell (p := ⟨g9, 0, none⟩) l9 _).setCell (p := ⟨g9, 1, none⟩) l9 _
theorem TwoVars.ff {W1 w3 : World} {q r : Int} {N M : Nat} {b b' : Bool} {A A' : Option Addr} {n c n' c' : Nat} (hq : Rg w3 b A n c q) (hn : n ≤ N) (hr : Rg w3 b' A' n' c' r) (hm : n' ≤ M) (hL : Lat W1 w3) :
  TwoVars W1 q r N M (.pointer (some ⟨w3.heap.size, 0, none⟩)) (.pointer (some ⟨w3.heap.size + 1, 0, none⟩)) ((w3.alloc (.cells #[.bool b, .slice A n c] 79)).alloc (.cells #[.bool b', .slice A' n' c'] 79)) := by
 have l2 : Lat w3 ((w3.alloc (.cells #[.bool b, .slice A n c] 79)).alloc (.cells #[.bool b', .slice A' n' c'] 79)) := (Lat.alloc _ _).trans (Lat.alloc _ _)
 have hz := hL.size
 refine ⟨_, _, b, A, n, c, b', A', n', c', rfl, rfl, hz, by omega, (Blk.new _ _ _).alloc _, ?_, hq.later l2, hn, hr.later l2, hm, hL.trans l2⟩
 have := Blk.new (w3.alloc (.cells #[.bool b, .slice A n c] 79)) 79 #[.bool b', .slice A' n' c']
 simpa using this
theorem TwoVars.ff' {W1 w3 : World} {q r : Int} {N M : Nat} {b b' : Bool} {A A' : Option Addr} {n c n' c' : Nat} (hq : Rg w3 b A n c q) (hn : n ≤ N) (hr : Rg w3 b' A' n' c' r) (hm : n' ≤ M) (hL : Lat W1 w3) :
  TwoVars W1 q r N M (.pointer (some ⟨w3.heap.size + 1, 0, none⟩)) (.pointer (some ⟨w3.heap.size, 0, none⟩)) ((w3.alloc (.cells #[.bool b', .slice A' n' c'] 79)).alloc (.cells #[.bool b, .slice A n c] 79)) := by
 have l2 : Lat w3 ((w3.alloc (.cells #[.bool b', .slice A' n' c'] 79)).alloc (.cells #[.bool b, .slice A n c] 79)) := (Lat.alloc _ _).trans (Lat.alloc _ _)
 have hz := hL.size
 refine ⟨_, _, b, A, n, c, b', A', n', c', rfl, rfl, by omega, hz, ?_, (Blk.new _ _ _).alloc _, hq.later l2, hn, hr.later l2, hm, hL.trans l2⟩
 have := Blk.new (w3.alloc (.cells #[.bool b', .slice A' n' c'] 79)) 79 #[.bool b, .slice A n c]
 simpa using this
theorem TwoVars.pf {W1 w3 : World} {q r : Int} {N M g8 : Nat} {b b' : Bool} {A A' : Option Addr} {n c n' c' : Nat} (h8 : Blk w3 g8 79 #[.bool false, .slice none 0 0]) (hq : Rg w3 b A n c q) (hn : n ≤ N) (hr : Rg w3 b' A' n' c' r) (hm : n' ≤ M) (hL : Lat W1 w3) (l8 : W1.heap.size ≤ g8) :
  TwoVars W1 q r N M (.pointer (some ⟨g8, 0, none⟩)) (.pointer (some ⟨w3.heap.size, 0, none⟩)) (((w3.setCell ⟨g8, 0, none⟩ (.bool b)).setCell ⟨g8, 1, none⟩ (.slice A n c)).alloc (.cells #[.bool b', .slice A' n' c'] 79)) := by
 have a1 := hq.apart h8 (zbM _ _ _ _)
 have a3 := hr.apart h8 (zbM _ _ _ _)
 have hz := hL.size
 refine ⟨g8, w3.heap.size, b, A, n, c, b', A', n', c', rfl, rfl, l8, hz, ?_, ?_, ?_, hn, ?_, hm, ?_⟩
 ·have := ((h8.set 0 (.bool b)).set 1 (.slice A n c)).alloc (.cells #[.bool b', .slice A' n' c'] 79)
  simpa using this
 ·have := Blk.new ((w3.setCell ⟨g8, 0, none⟩ (.bool b)).setCell ⟨g8, 1, none⟩ (.slice A n c)) 79 #[.bool b', .slice A' n' c']
  simpa [World.setCell] using this
 ·exact ((hq.far (p := ⟨g8, 0, none⟩) a1 _).far (p := ⟨g8, 1, none⟩) a1 _).later (Lat.alloc _ _)
 ·exact ((hr.far (p := ⟨g8, 0, none⟩) a3 _).far (p := ⟨g8, 1, none⟩) a3 _).later (Lat.alloc _ _)
 ·exact ((hL.setCell (p := ⟨g8, 0, none⟩) l8 _).setCell (p := ⟨g8, 1, none⟩) l8 _).trans (Lat.alloc _ _)
theorem TwoVars.fp {W1 w3 : World} {q r : Int} {N M g9 : Nat} {b b' : Bool} {A A' : Option Addr} {n c n' c' : Nat} (h9 : Blk w3 g9 79 #[.bool false, .slice none 0 0]) (hq : Rg w3 b A n c q) (hn : n ≤ N) (hr : Rg w3 b' A' n' c' r) (hm : n' ≤ M) (hL : Lat W1 w3) (l9 : W1.heap.size ≤ g9) :
  TwoVars W1 q r N M (.pointer (some ⟨w3.heap.size, 0, none⟩)) (.pointer (some ⟨g9, 0, none⟩)) (((w3.setCell ⟨g9, 0, none⟩ (.bool b')).setCell ⟨g9, 1, none⟩ (.slice A' n' c')).alloc (.cells #[.bool b, .slice A n c] 79)) := by
 obtain ⟨k8, k9, b1, A1, n1, c1, b2, A2, n2, c2, e1, e2, i1, i2, i3, i4, i5, i6, i7, i8, i9⟩ := TwoVars.pf h9 hr hm hq hn hL l9
 exact ⟨k9, k8, b2, A2, n2, c2, b1, A1, n1, c1, e2, e1, i2, i1, i4, i3, i7, i8, i5, i6, i9⟩
theorem RPartsPost.close {w w2 : World} {g g' t t' : Nat} {b b0 b' b0' : Bool} {A A0 A' A0' : Option Addr} {n c n0 c0 n' c' n0' c0' N M : Nat} {q r : Int} (hk : Blk w2 g t #[.bool b0, .slice A0 n0 c0]) (hk' : Blk w2 g' t' #[.bool b0', .slice A0' n0' c0']) (hlg : Rg w2 b A n c q) (hlg' : Rg w2 b' A' n' c' r) (hL : Lat w w2) (hg : w.heap.size ≤ g) (hg' : w.heap.size ≤ g') (hn : n ≤ N) (hm : n' ≤ M) :
  RPartsPost w q r N M (.returned (.tuple #[.agg #[.bool b, .slice A n c], .agg #[.bool b', .slice A' n' c']])) ((((w2.setCell ⟨g, 0, none⟩ (.bool b)).setCell ⟨g, 1, none⟩ (.slice A n c)).setCell ⟨g', 0, none⟩ (.bool b')).setCell ⟨g', 1, none⟩ (.slice A' n' c')) := by
 have a1 := hlg.apart hk (zbM _ _ _ _)
 have a2 := hlg.apart hk' (zbM _ _ _ _)
 have a3 := hlg'.apart hk (zbM _ _ _ _)
 have a4 := hlg'.apart hk' (zbM _ _ _ _)
 exact ⟨_, _, _, _, _, _, _, _, rfl, (((hlg.far (p := ⟨g, 0, none⟩) a1 _).far (p := ⟨g, 1, none⟩) a1 _).far (p := ⟨g', 0, none⟩) a2 _).far (p := ⟨g', 1, none⟩) a2 _, hn,
  (((hlg'.far (p := ⟨g, 0, none⟩) a3 _).far (p := ⟨g, 1, none⟩) a3 _).far (p := ⟨g', 0, none⟩) a4 _).far (p := ⟨g', 1, none⟩) a4 _, hm,
  (((hL.setCell (p := ⟨g, 0, none⟩) hg _).setCell (p := ⟨g, 1, none⟩) hg _).setCell (p := ⟨g', 0, none⟩) hg' _).setCell (p := ⟨g', 1, none⟩) hg' _⟩
theorem RPartsPost.drew {w w' : World} {q r : Int} {N M : Nat} {e : Ending} (h : RPartsPost w q r N M e w') : RPartsPost w q r N M e w'.drew := by
 obtain ⟨b, A, n, c, b', A', n', c', h1, h2, h3, h4, h5, h6⟩ := h
 exact ⟨b, A, n, c, b', A', n', c', h1, h2.later (Lat.drew _), h3, h4.later (Lat.drew _), h5, h6.trans (Lat.drew _)⟩
theorem zlQ {b1 b2 : Bool} {vx vy x y : Int} (h1 : x = sgn b1 vx) (h2 : y = sgn b2 vy) (hvx : 0 ≤ vx) (hvy : 0 < vy) (hok : 0 ≤ x ∨ x % y = 0) :
  0 ≤ sgn b1 (vx % vy) ∧ x / y = sgn (b1 != b2) (vx / vy) ∧ x % y = sgn b1 (vx % vy) := by
 have h0 : 0 ≤ sgn b1 (vx % vy) := by
  have m0 := Int.emod_nonneg vx (show vy ≠ 0 by omega)
  cases b1 with
  | false => exact m0
  | true =>
    have hz : vx % vy = 0 := by
     rcases hok with h | h
     ·have : vx = 0 := by simp [sgn] at h1; omega
      rw [this]; simp
     ·have hd : y ∣ x := Int.dvd_of_emod_eq_zero h
      rw [h1, h2] at hd
      have : vy ∣ vx := by
       cases b2 <;> simpa [sgn] using hd
      exact Int.emod_eq_zero_of_dvd this
    rw [hz]; simp [sgn]
 have := (ze6 (b1 := b1) (b2 := b2) (vx := vx) (vy := vy) hvy).1 h0
 rw [h1, h2]
 exact ⟨h0, this⟩
theorem zcq (b1 : Bool) (A1 : Option Addr) (n1 c1 : Nat) (x : Int) (b2 : Bool) (A2 : Option Addr) (n2 c2 : Nat) (y : Int) (w : World) (h1 : Rg w b1 A1 n1 c1 x) (h2 : Rg w b2 A2 n2 c2 y) (hy0 : y ≠ 0) (hok : 0 ≤ x ∨ x % y = 0) (hn : n1 ≤ 100000) (hm : n2 ≤ 100000) :
  Calls Tryz.prog 119 #[.agg #[.bool b1, .slice A1 n1 c1], .agg #[.bool b2, .slice A2 n2 c2]] w (RPartsPost w (x / y) (x % y) (n1 + 1) n2) := by
 obtain ⟨hc1, xs, s1, r1, z1, e1, v1⟩ := h1
 obtain ⟨hc2, ys, s2, r2, z2, e2, v2⟩ := h2
 have V1 := Lib.hid v1
 have V2 := Lib.hid v2
 clear v1 v2
 go_enter Tryz.func119, Tryz.ntmps119
 go_wp2_with fail
 refine zne (Q := fun W => Calls _ _ _ W _) ?_
 intro W hl hs k1 k2 k3 k4
 have hne : ys ≠ [] := by
  intro e
  apply hy0
  rw [V2.out, e, zdR]
  cases b2 <;> rfl
 refine (zgz A1 n1 c1 xs A2 n2 c2 ys W (s1.later hl) (s2.later hl) r1 r2 z1 z2 hc1 hne hn hm).mono ?_
 rintro e W1 ⟨Aq, nq, cq, Ar, nr, cr, rfl, ⟨q5, qs, q1, q2, q3, q4⟩, q6, ⟨r5, rs, t1, t2, t3, t4⟩, t6, hl1⟩
 have Q4 := Lib.hid q4
 have T4 := Lib.hid t4
 clear q4 t4
 have hlw := hl.trans hl1
 have hk1 := k1.later hl1
 have hk2 := k2.later hl1
 have hk3 := k3.later hl1
 have hk4 := k4.later hl1
 clear k1 k2 k3 k4 hl1 hl hs
 go_upto_region 2 with (fail)
 have HQ : ∀ wx, Lat W1 wx → Calls Tryz.prog 73 #[.bool (!(b1 == b2)), .slice Aq nq cq] wx (zfL W1 wx (sgn (b1 != b2) (val B32 qs)) nq) := fun wx hx => (zbr _ Aq nq cq wx qs (q1.later hx) q2 q5 (by omega)).mono fun _ _ => RefPost.two hx
 have HR : ∀ wx, Lat W1 wx → Calls Tryz.prog 73 #[.bool b1, .slice Ar nr cr] wx (zfL W1 wx (sgn b1 (val B32 rs)) nr) := fun wx hx => (zbr _ Ar nr cr wx rs (t1.later hx) t2 r5 (by omega)).mono fun _ _ => RefPost.two hx
 have a1 := hk1.ever 0 rfl
 have a3 := hk2.ever 0 rfl
 go_cut [8, 9] (fun s8 s9 wx => TwoVars W1 (sgn (b1 != b2) (val B32 qs)) (sgn b1 (val B32 rs)) nq nr s8 s9 wx)
 case first =>
  have L0 := Lat.drew W1
  go_region_held3 (fun w' => Lat W1 w') (first | (with_reducible assumption) | ((repeat (first | (with_reducible assumption) | (with_reducible exact Lat.refl _) | (with_reducible refine Lat.trans ?_ (Lat.alloc _ _)) | (with_reducible refine Lat.trans ?_ (Lat.drew _)) | ((with_reducible refine Lat.setCell ?_ ?_ _); rotate_left; (focus (first | omega | (simp; done) | (simp; omega))))))))
   (first
     | (have _h := HQ; go_at_call 73; (with_reducible refine (HQ _ ?_).mono ?_); (repeat (first | assumption | exact Lat.refl _ | refine Lat.trans ?_ (Lat.alloc _ _) | refine Lat.trans ?_ (Lat.drew _))); rintro e w2 ⟨b, A, n, c, rfl, p1, p2, p3, p4, p5⟩; have HQ' := Lib.hid p1; have Z2 := p4.size; clear HQ _h p1; (try (have kA := Blk.later (g := W1.heap.size) (t := 79) (cs := #[.bool false, .slice none 0 0]) (by first | exact Blk.new _ _ _ | exact (Blk.new _ _ _).alloc _ | exact (show Blk (W1.alloc (.cells #[.bool false, .slice none 0 0] 79)) W1.heap.size 79 #[.bool false, .slice none 0 0] from Blk.new _ _ _) | exact (show Blk ((W1.alloc (.cells #[.bool false, .slice none 0 0] 79)).alloc (.cells #[.bool false, .slice none 0 0] 79)) W1.heap.size 79 #[.bool false, .slice none 0 0] from (Blk.new _ _ _).alloc _) ) p3; have kAlt := kA.lt; have kAc0 := kA.cell 0; have kAc1 := kA.cell 1; have kAf0 := kA.frozen 0; have kAf1 := kA.frozen 1)); (try (have kB := Blk.later (g := W1.heap.size + 1) (t := 79) (cs := #[.bool false, .slice none 0 0]) (by first | exact (show Blk ((W1.alloc (.cells #[.bool false, .slice none 0 0] 79)).alloc (.cells #[.bool false, .slice none 0 0] 79)) (W1.heap.size + 1) 79 #[.bool false, .slice none 0 0] from by have hh := Blk.new (W1.alloc (.cells #[.bool false, .slice none 0 0] 79)) 79 #[.bool false, .slice none 0 0]; simpa using hh) | exact Blk.new _ _ _ | (have hh := Blk.new (W1.drew.alloc (.cells #[.bool false, .slice none 0 0] 79)) 79 #[.bool false, .slice none 0 0]; simpa using hh) | exact (Blk.new _ _ _).alloc _ ) p3; have kBlt := kB.lt; have kBc0 := kB.cell 0; have kBc1 := kB.cell 1; have kBf0 := kB.frozen 0; have kBf1 := kB.frozen 1)))
     | (have _h := HR; go_at_call 73; (with_reducible refine (HR _ ?_).mono ?_); (repeat (first | assumption | exact Lat.refl _ | refine Lat.trans ?_ (Lat.alloc _ _) | refine Lat.trans ?_ (Lat.drew _))); rintro e w3 ⟨b', A', n', c', rfl, u1, u2, u3, u4, u5⟩; have HR' := Lib.hid u1; have Z3 := u4.size; have PQ := Lib.hid (HQ'.out.later (w := w3) (by first | exact u3 | exact (Lat.alloc _ _).trans u3 | exact ((Lat.alloc _ _).trans (Lat.alloc _ _)).trans u3)); clear HR _h u1; (try (have mA := Blk.later (g := W1.heap.size) (t := 79) (cs := #[.bool false, .slice none 0 0]) (by first | exact Blk.new _ _ _ | exact (Blk.new _ _ _).alloc _ | exact kA | exact kB | exact kA.alloc _ | exact kB.alloc _ | exact (kA.alloc _).alloc _ ) u3; have mAlt := mA.lt; have mAc0 := mA.cell 0; have mAc1 := mA.cell 1; have mAf0 := mA.frozen 0; have mAf1 := mA.frozen 1)); (try (have mB := Blk.later (g := W1.heap.size + 1) (t := 79) (cs := #[.bool false, .slice none 0 0]) (by first | exact Blk.new _ _ _ | exact (Blk.new _ _ _).alloc _ | exact kA | exact kB | exact kA.alloc _ | exact kB.alloc _ | exact (kA.alloc _).alloc _ ) u3; have mBlt := mB.lt; have mBc0 := mB.cell 0; have mBc1 := mB.cell 1; have mBf0 := mB.frozen 0; have mBf1 := mB.frozen 1)); (try (have mC := Blk.later (g := w2.heap.size) (t := 79) (cs := #[.bool false, .slice none 0 0]) (by first | exact Blk.new _ _ _ | exact (Blk.new _ _ _).alloc _ | exact kA | exact kB | exact kA.alloc _ | exact kB.alloc _ | exact (kA.alloc _).alloc _ ) u3; have mClt := mC.lt; have mCc0 := mC.cell 0; have mCc1 := mC.cell 1; have mCf0 := mC.frozen 0; have mCf1 := mC.frozen 1)); (try (have mD := Blk.later (g := w2.heap.size + 1) (t := 79) (cs := #[.bool false, .slice none 0 0]) (by first | exact Blk.new _ _ _ | (have hh := Blk.new (w2.alloc (.cells #[.bool false, .slice none 0 0] 79)) 79 #[.bool false, .slice none 0 0]; simpa using hh) | exact (Blk.new _ _ _).alloc _ | exact kA | exact kB | exact kA.alloc _ | exact kB.alloc _ | exact (kA.alloc _).alloc _ ) u3; have mDlt := mD.lt; have mDc0 := mD.cell 0; have mDc1 := mD.cell 1; have mDf0 := mD.frozen 0; have mDf1 := mD.frozen 1))))
  all_goals
   go_wp2_with fail
   go_meet
   have P1 := PQ.out
   have P2 := HR'.out
   first
    | (with_reducible exact TwoVars.ff P1 p2 P2 u2 u4)
    | (with_reducible exact TwoVars.ff' P1 p2 P2 u2 u4)
    | ((with_reducible refine TwoVars.pf ?_ P1 p2 P2 u2 u4 ?_) <;> first | (with_reducible exact mA) | (with_reducible exact mB) | (with_reducible exact mC) | (with_reducible exact mD) | omega)
    | ((with_reducible refine TwoVars.fp ?_ P1 p2 P2 u2 u4 ?_) <;> first | (with_reducible exact mA) | (with_reducible exact mB) | (with_reducible exact mC) | (with_reducible exact mD) | omega)
    | ((with_reducible refine TwoVars.of ?_ ?_ ?_ P1 p2 P2 u2 u4 ?_ ?_) <;> first | (with_reducible exact mA) | (with_reducible exact mB) | (with_reducible exact mC) | (with_reducible exact mD) | omega)
 case rest =>
  obtain ⟨g8, g9, b, A, n, c, b', A', n', c', rfl, rfl, l8, l9, B8, B9, hq, hn8, hr, hn9, hL⟩ := hcut
  obtain ⟨f0, f1, f2⟩ := zlQ V1.out V2.out (zaj zak r1) (zaX zak r2 z2 hne) hok
  have F1 := Lib.hid f1
  have F2 := Lib.hid f2
  have hb' : b' = false := by
   cases b' with
   | false => rfl
   | true =>
     exfalso
     obtain ⟨_, zs, _, zr, zz, zn, zv⟩ := hr
     have := zaX zak zr zz (zn rfl)
     rw [T4.out] at zv
     simp only [sgn, if_true] at zv f0
     omega
  subst hb'
  have hq' := Lib.hid hq
  have hr' := Lib.hid hr
  have K3 := hk3.later hL
  have K4 := hk4.later hL
  have LL := hlw.trans hL
  have hlt4 := hk4.lt
  have n1' : g8 ≠ w.heap.size + 1 + 1 := by omega
  have n2' : g8 ≠ w.heap.size + 1 + 1 + 1 := by omega
  have n3' : g9 ≠ w.heap.size + 1 + 1 := by omega
  have n4' : g9 ≠ w.heap.size + 1 + 1 + 1 := by omega
  have n5' := n1'.symm
  have n6' := n2'.symm
  have n7' := n3'.symm
  have n8' := n4'.symm
  clear f0 f1 f2 hk1 hk2 hk3 hk4 hq hr a1 a3 HQ HR
  have d0 := B8.cell 0
  have d1 := B8.cell (0 + 1)
  have d2 := B9.cell 0
  have d3 := B9.cell (0 + 1)
  have c0 := K3.cell 0
  have c1' := K3.cell (0 + 1)
  have c2' := K4.cell 0
  have c3' := K4.cell (0 + 1)
  have g0 := K3.frozen 0
  have g1 := K3.frozen (0 + 1)
  have g2 := K4.frozen 0
  have g3 := K4.frozen (0 + 1)
  go_wp2
  go_region
  all_goals
   go_wp2
   refine bodyPost_ret (v := .tuple #[.agg #[.bool b, .slice A n c], .agg #[.bool false, .slice A' n' c']]) (by simp [results, Tryz.results119, go_sem, c0, c1', c2', c3']) rfl ?_
   have := (RPartsPost.close (N := n1 + 1) (M := n2) K3 K4 hq'.out hr'.out LL (by omega) (by omega) (by omega) (by omega)).drew
   rw [Q4.out, T4.out, ← F1.out, ← F2.out] at this
   exact this
end Go.Proofs.YtpmbglhbcjbkcaaGreat
namespace Go.Proofs.YtpmbglhbcjbkcaaGreat
set_option maxHeartbeats 16000000
set_option maxRecDepth 100000
open Go.RowKit
def zcJ : List Int := [0, 0, 0, 0, 0, 0, 0, 0, 0, 0, 0, 0, 0, 0, 0, 0, 1]
theorem zbm : val B32 zcJ = zcA := by decide +kernel
theorem zd4 : InR B32 zcJ := by
 intro y hy
 simp [zcJ] at hy
 unfold B32
 omega
def zb4 : List Int := [0, 0, 0, 0, 0, 0, 0, 0, 0, 0, 0, 0, 0, 0, 0, 2147483648]
theorem zd5 : val B32 zb4 = zaV := by decide +kernel
theorem zd6 : InR B32 zb4 := by
 intro y hy
 simp [zb4] at hy
 unfold B32
 omega
theorem zfb : Nz zb4 := by simp [Nz, zb4]
theorem zoj : B32 ^ 16 = zcA := by decide +kernel
def OutInv (ds : List Int) (k : Nat) (os : List Int) : Prop :=
 os.length = 8 ∧ InR W64 os ∧ val W64 os = val B32 (ds.take k) ∧ (∀ j, (k + 1) / 2 ≤ j → os.getD j 0 = 0) ∧ (k % 2 = 1 → os.getD (k / 2) 0 < 4294967296)
theorem OutInv.start (ds : List Int) : OutInv ds 0 (List.replicate 8 0) := by
 refine ⟨rfl, InR.zeros zaf _, by rw [zbd]; rfl, fun j _ => ?_, fun h => by omega⟩
 rw [List.getD_eq_getElem?_getD, List.getElem?_replicate]
 split <;> rfl
theorem zh1 (q : Nat) : B32 ^ (2 * q) = W64 ^ q := by
 rw [Int.pow_mul]; congr 1
theorem OutInv.even {ds os : List Int} {q : Nat} {d : Int} (h : OutInv ds (2 * q) os) (hq : q < 8) (hd : ds.getD (2 * q) 0 = d) (rd : 0 ≤ d ∧ d < 4294967296) :
  os[q]? = some 0 ∧ OutInv ds (2 * q + 1) (os.set q (0 + d)) := by
 obtain ⟨hl, hr, hv, hz, _⟩ := h
 have hoz := hz q (by omega)
 have ho : os[q]? = some 0 := by
  rw [List.getD_eq_getElem?_getD, List.getElem?_eq_getElem (by omega)] at hoz
  rw [List.getElem?_eq_getElem (by omega)]
  simpa using hoz
 refine ⟨ho, by simpa using hl, hr.set q (by unfold W64; omega), ?_, fun j hj => ?_, fun _ => ?_⟩
 ·rw [zbD _ _ _ _ (by omega), hoz, hv, zai, hd, zh1]
  congr 2; omega
 ·rw [List.getD_eq_getElem?_getD, List.getElem?_set_ne (by omega), ← List.getD_eq_getElem?_getD]
  exact hz j (by omega)
 ·rw [show (2 * q + 1) / 2 = q by omega, List.getD_eq_getElem?_getD, List.getElem?_set_self (by omega)]
  simp; omega
theorem OutInv.odd {ds os : List Int} {q : Nat} {d o : Int} (h : OutInv ds (2 * q + 1) os) (hq : q < 8) (hd : ds.getD (2 * q + 1) 0 = d) (rd : 0 ≤ d ∧ d < 4294967296) (ho : os[q]? = some o) :
  (0 ≤ o ∧ o < 4294967296) ∧ OutInv ds (2 * q + 2) (os.set q (o + d * 4294967296)) := by
 obtain ⟨hl, hr, hv, hz, hlt⟩ := h
 have hgo : os.getD q 0 = o := by rw [List.getD_eq_getElem?_getD, ho]; rfl
 have h1 := hlt (by omega)
 rw [show (2 * q + 1) / 2 = q by omega, hgo] at h1
 have h0 := (hr.at ho).1
 refine ⟨⟨h0, h1⟩, by simpa using hl, hr.set q (by unfold W64; omega), ?_, fun j hj => ?_, fun h => by omega⟩
 ·rw [zbD _ _ _ _ (by omega), hgo, hv, zai B32 ds (2 * q + 1), hd, za8, zh1]
  have : B32 = 4294967296 := rfl
  rw [this]
  generalize W64 ^ q = p
  grind
 ·rw [List.getD_eq_getElem?_getD, List.getElem?_set_ne (by omega), ← List.getD_eq_getElem?_getD]
  exact hz j (by omega)
theorem OutInv.done {ds os : List Int} {n : Nat} (h : OutInv ds n os) (hn : ds.length ≤ n) : ∃ u : W8, u.ok ∧ u.list = os ∧ u.mag = val B32 ds := by
 obtain ⟨hl, hr, hv, _, _⟩ := h
 rw [List.take_of_length_le hn] at hv
 have e : (W8.ofList os).list = os := by rw [W8.ofList_list (by omega), hl]; simp
 exact ⟨W8.ofList os, W8.ofList_ok (by omega) hr, e, by rw [W8.ofList_mag (by omega), hv]⟩
theorem zfM {ds : List Int} (hr : InR B32 ds) (hz : Nz ds) (h : val B32 ds < zcA) : ds.length ≤ 16 := by
 rcases Nat.lt_or_ge 16 ds.length with hlt | hge
 ·have h1 := zeZ zak hr hz (by intro e; rw [e] at hlt; simp at hlt)
  have h2 : B32 ^ 16 ≤ B32 ^ (ds.length - 1) := zdS zak (by omega)
  rw [zoj] at h2
  omega
 ·exact hge
theorem zcK {w w' : World} {z Z : Int} {u : W8} (h0 : -zaV ≤ z) (h1 : z < zaV) (hu : u.ok) (hm : u.mag = Z) (hZ : Z = z % zcA) (hL : Lat w w') : zba w z (.returned (.tuple #[.agg (W8.one u), .int .i64 0])) w' :=
 ⟨u, 0, rfl, .inl ⟨h0, h1, W8.mag_inj hu (W8.of_ok z) (by rw [hm, hZ, W8.of_mag]), rfl⟩, hL⟩
theorem zkj (b : Bool) (A : Option Addr) (n c : Nat) (z : Int) (w : World) (h : Rg w b A n c z) (hn : n ≤ 1000000) (z0 : -zaV ≤ z) (z1 : z < zaV) :
  Calls Tryz.prog 86 #[.agg #[.bool b, .slice A n c]] w (zba w z) := by
 obtain ⟨hc, xs, s1, r1, n1, e1, v1⟩ := h
 have V1 := Lib.hid v1
 have hvn := zaj zak r1
 have hZ : Hid (0 ≤ val B32 xs ∧ (b = false → z % zcA = val B32 xs ∧ val B32 xs < zaV) ∧ (b = true → z % zcA = zcA - val B32 xs ∧ 0 < val B32 xs ∧ val B32 xs ≤ zaV)) := by
  refine ⟨hvn, fun hb => ?_, fun hb => ?_⟩
  ·subst hb
   have : z = val B32 xs := by simpa [sgn] using v1
   have hp := zbq
   rw [← this]
   exact ⟨Int.emod_eq_of_lt (by omega) (by omega), z1⟩
  ·have hpos := zaX zak r1 n1 (e1 hb)
   subst hb
   have : z = - val B32 xs := by simpa [sgn] using v1
   have hp := zbq
   refine ⟨?_, hpos, by omega⟩
   rw [← Int.add_emod_right]
   rw [Int.emod_eq_of_lt (by omega) (by omega)]
   omega
 clear v1 hvn
 have hmk : ∀ W, (Instr.makeSlice 77 (.int .i64 16) (.int .i64 16)).run Tryz.prog W = .ok (.slice (some ⟨W.heap.size, 0, none⟩) 16 16) (W.alloc (.cells #[.int .i64 0, .int .i64 0, .int .i64 0, .int .i64 0, .int .i64 0, .int .i64 0, .int .i64 0, .int .i64 0, .int .i64 0, .int .i64 0, .int .i64 0, .int .i64 0, .int .i64 0, .int .i64 0, .int .i64 0, .int .i64 0] 3)) := fun W => zav (P := Tryz.prog) Tryz.underlying77 zaF 16 16 rfl (by omega) (by omega) W
 have hmk2 : ∀ W, (Instr.makeSlice 77 (.int .i64 17) (.int .i64 17)).run Tryz.prog W = .ok (.slice (some ⟨W.heap.size, 0, none⟩) 17 17) (W.alloc (.cells #[.int .i64 0, .int .i64 0, .int .i64 0, .int .i64 0, .int .i64 0, .int .i64 0, .int .i64 0, .int .i64 0, .int .i64 0, .int .i64 0, .int .i64 0, .int .i64 0, .int .i64 0, .int .i64 0, .int .i64 0, .int .i64 0, .int .i64 0] 3)) := fun W => zav (P := Tryz.prog) Tryz.underlying77 zaF 17 17 rfl (by omega) (by omega) W
 go_enter Tryz.func86, Tryz.ntmps86
 go_wp2_with fail
 refine za0 (Q := fun W => Calls _ _ _ W _) ?_
 intro W hl hs k1 k2 k3
 have hlim : Sl W .i64 (some ⟨w.heap.size + 1 + 1, 0, none⟩) 16 zb4 := Sl.of_blk' (t := 3) k3 rfl
 refine (zbG A n c xs _ 16 16 zb4 W (s1.later hl) hlim r1 zd6 n1 zfb hn (by omega)).mono ?_
 rintro e W1 ⟨r, rfl, o1, o2, o3, l1⟩
 have K1 := k1.later l1
 have K2 := k2.later l1
 have S1 := s1.later (hl.trans l1)
 have LW := hl.trans l1
 rw [zd5] at o1 o2 o3
 clear k1 k2 k3 hmk hlim hl l1
 have d0 := K1.cell 0
 have d1 := K1.cell 1
 cases b with
 | false =>
   obtain ⟨_, hz, _⟩ := hZ.out
   obtain ⟨hz1, hz2⟩ := hz rfl
   have hr := o1 hz2
   have hr1 : decide (0 < r) = false := by simp; omega
   have hr2 : ((r : Int) == 0) = false := by simp; omega
   have hlen := zfM r1 n1 (by have := zbq; have := zbe; omega)
   rw [s1.1] at hlen
   have HZ := Lib.hid hz1
   clear o1 o2 o3 hz hz1 hz2 hr hmk2
   go_wp2
   refine zas (Q := fun W => Code.wp _ _ _ _ W) ?_
   intro W3 hl3 hs3 kb
   have kb' : Blk W3 W1.heap.size 38 (nums .u64 (List.replicate 8 0)) := kb
   clear kb
   go_loopw [9] (fun i wr => ∃ (k : Nat) (os : List Int), k ≤ n ∧ i = .int .i64 k ∧ OutInv xs k os ∧ Lat W1 wr ∧ Blk wr W1.heap.size 38 (nums .u64 os)) (fun i _ => n - (intOf i).toNat)
   case atStart => exact ⟨0, _, Nat.zero_le _, rfl, OutInv.start xs, hl3, kb'⟩
   case round =>
    obtain ⟨k, os, hk, rfl, hinv, hlr, hbr⟩ := hrel
    clear hl3 hs3 kb'
    by_cases hlt : k < n
    ·obtain ⟨a, x, rfl, ha, hxk, hcell⟩ := (S1.later hlr).at hlt
     have hrx := r1.at hxk
     have rx0 := hrx.1
     have rx1 : x < 4294967296 := hrx.2
     have hgx : Hid (xs.getD k 0 = x) := by rw [List.getD_eq_getElem?_getD, hxk]; rfl
     clear hxk hrx
     have hk16 : k < 16 := by omega
     obtain ⟨q, hq⟩ : ∃ q, q = k / 2 := ⟨_, rfl⟩
     have hq8 : q < 8 := by omega
     have hq8' : (q : Int) < 8 := by omega
     have hq0 : (0 : Int) ≤ (q : Int) := by omega
     have w1' : (k : Int) / 2 = q := by omega
     have w3' : IntKind.i64.wrap (q : Int) = q := IntWalk.i64_in _ (by omega)
     have w4' : IntKind.u64.wrap x = x := IntWalk.u64_in _ (by omega)
     have HKI := Lib.hid hinv
     rcases Nat.mod_two_eq_zero_or_one k with hp | hp
     ·have hk2 : k = 2 * q := by omega
      have w2' : (k : Int).tmod 2 = 0 := by rw [Int.tmod_eq_emod_of_nonneg (by omega)]; omega
      obtain ⟨ho0, hnext⟩ := OutInv.even (by rw [← hk2]; exact hinv) hq8 (by rw [← hk2]; exact hgx.out) ⟨rx0, rx1⟩
      rw [← hk2, Int.zero_add] at hnext
      have ho := (hbr.cell q).trans (zbO ho0)
      have hfo := hbr.frozen q
      clear hq hk2 hp ho0 hinv
      have z1' : IntKind.i64.wrap 0 = 0 := by decide
      have z2' : ∀ W, (binOp .shl 36 (.int .u64 x) (.int .i64 0)).run Tryz.prog W = .ok (.int .u64 x) W := fun W => by
       simp only [binOp, Op.shift]
       simp [IntKind.bits, w4']
      go_wp2
      go_still_tail 17, (by kernel_rfl)
      change wpList _ _ _ _ _ wr.drew
      have hb5 : Blk wr.drew W1.heap.size 38 (nums .u64 os) := hbr
      go_wp2
      go_roundw
      case rel => exact ⟨k + 1, _, by omega, by go_num, hnext, (hlr.trans (Lat.drew wr)).setCell (Nat.le_refl _) _, hb5.put q _⟩
      case measure => simp [intOf]; omega
     ·have hk2 : k = 2 * q + 1 := by omega
      have w2' : (k : Int).tmod 2 = 1 := by rw [Int.tmod_eq_emod_of_nonneg (by omega)]; omega
      have hol := hinv.1
      obtain ⟨o, hoo, ho, hfo⟩ := hbr.slot (i := q) (by omega)
      obtain ⟨⟨o0, o1'⟩, hnext⟩ := OutInv.odd (by rw [← hk2]; exact hinv) hq8 (by rw [← hk2]; exact hgx.out) ⟨rx0, rx1⟩ hoo
      rw [show 2 * q + 2 = k + 1 by omega] at hnext
      clear hq hk2 hp hoo hinv hol
      have z1' : IntKind.i64.wrap 32 = 32 := by decide
      have z2' : ∀ W, (binOp .shl 36 (.int .u64 x) (.int .i64 32)).run Tryz.prog W = .ok (.int .u64 (x * 4294967296)) W := fun W => by
       have e : IntKind.u64.wrap (x * 4294967296) = x * 4294967296 := IntWalk.u64_in _ (by omega)
       simp only [binOp, Op.shift]
       simp [IntKind.bits, e]
      have w5' : IntKind.u64.wrap (x * 4294967296) = x * 4294967296 := IntWalk.u64_in _ (by omega)
      have w6' : IntKind.u64.wrap (o + x * 4294967296) = o + x * 4294967296 := IntWalk.u64_in _ (by omega)
      go_wp2
      go_still_tail 17, (by kernel_rfl)
      change wpList _ _ _ _ _ wr.drew
      have hb5 : Blk wr.drew W1.heap.size 38 (nums .u64 os) := hbr
      go_wp2
      go_roundw
      case rel => exact ⟨k + 1, _, by omega, by go_num, hnext, (hlr.trans (Lat.drew wr)).setCell (Nat.le_refl _) _, hb5.put q _⟩
      case measure => simp [intOf]; omega
    ·obtain rfl : k = n := by omega
     obtain ⟨u, hu, hul, hum⟩ := hinv.done (by have := S1.1; omega)
     have hbu : Blk wr W1.heap.size 38 (W8.one u) := by rw [← hul] at hbr; exact hbr
     have HM := Lib.hid hum
     have E2 := K2.later hlr
     clear hul hum hinv hbr
     have a0 := hbu.cell 0
     have a1 := hbu.cell 1
     have a2 := hbu.cell 2
     have a3 := hbu.cell 3
     have a4 := hbu.cell 4
     have a5 := hbu.cell 5
     have a6 := hbu.cell 6
     have a7 := hbu.cell 7
     have c0 := E2.cell 0
     have c1 := E2.cell 1
     have c2 := E2.cell 2
     have c3 := E2.cell 3
     have c4 := E2.cell 4
     have c5 := E2.cell 5
     have c6 := E2.cell 6
     have c7 := E2.cell 7
     have f0 := E2.frozen 0
     have f1 := E2.frozen 1
     have f2 := E2.frozen 2
     have f3 := E2.frozen 3
     have f4 := E2.frozen 4
     have f5 := E2.frozen 5
     have f6 := E2.frozen 6
     have f7 := E2.frozen 7
     go_wp2
     refine bodyPost_ret (v := .tuple #[.agg (W8.one u), .int .i64 0]) (by simp [results, Tryz.results86, go_sem, c0, c1, c2, c3, c4, c5, c6, c7]) rfl ?_
     refine zcK z0 z1 hu HM.out HZ.out.symm ?_
     iterate 8 (refine Lat.setCell ?_ (by simp; try omega) _)
     exact LW.trans hlr
 | true =>
   obtain ⟨_, _, hz⟩ := hZ.out
   obtain ⟨h1, h2, h3⟩ := hz rfl
   have hr : r < 0 ∨ r = 0 := by
    rcases Int.lt_or_eq_of_le h3 with h | h
    ·exact .inl (o1 h)
    ·exact .inr (o2 h)
   have hr1 : decide (0 < r) = false := by simp; omega
   have hz1 := Lib.hid h1
   have hz2 : Hid (0 < val B32 xs) := h2
   have hz3 : Hid (val B32 xs ≤ zaV) := h3
   have hlen := zfM r1 n1 (by have := zbq; have := zbe; omega)
   rw [s1.1] at hlen
   clear o1 o2 o3 hz h1 h2 h3
   rcases hr with hr | hr
   ·have hr2 : ((r : Int) == 0) = false := by simp; omega
    clear hr
    go_wp2_with fail
    refine zas (Q := fun W => Calls _ _ _ W _) ?_
    intro W2 hl2 hs2 kw
    have hw17 : Sl W2 .i64 (some ⟨W1.heap.size, 0, none⟩) 17 zcJ := Sl.of_blk' (t := 3) kw rfl
    have K3 := K2.later hl2
    have L3 := LW.trans hl2
    clear hmk2 kw K2 LW d0 d1
    refine (zb3 _ 17 17 zcJ A n c xs W2 hw17 (S1.later hl2) zd4 r1 (by omega) (by rw [zbm]; have := hz3.out; have := zbq; have := zbe; omega) (by omega)).mono ?_
    rintro e W4 ⟨A3, n3, c3, zs, rfl, v1, v2, v3, v4, v5, v6, v7, v8⟩
    have HZ : Hid (z % zcA = val B32 zs) := by show _ = _; rw [hz1.out, v4, zbm]
    have hlen3 := zfM v2 v3 (by rw [v4, zbm]; have := hz2.out; omega)
    rw [v1.1] at hlen3
    have K4 := K3.later v7
    have L4 := L3.trans v7
    clear v4 v8 K3 L3 S1 hl2 hs2 hw17
    go_wp2
    refine zas (Q := fun W => Code.wp _ _ _ _ W) ?_
    intro W3 hl3 hs3 kb
    have kb' : Blk W3 W4.heap.size 38 (nums .u64 (List.replicate 8 0)) := kb
    clear kb
    go_loopw [9] (fun i wr => ∃ (k : Nat) (os : List Int), k ≤ n3 ∧ i = .int .i64 k ∧ OutInv zs k os ∧ Lat W4 wr ∧ Blk wr W4.heap.size 38 (nums .u64 os)) (fun i _ => n3 - (intOf i).toNat)
    case atStart => exact ⟨0, _, Nat.zero_le _, rfl, OutInv.start zs, hl3, kb'⟩
    case round =>
     obtain ⟨k, os, hk, rfl, hinv, hlr, hbr⟩ := hrel
     clear hl3 hs3 kb'
     by_cases hlt : k < n3
     ·obtain ⟨a, x, rfl, ha, hxk, hcell⟩ := (v1.later hlr).at hlt
      have hrx := v2.at hxk
      have rx0 := hrx.1
      have rx1 : x < 4294967296 := hrx.2
      have hgx : Hid (zs.getD k 0 = x) := by rw [List.getD_eq_getElem?_getD, hxk]; rfl
      clear hxk hrx
      have hk16 : k < 16 := by omega
      obtain ⟨q, hq⟩ : ∃ q, q = k / 2 := ⟨_, rfl⟩
      have hq8 : q < 8 := by omega
      have hq8' : (q : Int) < 8 := by omega
      have hq0 : (0 : Int) ≤ (q : Int) := by omega
      have w1' : (k : Int) / 2 = q := by omega
      have w3' : IntKind.i64.wrap (q : Int) = q := IntWalk.i64_in _ (by omega)
      have w4' : IntKind.u64.wrap x = x := IntWalk.u64_in _ (by omega)
      have HKI := Lib.hid hinv
      rcases Nat.mod_two_eq_zero_or_one k with hp | hp
      ·have hk2 : k = 2 * q := by omega
       have w2' : (k : Int).tmod 2 = 0 := by rw [Int.tmod_eq_emod_of_nonneg (by omega)]; omega
       obtain ⟨ho0, hnext⟩ := OutInv.even (by rw [← hk2]; exact hinv) hq8 (by rw [← hk2]; exact hgx.out) ⟨rx0, rx1⟩
       rw [← hk2, Int.zero_add] at hnext
       have ho := (hbr.cell q).trans (zbO ho0)
       have hfo := hbr.frozen q
       clear hq hk2 hp ho0 hinv
       have z1' : IntKind.i64.wrap 0 = 0 := by decide
       have z2' : ∀ W, (binOp .shl 36 (.int .u64 x) (.int .i64 0)).run Tryz.prog W = .ok (.int .u64 x) W := fun W => by
        simp only [binOp, Op.shift]
        simp [IntKind.bits, w4']
       go_wp2
       go_still_tail 17, (by kernel_rfl)
       change wpList _ _ _ _ _ wr.drew
       have hb5 : Blk wr.drew W4.heap.size 38 (nums .u64 os) := hbr
       go_wp2
       go_roundw
       case rel => exact ⟨k + 1, _, by omega, by go_num, hnext, (hlr.trans (Lat.drew wr)).setCell (Nat.le_refl _) _, hb5.put q _⟩
       case measure => simp [intOf]; omega
      ·have hk2 : k = 2 * q + 1 := by omega
       have w2' : (k : Int).tmod 2 = 1 := by rw [Int.tmod_eq_emod_of_nonneg (by omega)]; omega
       have hol := hinv.1
       obtain ⟨o, hoo, ho, hfo⟩ := hbr.slot (i := q) (by omega)
       obtain ⟨⟨o0, o1'⟩, hnext⟩ := OutInv.odd (by rw [← hk2]; exact hinv) hq8 (by rw [← hk2]; exact hgx.out) ⟨rx0, rx1⟩ hoo
       rw [show 2 * q + 2 = k + 1 by omega] at hnext
       clear hq hk2 hp hoo hinv hol
       have z1' : IntKind.i64.wrap 32 = 32 := by decide
       have z2' : ∀ W, (binOp .shl 36 (.int .u64 x) (.int .i64 32)).run Tryz.prog W = .ok (.int .u64 (x * 4294967296)) W := fun W => by
        have e : IntKind.u64.wrap (x * 4294967296) = x * 4294967296 := IntWalk.u64_in _ (by omega)
        simp only [binOp, Op.shift]
        simp [IntKind.bits, e]
       have w5' : IntKind.u64.wrap (x * 4294967296) = x * 4294967296 := IntWalk.u64_in _ (by omega)
       have w6' : IntKind.u64.wrap (o + x * 4294967296) = o + x * 4294967296 := IntWalk.u64_in _ (by omega)
       go_wp2
       go_still_tail 17, (by kernel_rfl)
       change wpList _ _ _ _ _ wr.drew
       have hb5 : Blk wr.drew W4.heap.size 38 (nums .u64 os) := hbr
       go_wp2
       go_roundw
       case rel => exact ⟨k + 1, _, by omega, by go_num, hnext, (hlr.trans (Lat.drew wr)).setCell (Nat.le_refl _) _, hb5.put q _⟩
       case measure => simp [intOf]; omega
     ·obtain rfl : k = n3 := by omega
      obtain ⟨u, hu, hul, hum⟩ := hinv.done (by have := v1.1; omega)
      have hbu : Blk wr W4.heap.size 38 (W8.one u) := by rw [← hul] at hbr; exact hbr
      have HM := Lib.hid hum
      have E2 := K4.later hlr
      clear hul hum hinv hbr
      have a0 := hbu.cell 0
      have a1 := hbu.cell 1
      have a2 := hbu.cell 2
      have a3 := hbu.cell 3
      have a4 := hbu.cell 4
      have a5 := hbu.cell 5
      have a6 := hbu.cell 6
      have a7 := hbu.cell 7
      have c0 := E2.cell 0
      have c1 := E2.cell 1
      have c2 := E2.cell 2
      have c3 := E2.cell 3
      have c4 := E2.cell 4
      have c5 := E2.cell 5
      have c6 := E2.cell 6
      have c7 := E2.cell 7
      have f0 := E2.frozen 0
      have f1 := E2.frozen 1
      have f2 := E2.frozen 2
      have f3 := E2.frozen 3
      have f4 := E2.frozen 4
      have f5 := E2.frozen 5
      have f6 := E2.frozen 6
      have f7 := E2.frozen 7
      go_wp2
      refine bodyPost_ret (v := .tuple #[.agg (W8.one u), .int .i64 0]) (by simp [results, Tryz.results86, go_sem, c0, c1, c2, c3, c4, c5, c6, c7]) rfl ?_
      refine zcK z0 z1 hu HM.out HZ.out.symm ?_
      iterate 8 (refine Lat.setCell ?_ (by simp; try omega) _)
      exact L4.trans hlr
   ·subst hr
    go_wp2_with fail
    refine zas (Q := fun W => Calls _ _ _ W _) ?_
    intro W2 hl2 hs2 kw
    have hw17 : Sl W2 .i64 (some ⟨W1.heap.size, 0, none⟩) 17 zcJ := Sl.of_blk' (t := 3) kw rfl
    have K3 := K2.later hl2
    have L3 := LW.trans hl2
    clear hmk2 kw K2 LW d0 d1
    refine (zb3 _ 17 17 zcJ A n c xs W2 hw17 (S1.later hl2) zd4 r1 (by omega) (by rw [zbm]; have := hz3.out; have := zbq; have := zbe; omega) (by omega)).mono ?_
    rintro e W4 ⟨A3, n3, c3, zs, rfl, v1, v2, v3, v4, v5, v6, v7, v8⟩
    have HZ : Hid (z % zcA = val B32 zs) := by show _ = _; rw [hz1.out, v4, zbm]
    have hlen3 := zfM v2 v3 (by rw [v4, zbm]; have := hz2.out; omega)
    rw [v1.1] at hlen3
    have K4 := K3.later v7
    have L4 := L3.trans v7
    clear v4 v8 K3 L3 S1 hl2 hs2 hw17
    go_wp2
    refine zas (Q := fun W => Code.wp _ _ _ _ W) ?_
    intro W3 hl3 hs3 kb
    have kb' : Blk W3 W4.heap.size 38 (nums .u64 (List.replicate 8 0)) := kb
    clear kb
    go_loopw [9] (fun i wr => ∃ (k : Nat) (os : List Int), k ≤ n3 ∧ i = .int .i64 k ∧ OutInv zs k os ∧ Lat W4 wr ∧ Blk wr W4.heap.size 38 (nums .u64 os)) (fun i _ => n3 - (intOf i).toNat)
    case atStart => exact ⟨0, _, Nat.zero_le _, rfl, OutInv.start zs, hl3, kb'⟩
    case round =>
     obtain ⟨k, os, hk, rfl, hinv, hlr, hbr⟩ := hrel
     clear hl3 hs3 kb'
     by_cases hlt : k < n3
     ·obtain ⟨a, x, rfl, ha, hxk, hcell⟩ := (v1.later hlr).at hlt
      have hrx := v2.at hxk
      have rx0 := hrx.1
      have rx1 : x < 4294967296 := hrx.2
      have hgx : Hid (zs.getD k 0 = x) := by rw [List.getD_eq_getElem?_getD, hxk]; rfl
      clear hxk hrx
      have hk16 : k < 16 := by omega
      obtain ⟨q, hq⟩ : ∃ q, q = k / 2 := ⟨_, rfl⟩
      have hq8 : q < 8 := by omega
      have hq8' : (q : Int) < 8 := by omega
      have hq0 : (0 : Int) ≤ (q : Int) := by omega
      have w1' : (k : Int) / 2 = q := by omega
      have w3' : IntKind.i64.wrap (q : Int) = q := IntWalk.i64_in _ (by omega)
      have w4' : IntKind.u64.wrap x = x := IntWalk.u64_in _ (by omega)
      have HKI := Lib.hid hinv
      rcases Nat.mod_two_eq_zero_or_one k with hp | hp
      ·have hk2 : k = 2 * q := by omega
       have w2' : (k : Int).tmod 2 = 0 := by rw [Int.tmod_eq_emod_of_nonneg (by omega)]; omega
       obtain ⟨ho0, hnext⟩ := OutInv.even (by rw [← hk2]; exact hinv) hq8 (by rw [← hk2]; exact hgx.out) ⟨rx0, rx1⟩
       rw [← hk2, Int.zero_add] at hnext
       have ho := (hbr.cell q).trans (zbO ho0)
       have hfo := hbr.frozen q
       clear hq hk2 hp ho0 hinv
       have z1' : IntKind.i64.wrap 0 = 0 := by decide
       have z2' : ∀ W, (binOp .shl 36 (.int .u64 x) (.int .i64 0)).run Tryz.prog W = .ok (.int .u64 x) W := fun W => by
        simp only [binOp, Op.shift]
        simp [IntKind.bits, w4']
       go_wp2
       go_still_tail 17, (by kernel_rfl)
       change wpList _ _ _ _ _ wr.drew
       have hb5 : Blk wr.drew W4.heap.size 38 (nums .u64 os) := hbr
       go_wp2
       go_roundw
       case rel => exact ⟨k + 1, _, by omega, by go_num, hnext, (hlr.trans (Lat.drew wr)).setCell (Nat.le_refl _) _, hb5.put q _⟩
       case measure => simp [intOf]; omega
      ·have hk2 : k = 2 * q + 1 := by omega
       have w2' : (k : Int).tmod 2 = 1 := by rw [Int.tmod_eq_emod_of_nonneg (by omega)]; omega
       have hol := hinv.1
       obtain ⟨o, hoo, ho, hfo⟩ := hbr.slot (i := q) (by omega)
       obtain ⟨⟨o0, o1'⟩, hnext⟩ := OutInv.odd (by rw [← hk2]; exact hinv) hq8 (by rw [← hk2]; exact hgx.out) ⟨rx0, rx1⟩ hoo
       rw [show 2 * q + 2 = k + 1 by omega] at hnext
       clear hq hk2 hp hoo hinv hol
       have z1' : IntKind.i64.wrap 32 = 32 := by decide
       have z2' : ∀ W, (binOp .shl 36 (.int .u64 x) (.int .i64 32)).run Tryz.prog W = .ok (.int .u64 (x * 4294967296)) W := fun W => by
        have e : IntKind.u64.wrap (x * 4294967296) = x * 4294967296 := IntWalk.u64_in _ (by omega)
        simp only [binOp, Op.shift]
        simp [IntKind.bits, e]
       have w5' : IntKind.u64.wrap (x * 4294967296) = x * 4294967296 := IntWalk.u64_in _ (by omega)
       have w6' : IntKind.u64.wrap (o + x * 4294967296) = o + x * 4294967296 := IntWalk.u64_in _ (by omega)
       go_wp2
       go_still_tail 17, (by kernel_rfl)
       change wpList _ _ _ _ _ wr.drew
       have hb5 : Blk wr.drew W4.heap.size 38 (nums .u64 os) := hbr
       go_wp2
       go_roundw
       case rel => exact ⟨k + 1, _, by omega, by go_num, hnext, (hlr.trans (Lat.drew wr)).setCell (Nat.le_refl _) _, hb5.put q _⟩
       case measure => simp [intOf]; omega
     ·obtain rfl : k = n3 := by omega
      obtain ⟨u, hu, hul, hum⟩ := hinv.done (by have := v1.1; omega)
      have hbu : Blk wr W4.heap.size 38 (W8.one u) := by rw [← hul] at hbr; exact hbr
      have HM := Lib.hid hum
      have E2 := K4.later hlr
      clear hul hum hinv hbr
      have a0 := hbu.cell 0
      have a1 := hbu.cell 1
      have a2 := hbu.cell 2
      have a3 := hbu.cell 3
      have a4 := hbu.cell 4
      have a5 := hbu.cell 5
      have a6 := hbu.cell 6
      have a7 := hbu.cell 7
      have c0 := E2.cell 0
      have c1 := E2.cell 1
      have c2 := E2.cell 2
      have c3 := E2.cell 3
      have c4 := E2.cell 4
      have c5 := E2.cell 5
      have c6 := E2.cell 6
      have c7 := E2.cell 7
      have f0 := E2.frozen 0
      have f1 := E2.frozen 1
      have f2 := E2.frozen 2
      have f3 := E2.frozen 3
      have f4 := E2.frozen 4
      have f5 := E2.frozen 5
      have f6 := E2.frozen 6
      have f7 := E2.frozen 7
      go_wp2
      refine bodyPost_ret (v := .tuple #[.agg (W8.one u), .int .i64 0]) (by simp [results, Tryz.results86, go_sem, c0, c1, c2, c3, c4, c5, c6, c7]) rfl ?_
      refine zcK z0 z1 hu HM.out HZ.out.symm ?_
      iterate 8 (refine Lat.setCell ?_ (by simp; try omega) _)
      exact L4.trans hlr
theorem zlR (b : Bool) (A : Option Addr) (n c : Nat) (z : Int) (w : World) (h : Rg w b A n c z) (hn : n ≤ 1000000) (hz : z < -zaV ∨ zaV ≤ z) :
  Calls Tryz.prog 86 #[.agg #[.bool b, .slice A n c]] w (zba w z) := by
 obtain ⟨hc, xs, s1, r1, n1, e1, v1⟩ := h
 have hvn := zaj zak r1
 have hZ : Hid (zaV < val B32 xs ∨ (zaV = val B32 xs ∧ b = false)) := by
  show _ ∨ _
  cases b with
  | false =>
    have : z = val B32 xs := by simpa [sgn] using v1
    have := zbe
    rcases Int.lt_or_eq_of_le (show zaV ≤ val B32 xs by omega) with h | h
    ·exact .inl h
    ·exact .inr ⟨h, rfl⟩
  | true =>
    have : z = - val B32 xs := by simpa [sgn] using v1
    have := zbe
    exact .inl (by omega)
 have HZ := Lib.hid hz
 clear v1 hvn hz
 have hmk : ∀ W, (Instr.makeSlice 77 (.int .i64 16) (.int .i64 16)).run Tryz.prog W = .ok (.slice (some ⟨W.heap.size, 0, none⟩) 16 16) (W.alloc (.cells #[.int .i64 0, .int .i64 0, .int .i64 0, .int .i64 0, .int .i64 0, .int .i64 0, .int .i64 0, .int .i64 0, .int .i64 0, .int .i64 0, .int .i64 0, .int .i64 0, .int .i64 0, .int .i64 0, .int .i64 0, .int .i64 0] 3)) := fun W => zav (P := Tryz.prog) Tryz.underlying77 zaF 16 16 rfl (by omega) (by omega) W
 go_enter Tryz.func86, Tryz.ntmps86
 go_wp2_with fail
 refine za0 (Q := fun W => Calls _ _ _ W _) ?_
 intro W hl hs k1 k2 k3
 have hlim : Sl W .i64 (some ⟨w.heap.size + 1 + 1, 0, none⟩) 16 zb4 := Sl.of_blk' (t := 3) k3 rfl
 refine (zbG A n c xs _ 16 16 zb4 W (s1.later hl) hlim r1 zd6 n1 zfb hn (by omega)).mono ?_
 rintro e W1 ⟨r, rfl, o1, o2, o3, l1⟩
 have K1 := k1.later l1
 have K2 := k2.later l1
 have LW := hl.trans l1
 rw [zd5] at o1 o2 o3
 clear k1 k2 k3 hmk hlim hl l1
 have d0 := K1.cell 0
 have d1 := K1.cell 1
 have c0 := K2.cell 0
 have c1 := K2.cell 1
 have c2 := K2.cell 2
 have c3 := K2.cell 3
 have c4 := K2.cell 4
 have c5 := K2.cell 5
 have c6 := K2.cell 6
 have c7 := K2.cell 7
 have f0 := K2.frozen 0
 have f1 := K2.frozen 1
 have f2 := K2.frozen 2
 have f3 := K2.frozen 3
 have f4 := K2.frozen 4
 have f5 := K2.frozen 5
 have f6 := K2.frozen 6
 have f7 := K2.frozen 7
 have hr : 0 < r ∨ (r = 0 ∧ b = false) := by
  rcases hZ.out with h | ⟨h, hb⟩
  ·exact .inl (o3 h)
  ·exact .inr ⟨o2 h.symm, hb⟩
 clear o1 o2 o3
 rcases hr with hr | ⟨hr, hb⟩
 ·go_wp2
  refine bodyPost_ret (v := .tuple #[.agg (W8.one W8.zero), .int .i64 6]) (by simp [results, Tryz.results86, go_sem, W8.zero, c0, c1, c2, c3, c4, c5, c6, c7]) rfl ?_
  refine ⟨W8.zero, 6, rfl, .inr ⟨HZ.out, rfl, rfl⟩, ?_⟩
  iterate 8 (refine Lat.setCell ?_ (by simp; try omega) _)
  exact LW
 ·subst hr
  subst hb
  go_wp2
  refine bodyPost_ret (v := .tuple #[.agg (W8.one W8.zero), .int .i64 6]) (by simp [results, Tryz.results86, go_sem, W8.zero, c0, c1, c2, c3, c4, c5, c6, c7]) rfl ?_
  refine ⟨W8.zero, 6, rfl, .inr ⟨HZ.out, rfl, rfl⟩, ?_⟩
  iterate 8 (refine Lat.setCell ?_ (by simp; try omega) _)
  exact LW
theorem zh2 (b : Bool) (A : Option Addr) (n c : Nat) (z : Int) (w : World) (h : Rg w b A n c z) (hn : n ≤ 1000000) :
  Calls Tryz.prog 86 #[.agg #[.bool b, .slice A n c]] w (zba w z) := by
 by_cases h0 : -zaV ≤ z ∧ z < zaV
 ·exact zkj b A n c z w h hn h0.1 h0.2
 ·exact zlR b A n c z w h hn (by omega)
end Go.Proofs.YtpmbglhbcjbkcaaGreat
