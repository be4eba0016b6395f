/- Several texts in one: RefD, RefE, RefF, RefG, RefH, RefI, RefJ, RefK. -/
import Derived.Test.YtpmbglhbcjbkcaaGreatH16
namespace Go.Proofs.YtpmbglhbcjbkcaaGreat
set_option maxHeartbeats 16000000
set_option maxRecDepth 100000
open Go.RowKit
theorem zaF : (Tryz.prog.info? 3).map (fun i => (i.zero, i.size, i.bytes)) = some (some (.int .i64 0), 1, 8) := by kernel_rfl
theorem zbH : 1 < B32 := by decide
theorem zke (A : Option Addr) (n c0 : Nat) (b0 : Int) (w : World) (xs : List Int) (hs : Sl w .i64 A n xs) (hr : InR B32 xs) (hb0 : 0 ≤ b0) (hb1 : b0 ≤ 1) (hn : n ≤ 1000000) :
  Calls Tryz.prog 133 #[.slice A n c0, .int .i64 b0] w (zfJ w (2 * val B32 xs + b0) (n + 1)) := by
 go_enter Tryz.func133, Tryz.ntmps133
 go_wp2
 go_loopw [1, 5, 6] (fun bt v i wr => ∃ (k : Nat) (c : Int) (os : List Int), k ≤ n ∧ i = .int .i64 k ∧ bt = .int .i64 c ∧ Own wr w.heap.size 3 .i64 v os ∧ TwiInv B32 xs b0 k c os ∧ Lat w wr) (fun _ _ i _ => n - (intOf i).toNat)
 case atStart => exact ⟨0, b0, [], Nat.zero_le _, rfl, rfl, Own.nil _ _ _ _, TwiInv.start B32 xs ⟨hb0, hb1⟩, Lat.refl _⟩
 case round =>
  obtain ⟨k, c, os, hk, rfl, rfl, hown, hinv, hlr⟩ := hrel
  have hc0 := hinv.1.1
  have hc1 := hinv.1.2
  have hlen := Lib.hid hinv.2.1
  have hle := hlr.size
  by_cases hlt : k < n
  ·obtain ⟨a, x, rfl, ha, hxk, hcell⟩ := (hs.later hlr).at hlt
   have hrx := hr.at hxk
   have rx0 := hrx.1
   have rx1 : x < 4294967296 := hrx.2
   have hgx : Hid (xs.getD k 0 = x) := by rw [List.getD_eq_getElem?_getD, hxk]; rfl
   clear hxk
   have hol : os.length ≤ 1000000 := by have := hlen.out; omega
   go_wp2_with (at_builtin; refine zax rfl _ _ 77 rfl w.heap.size 3 3 .i64 8 Tryz.underlying77 zaF (by decide) _ os [_] _ rfl wr (by rfl) hown 1 rfl (by decide) (by rfl) (by omega) hle ?_; intro v' w1 hown1 hlat1)
   go_roundw
   case rel => exact ⟨k + 1, _, _, by omega, by go_num, rfl, hown1, hinv.step zbH hgx.out hrx, hlat1 w hlr (Nat.le_refl _)⟩
   case measure => simp [intOf]; omega
  ·obtain rfl : k = n := by omega
   have hol : os.length ≤ 1000000 := by have := hlen.out; omega
   obtain ⟨r1, r2, r3⟩ := hinv.done zbH hs.1
   have R3 := Lib.hid r3
   have R2 := Lib.hid r2
   clear r2 r3
   go_wp2_with (at_builtin; refine zax rfl _ _ 77 rfl w.heap.size 3 3 .i64 8 Tryz.underlying77 zaF (by decide) _ os [_] _ rfl wr (by rfl) hown 1 rfl (by decide) (by rfl) (by omega) hle ?_; intro v' w1 hown1 hlat1)
   obtain ⟨A1, c1, rfl, hs1, hc1', hnew⟩ := hown1.form
   have hl1 := hlat1 w hlr (Nat.le_refl _)
   have hl2 : (os ++ [c]).length ≤ 3000000 := by have := R2.out; omega
   go_wp2_with fail
   refine (zcH A1 _ c1 w1 _ hs1 hc1' hl2).mono ?_
   rintro e w2 ⟨m, rfl, q1, q2, q3, q4, q5⟩
   have Q3 := Lib.hid q3
   have Q2 := Lib.hid q2
   clear q2 q3
   go_wp2
   go_ret
   exact ⟨A1, m, c1, _, rfl, q1, r1.take m, Q2.out, Q3.out.trans R3.out, by omega, by have := R2.out; omega, hl1.trans q5, fun a e => (hnew a e).1⟩
theorem zb3 (A1 : Option Addr) (n1 c1 : Nat) (xs : List Int) (A2 : Option Addr) (n2 c2 : Nat) (ys : List Int) (w : World) (h1 : Sl w .i64 A1 n1 xs) (h2 : Sl w .i64 A2 n2 ys) (hx : InR B32 xs) (hy : InR B32 ys)
  (hz2 : n2 ≤ n1) (hle : val B32 ys ≤ val B32 xs) (hn : n1 ≤ 1000000) :
  Calls Tryz.prog 112 #[.slice A1 n1 c1, .slice A2 n2 c2] w (zfJ w (val B32 xs - val B32 ys) n1) := by
 have HLE := Lib.hid hle
 clear hle
 go_enter Tryz.func112, Tryz.ntmps112
 go_wp2
 go_loopw [5, 6, 7] (fun v bt i wr => ∃ (k : Nat) (c : Int) (os : List Int), k ≤ n1 ∧ i = .int .i64 k ∧ bt = .int .i64 c ∧ Own wr w.heap.size 3 .i64 v os ∧ LesInv B32 xs ys k c os ∧ Lat w wr) (fun _ _ i _ => n1 - (intOf i).toNat)
 case atStart => exact ⟨0, 0, [], Nat.zero_le _, rfl, rfl, Own.nil _ _ _ _, LesInv.start B32 xs ys, Lat.refl _⟩
 case round =>
  obtain ⟨k, c, os, hk, rfl, rfl, hown, hinv, hlr⟩ := hrel
  have hc0 := hinv.1.1
  have hc1 := hinv.1.2
  have hlen := Lib.hid hinv.2.1
  have hwl := hlr.size
  by_cases hlt : k < n1
  ·obtain ⟨a, x, rfl, ha, hxk, hcell⟩ := (h1.later hlr).at hlt
   have hrx := hx.at hxk
   have rx0 := hrx.1
   have rx1 : x < 4294967296 := hrx.2
   have hgx : Hid (xs.getD k 0 = x) := by rw [List.getD_eq_getElem?_getD, hxk]; rfl
   clear hxk
   have hol : os.length ≤ 1000000 := by have := hlen.out; omega
   by_cases hlt2 : k < n2
   ·obtain ⟨a', y, rfl, ha', hyk, hcell2⟩ := (h2.later hlr).at hlt2
    have hry := hy.at hyk
    have ry0 := hry.1
    have ry1 : y < 4294967296 := hry.2
    have hgy : Hid (ys.getD k 0 = y) := by rw [List.getD_eq_getElem?_getD, hyk]; rfl
    clear hyk
    have hst := hinv.step hgx.out hgy.out hrx hry
    by_cases hneg : x - c - y < 0
    ·have hst' : LesInv B32 xs ys (k + 1) 1 (os ++ [x - c - y + 4294967296]) := by
      unfold zlF zlG at hst; rw [if_pos hneg, if_pos hneg] at hst; exact hst
     clear hst
     go_wp2_with (at_builtin; refine zax rfl _ _ 77 rfl w.heap.size 3 3 .i64 8 Tryz.underlying77 zaF (by decide) _ os [_] _ rfl wr (by rfl) hown 1 rfl (by decide) (by rfl) (by omega) hwl ?_; intro v' w1 hown1 hlat1)
     go_roundw
     case rel => exact ⟨k + 1, _, _, by omega, by go_num, rfl, hown1, hst', hlat1 w hlr (Nat.le_refl _)⟩
     case measure => simp [intOf]; omega
    ·have hst' : LesInv B32 xs ys (k + 1) 0 (os ++ [x - c - y]) := by
      unfold zlF zlG at hst; rw [if_neg hneg, if_neg hneg] at hst; exact hst
     clear hst
     have hneg' : 0 ≤ x - c - y := by omega
     clear hneg
     go_wp2_with (at_builtin; refine zax rfl _ _ 77 rfl w.heap.size 3 3 .i64 8 Tryz.underlying77 zaF (by decide) _ os [_] _ rfl wr (by rfl) hown 1 rfl (by decide) (by rfl) (by omega) hwl ?_; intro v' w1 hown1 hlat1)
     go_roundw
     case rel => exact ⟨k + 1, _, _, by omega, by go_num, rfl, hown1, hst', hlat1 w hlr (Nat.le_refl _)⟩
     case measure => simp [intOf]; omega
   ·have hy0 : Hid (ys.getD k 0 = 0) := by rw [List.getD_eq_getElem?_getD, List.getElem?_eq_none (by have := h2.1; omega)]; rfl
    have hst := hinv.step hgx.out hy0.out hrx ⟨Int.le_refl _, zak⟩
    rw [Int.sub_zero] at hst
    by_cases hneg : x - c < 0
    ·have hst' : LesInv B32 xs ys (k + 1) 1 (os ++ [x - c + 4294967296]) := by
      unfold zlF zlG at hst; rw [if_pos hneg, if_pos hneg] at hst; exact hst
     clear hst
     go_wp2_with (at_builtin; refine zax rfl _ _ 77 rfl w.heap.size 3 3 .i64 8 Tryz.underlying77 zaF (by decide) _ os [_] _ rfl wr (by rfl) hown 1 rfl (by decide) (by rfl) (by omega) hwl ?_; intro v' w1 hown1 hlat1)
     go_roundw
     case rel => exact ⟨k + 1, _, _, by omega, by go_num, rfl, hown1, hst', hlat1 w hlr (Nat.le_refl _)⟩
     case measure => simp [intOf]; omega
    ·have hst' : LesInv B32 xs ys (k + 1) 0 (os ++ [x - c]) := by
      unfold zlF zlG at hst; rw [if_neg hneg, if_neg hneg] at hst; exact hst
     clear hst
     have hneg' : 0 ≤ x - c := by omega
     clear hneg
     go_wp2_with (at_builtin; refine zax rfl _ _ 77 rfl w.heap.size 3 3 .i64 8 Tryz.underlying77 zaF (by decide) _ os [_] _ rfl wr (by rfl) hown 1 rfl (by decide) (by rfl) (by omega) hwl ?_; intro v' w1 hown1 hlat1)
     go_roundw
     case rel => exact ⟨k + 1, _, _, by omega, by go_num, rfl, hown1, hst', hlat1 w hlr (Nat.le_refl _)⟩
     case measure => simp [intOf]; omega
  ·obtain rfl : k = n1 := by omega
   obtain ⟨r1, r2, r3⟩ := hinv.done zak h1.1 (by have := h2.1; omega) HLE.out
   have R3 := Lib.hid r3
   have R2 := Lib.hid r2
   clear r2 r3
   obtain ⟨A3, c3, rfl, hs1, hc1', hnew⟩ := hown.form
   have hl2 : os.length ≤ 3000000 := by have := R2.out; omega
   go_wp2_with fail
   refine (zcH A3 _ c3 _ _ hs1 hc1' hl2).mono ?_
   rintro e w2 ⟨m, rfl, q1, q2, q3, q4, q5⟩
   have Q3 := Lib.hid q3
   have Q2 := Lib.hid q2
   clear q2 q3
   go_wp2
   go_ret
   exact ⟨A3, m, c3, _, rfl, q1, r1.take m, Q2.out, Q3.out.trans R3.out, by omega, by have := R2.out; omega, hlr.trans q5, fun a e => (hnew a e).1⟩
def DigW (w : World) (z : Int) (N : Nat) (e : Ending) (w' : World) : Prop :=
 ∃ A n c xs, e = .returned (.slice A n c) ∧ Sl w' .i64 A n xs ∧ InR B32 xs ∧ val B32 xs = z ∧ n ≤ c ∧ n ≤ N ∧ Lat w w'
theorem Sl.digit {w : World} {A : Option Addr} {n : Nat} {xs : List Int} (h : Sl w .i64 A n xs) (hr : InR B32 xs) (k : Nat) :
  (k < n ∧ ∃ a x, A = some a ∧ Hid (xs.getD k 0 = x) ∧ 0 ≤ x ∧ x < 4294967296 ∧ w.cell? (a.add k) = some (.int .i64 x)) ∨ (n ≤ k ∧ Hid (xs.getD k 0 = 0)) := by
 rcases Nat.lt_or_ge k n with hlt | hge
 ·obtain ⟨a, x, e, ha, hxk, hcell⟩ := h.at hlt
  have hrx := hr.at hxk
  exact .inl ⟨hlt, a, x, e, by show _ = _; rw [List.getD_eq_getElem?_getD, hxk]; rfl, hrx.1, hrx.2, hcell⟩
 ·exact .inr ⟨hge, by show _ = _; rw [List.getD_eq_getElem?_getD, List.getElem?_eq_none (by have := h.1; omega)]; rfl⟩
theorem zlO (A1 : Option Addr) (n1 c1 : Nat) (xs : List Int) (A2 : Option Addr) (n2 c2 : Nat) (ys : List Int) (w : World) (h1 : Sl w .i64 A1 n1 xs) (h2 : Sl w .i64 A2 n2 ys) (hx : InR B32 xs) (hy : InR B32 ys)
  (hn : n1 ≤ 1000000) (hm : n2 ≤ 1000000) :
  Calls Tryz.prog 111 #[.slice A1 n1 c1, .slice A2 n2 c2] w (DigW w (val B32 xs + val B32 ys) (max n1 n2 + 1)) := by
 go_enter Tryz.func111, Tryz.ntmps111
 go_wp2
 go_loopw [5, 6, 7] (fun v bt i wr => ∃ (k : Nat) (c : Int) (os : List Int), i = .int .i64 k ∧ bt = .int .i64 c ∧ Own wr w.heap.size 3 .i64 v os ∧ MorInv B32 xs ys (max n1 n2) k c os ∧ Lat w wr) (fun _ _ i _ => max n1 n2 + 1 - (intOf i).toNat)
 case atStart => exact ⟨0, 0, [], rfl, rfl, Own.nil _ _ _ _, MorInv.start B32 xs ys _, Lat.refl _⟩
 case round =>
  obtain ⟨k, c, os, rfl, rfl, hown, hinv, hlr⟩ := hrel
  have hc0 := hinv.1.1
  have hc1 := hinv.1.2
  have hlen := Lib.hid hinv.2.1
  have hkN := hinv.2.2.2.2.1
  have hend := Lib.hid hinv.2.2.2.2.2
  have hwl := hlr.size
  have hol : os.length ≤ 1000001 := by have := hlen.out; omega
  rcases (h1.later hlr).digit hx k with ⟨hlt, a, x, rfl, hgx, rx0, rx1, hcell⟩ | ⟨hlt, hgx⟩
  ·rcases (h2.later hlr).digit hy k with ⟨hlt2, a', y, rfl, hgy, ry0, ry1, hcell2⟩ | ⟨hlt2, hgy⟩
   ·have hst := hinv.step zbH (by omega) hgx.out hgy.out ⟨rx0, rx1⟩ ⟨ry0, ry1⟩ (by omega)
    go_wp2_with (at_builtin; refine zax rfl _ _ 77 rfl w.heap.size 3 3 .i64 8 Tryz.underlying77 zaF (by decide) _ os [_] _ rfl wr (by rfl) hown 1 rfl (by decide) (by rfl) (by omega) hwl ?_; intro v' w1 hown1 hlat1)
    go_roundw
    case rel => exact ⟨k + 1, _, _, by go_num, rfl, hown1, hst, hlat1 w hlr (Nat.le_refl _)⟩
    case measure => simp [intOf]; omega
   ·have hst := hinv.step zbH (by omega) hgx.out hgy.out ⟨rx0, rx1⟩ ⟨Int.le_refl _, zak⟩ (by omega)
    rw [Int.add_zero] at hst
    go_wp2_with (at_builtin; refine zax rfl _ _ 77 rfl w.heap.size 3 3 .i64 8 Tryz.underlying77 zaF (by decide) _ os [_] _ rfl wr (by rfl) hown 1 rfl (by decide) (by rfl) (by omega) hwl ?_; intro v' w1 hown1 hlat1)
    go_roundw
    case rel => exact ⟨k + 1, _, _, by go_num, rfl, hown1, hst, hlat1 w hlr (Nat.le_refl _)⟩
    case measure => simp [intOf]; omega
  ·rcases (h2.later hlr).digit hy k with ⟨hlt2, a', y, rfl, hgy, ry0, ry1, hcell2⟩ | ⟨hlt2, hgy⟩
   ·have hst := hinv.step zbH (by omega) hgx.out hgy.out ⟨Int.le_refl _, zak⟩ ⟨ry0, ry1⟩ (by omega)
    rw [Int.add_zero] at hst
    go_wp2_with (at_builtin; refine zax rfl _ _ 77 rfl w.heap.size 3 3 .i64 8 Tryz.underlying77 zaF (by decide) _ os [_] _ rfl wr (by rfl) hown 1 rfl (by decide) (by rfl) (by omega) hwl ?_; intro v' w1 hown1 hlat1)
    go_roundw
    case rel => exact ⟨k + 1, _, _, by go_num, rfl, hown1, hst, hlat1 w hlr (Nat.le_refl _)⟩
    case measure => simp [intOf]; omega
   ·by_cases hcp : 0 < c
    ·have hkle : k ≤ max n1 n2 := by
      rcases Nat.lt_or_ge (max n1 n2) k with h | h
      ·have := hend.out (by omega); omega
      ·exact h
     have hst := hinv.step zbH hkle hgx.out hgy.out ⟨Int.le_refl _, zak⟩ ⟨Int.le_refl _, zak⟩ (fun _ => ⟨rfl, rfl⟩)
     rw [Int.add_zero, Int.add_zero] at hst
     go_wp2_with (at_builtin; refine zax rfl _ _ 77 rfl w.heap.size 3 3 .i64 8 Tryz.underlying77 zaF (by decide) _ os [_] _ rfl wr (by rfl) hown 1 rfl (by decide) (by rfl) (by omega) hwl ?_; intro v' w1 hown1 hlat1)
     go_roundw
     case rel => exact ⟨k + 1, _, _, by go_num, rfl, hown1, hst, hlat1 w hlr (Nat.le_refl _)⟩
     case measure => simp [intOf]; omega
    ·obtain rfl : c = 0 := by omega
     obtain ⟨r1, r2, r3, r4⟩ := hinv.done (by have := h1.1; omega) (by have := h2.1; omega)
     have R4 := Lib.hid r4
     have R2 := Lib.hid r2
     clear r2 r4
     obtain ⟨A3, c3, rfl, hs1, hc1', _⟩ := hown.form
     go_wp2
     go_ret
     exact ⟨A3, _, c3, os, rfl, hs1, r1, R4.out, hc1', by have := R2.out; omega, hlr⟩
theorem zof {x y : Int} (hx : 0 ≤ x ∧ x < 4294967296) (hy : 0 ≤ y ∧ y < 4294967296) : 0 ≤ x * y ∧ x * y ≤ 18446744065119617025 := by
 refine ⟨Int.mul_nonneg hx.1 hy.1, ?_⟩
 have h1 := Int.mul_le_mul_of_nonneg_left (show y ≤ 4294967295 by omega) hx.1
 have h2 := Int.mul_le_mul_of_nonneg_right (show x ≤ 4294967295 by omega) (show (0 : Int) ≤ 4294967295 by decide)
 omega
theorem zkf {s : Int} (h0 : 0 ≤ s) (h1 : s ≤ 18446744073709551615) : 0 ≤ s / 4294967296 ∧ s / 4294967296 < 4294967296 := by omega
theorem zd3 (A1 : Option Addr) (n1 c1 : Nat) (xs : List Int) (A2 : Option Addr) (n2 c2 : Nat) (ys : List Int) (w : World) (h1 : Sl w .i64 A1 n1 xs) (h2 : Sl w .i64 A2 n2 ys) (hx : InR B32 xs) (hy : InR B32 ys)
  (hn : n1 ≤ 1000000) (hm : n2 ≤ 1000000) :
  Calls Tryz.prog 74 #[.slice A1 n1 c1, .slice A2 n2 c2] w (zfJ w (val B32 xs * val B32 ys) (n1 + n2)) := by
 have hmk := zav (P := Tryz.prog) Tryz.underlying77 zaF ((n1 : Int) + n2) (n1 + n2) (by omega) (by omega) (by omega)
 go_enter Tryz.func74, Tryz.ntmps74
 go_wp2
 clear hmk
 refine zas (Q := fun W => Code.wp _ _ _ _ W) ?_
 intro W hl hs hb
 go_loopw [6] (fun i wr => ∃ (k : Nat) (os : List Int), k ≤ n1 ∧ i = .int .i64 k ∧ PrdInv B32 xs ys n1 n2 k os ∧ Lat w wr ∧ Blk wr w.heap.size 3 (nums .i64 os)) (fun i _ => n1 - (intOf i).toNat)
 case atStart => exact ⟨0, _, Nat.zero_le _, rfl, PrdInv.start zak xs ys n1 n2, hl, hb⟩
 case round =>
  obtain ⟨k, os, hk, rfl, hinv, hlr, hbr⟩ := hrel
  clear hl hb hs
  by_cases hlt : k < n1
  ·obtain ⟨a, x, rfl, ha, hxk, hcell⟩ := (h1.later hlr).at hlt
   have hrx := hx.at hxk
   have hgx : Hid (xs.getD k 0 = x) := by rw [List.getD_eq_getElem?_getD, hxk]; rfl
   clear hxk
   have hin := hinv.open_ zak x
   clear hinv hcell ha
   obtain ⟨wo, rfl⟩ : ∃ wo : World, wo = wr := ⟨_, rfl⟩
   go_wp2
   go_loopw [7, 8] (fun cy j wr => ∃ (m : Nat) (c : Int) (os : List Int), m ≤ n2 ∧ j = .int .i64 m ∧ cy = .int .u64 c ∧ PrdIn B32 xs ys n1 n2 k x m c os ∧ Lat w wr ∧ Blk wr w.heap.size 3 (nums .i64 os)) (fun _ j _ => n2 - (intOf j).toNat)
   case atStart => exact ⟨0, 0, os, Nat.zero_le _, rfl, rfl, hin, hlr, hbr⟩
   case round =>
    clear hin hlr hbr os
    obtain ⟨m, c, os, hm', rfl, rfl, hin, hlr, hbr⟩ := hrel
    have hlen := Lib.hid hin.1
    have hc0 := hin.2.2.1.1
    have hc1 : c < 4294967296 := hin.2.2.1.2
    by_cases hlt2 : m < n2
    ·obtain ⟨a1, x1, ea, ha, hxk, hcell⟩ := (h1.later hlr).at hlt
     cases ea
     obtain rfl : x = x1 := by have := hgx.out; rw [List.getD_eq_getElem?_getD, hxk] at this; exact this.symm
     clear hxk
     obtain ⟨a', y, rfl, ha', hyk, hcell2⟩ := (h2.later hlr).at hlt2
     have hry := hy.at hyk
     have hgy : Hid (ys.getD m 0 = y) := by rw [List.getD_eq_getElem?_getD, hyk]; rfl
     clear hyk
     obtain ⟨o, hoo, ho, hfo⟩ := hbr.slot (i := k + m) (by have := hlen.out; omega)
     have hgo : Hid (os.getD (k + m) 0 = o) := by rw [List.getD_eq_getElem?_getD, hoo]; rfl
     have hro := hin.2.1.at hoo
     clear hoo
     have hst := hin.step zbH hlt hlt2 hrx hgy.out hry hgo.out
     have rx0 := hrx.1
     have rx1 : x < 4294967296 := hrx.2
     have ry0 := hry.1
     have ry1 : y < 4294967296 := hry.2
     have ro0 := hro.1
     have ro1 : o < 4294967296 := hro.2
     have hpl := zof ⟨rx0, rx1⟩ ⟨ry0, ry1⟩
     obtain ⟨p, hp⟩ : ∃ p, x * y = p := ⟨_, rfl⟩
     rw [hp] at hst hpl
     have hp0 := hpl.1
     have hp1 := hpl.2
     clear hpl hin
     have hq := zkf (s := c + o + p) (by omega) (by omega)
     have e1 : IntKind.u64.wrap x = x := IntWalk.u64_in _ (by omega)
     have e2 : IntKind.u64.wrap y = y := IntWalk.u64_in _ (by omega)
     have e3 : IntKind.u64.wrap o = o := IntWalk.u64_in _ (by omega)
     have e4 : IntKind.u64.wrap (x * y) = p := by rw [hp]; exact IntWalk.u64_in _ (by omega)
     have e5 : IntKind.u64.wrap (c + o) = c + o := IntWalk.u64_in _ (by omega)
     have e6 : IntKind.u64.wrap (c + o + p) = c + o + p := IntWalk.u64_in _ (by omega)
     have e7 : IntKind.i64.wrap ((k : Int) + (m : Int)) = (k : Int) + (m : Int) := IntWalk.i64_in _ (by omega)
     have e8 : (0 : Int) ≤ (k : Int) + (m : Int) := by omega
     have e9 : ((k : Int) + (m : Int)).toNat = k + m := by omega
     have e10 : (k : Int) + (m : Int) < (n1 : Int) + (n2 : Int) := by omega
     clear hp hrx hry hro
     go_wp2
     go_quiet (fail)
     clear e1 e2 e3 e4 e5 e6 e7 e8 e9
     have hb2 := hbr.later (Lat.drewN wr nq)
     go_wp2
     go_roundw
     case rel => exact ⟨m + 1, _, _, by omega, by go_num, rfl, hst, (hlr.trans (Lat.drewN wr nq)).setCell (Nat.le_refl _) _, hb2.put (k + m) _⟩
     case measure => simp [intOf]; omega
    ·obtain rfl : m = n2 := by omega
     obtain ⟨o, _, ho, hfo⟩ := hbr.slot (i := k + m) (by have := hlen.out; omega)
     have hcl := hin.close hlt h2.1 hgx.out
     clear hin
     go_wp2
     go_roundw
     case rel => exact ⟨k + 1, _, by omega, by go_num, hcl, hlr.setCell (Nat.le_refl _) _, hbr.put (k + m) _⟩
     case measure => simp [intOf]; omega
  ·obtain rfl : k = n1 := by omega
   obtain ⟨r1, r2, r3, _⟩ := hinv
   rw [List.take_of_length_le (by have := h1.1; omega)] at r3
   have R1 := Lib.hid r1
   have R3 := Lib.hid r3
   clear r1 r3
   go_wp2_with fail
   refine (zcH _ _ _ _ _ (Sl.of_blk' hbr R1.out) (Nat.le_refl _) (by omega)).mono ?_
   rintro e w2 ⟨m, rfl, q1, q2, q3, q4, q5⟩
   have Q3 := Lib.hid q3
   have Q2 := Lib.hid q2
   clear q2 q3
   go_wp2
   go_ret
   exact ⟨_, m, _, _, rfl, q1, r2.take m, Q2.out, Q3.out.trans R3.out, by have := R1.out; omega, by have := R1.out; omega, hlr.trans q5, fun a e => by cases e; exact Nat.le_refl _⟩
theorem zdD {P : Program} {w : World} (B : Nat) (t ty e : TypeId) (i : TypeInfo) (size : Nat) (ht : P.underlying t = some (.slice e)) (hi : P.info? e = some i)
  (v : Value) (n : Nat) (xs : List Value) (hown : w.ownsRow B e size v n xs) (c : Nat) : (Builtin.append_ #[t, t] ty #[v, .slice none 0 c]).run P w = .ok v w := by
 rcases hown.2 with ⟨rfl, rfl⟩ | ⟨g, cap, cur, rfl, _, _, hnc, _⟩
 ·simp [Builtin.append_, run_underlying ht, sizeOf, typeInfo, hi, Builtin.lenOf, Builtin.firstCells]
 ·simp [Builtin.append_, run_underlying ht, sizeOf, typeInfo, hi, Builtin.lenOf, Builtin.firstCells, hnc, storeCells]
theorem zcI {P : Program} {ops : Array Oper} {rest : List Oper} {o : Oper} {a : Act} {Q : Exit → Act → World → Prop} (hgd : o.guard = none) (s x : Operand) (t : TypeId)
  (ho : o.op = .call { callee := .builtin .append, args := #[s, x], argTypes := #[t, t] })
  (B : Nat) (E : TypeId) (k : IntKind) (by_ : Nat) (ht : P.underlying t = some (.slice E)) (hinfo : (P.info? E).map (fun i => (i.zero, i.size, i.bytes)) = some (some (.int k 0), 1, by_)) (hby : by_ ≤ 8)
  (v : Value) (os xs : List Int) (w : World) (hs : a.eval s = v) (hown : Own w B E k v os)
  (A : Option Addr) (n c : Nat) (hx : a.eval x = .slice A n c) (hxs : Sl w k A n xs) (hlen : os.length + n ≤ 17000000000000) (hB : B ≤ w.heap.size)
  (h : ∀ v' w', Own w' B E k v' (os ++ xs) → (∀ W0, Lat W0 w → W0.heap.size ≤ B → Lat W0 w') → wpList P ops Q rest (a.put o.dst v') w') : wpList P ops Q (o :: rest) a w := by
 obtain ⟨i0, hi, hz0, hz1, hz2⟩ := info_parts hinfo
 have hl := hxs.1
 cases A with
 | none =>
   obtain rfl : n = 0 := by
    rcases Nat.eq_zero_or_pos n with h0 | h0
    ·exact h0
    ·obtain ⟨a', e, _⟩ := hxs.2 h0
     cases e
   have : xs = [] := List.eq_nil_of_length_eq_zero hl
   subst this
   refine wpList_plain hgd fun K hK => ?_
   have hrun := zdD (P := P) (w := w) B t o.type E i0 1 ht hi v os.length _ hown c
   unfold Oper.wp
   simp [execOp, ho, resolve, invoke, builtin, hs, hx, hrun, Result.andThen]
   exact hK _ _ (h v w (by rw [List.append_nil]; exact hown) (fun W0 hl _ => hl))
 | some ad =>
   refine wpList_append_own _ hgd s x t ho B E i0 (.int k 0) 1 by_ ht hi hz0 hz1 hz2 rfl (by decide) v os.length _ hs hown ad n c (xs.map (Value.int k)) hx (by simp [hl]) ?_ ?_ ?_ ?_ hB ?_
   ·intro j u hu
    have hj : j < n := by
     have := (List.getElem?_eq_some_iff.1 hu).1
     simpa [hl] using this
    obtain ⟨a', e, _, hc⟩ := hxs.2 (by omega)
    cases e
    rw [List.getElem?_map] at hu
    cases hxj : xs[j]? with
    | none => rw [hxj] at hu; cases hu
    | some y => rw [hxj] at hu; cases hu; exact hc j y hxj
   ·exact ints_oneCell _ _
   ·unfold maxLen; omega
   ·have := Nat.mul_le_mul_left (os.length + n) hby; omega
   ·intro v' w' h1 h2 _
    refine h v' w' ?_ (fun W0 hl hle => Own.lat hown hl hle h2)
    unfold Own
    rw [List.length_append, List.map_append, hl]
    exact h1
theorem Own.made {w : World} {g : Nat} {E : TypeId} {k : IntKind} {B : Nat} (h : Blk w g E #[]) (hB : B ≤ g) : Own w B E k (.slice (some ⟨g, 0, none⟩) 0 0) [] :=
 ⟨rfl, .inr ⟨g, 0, #[], rfl, hB, h, Nat.le_refl _, by simp [maxLen], rfl, rfl⟩⟩
theorem add_add (a : Addr) (i j : Nat) : (a.add i).add j = a.add (i + j) := by
 unfold Addr.add
 by_cases hi : i = 0 <;> by_cases hj : j = 0 <;> simp [hi, hj, Nat.add_assoc]
theorem zlP {P : Program} {t e : TypeId} {z : Value} {by_ : Nat} (ht : P.underlying t = some (.slice e)) (hinfo : (P.info? e).map (fun i => (i.zero, i.size, i.bytes)) = some (some z, 1, by_))
  {A : Option Addr} {n c lo : Nat} {k : IntKind} {xs : List Int} {W0 : World} (hs : Sl W0 k A n xs) (hlo : lo ≤ n) (hc : n ≤ c) (L : Int) (hL : L = (lo : Int)) :
  ∃ A' c', (∀ W, (Instr.sliceAt t (.slice A n c) (some (.int .i64 L)) none none).run P W = .ok (.slice A' (n - lo) c') W) ∧ Sl W0 k A' (n - lo) (xs.drop lo) ∧ n - lo ≤ c' := by
 obtain ⟨i0, hi, _, hz1, _⟩ := info_parts hinfo
 have he : P.elem t = e := by simp [Program.elem, ht]
 have ht' : P.underlying t = some (.slice (P.elem t)) := by rw [he]; exact ht
 refine ⟨if c = lo then A else A.map (·.add (lo * 1)), c - lo, fun W => ?_, ?_, by omega⟩
 ·subst hL
  rw [run_sliceAt_slice _ _ _ _ _ _ ht', run_slice_l _ _ _ _ _ ht' _ _ (by omega) (by omega), he]
  simp [sizeOf, typeInfo, hi, hz1, Result.andThen, sliced]
 ·refine ⟨by rw [List.length_drop, hs.1], fun hp => ?_⟩
  obtain ⟨a, rfl, hb, hcell⟩ := hs.2 (by omega)
  rw [if_neg (by omega)]
  refine ⟨a.add (lo * 1), rfl, by rw [block_add]; exact hb, fun i x hx => ?_⟩
  rw [add_add, Nat.mul_one]
  exact hcell _ x (by rw [← hx, List.getElem?_drop])
def Dg (w : World) (A : Option Addr) (n c : Nat) (z : Int) : Prop := n ≤ c ∧ ∃ xs, Sl w .i64 A n xs ∧ InR B32 xs ∧ Nz xs ∧ val B32 xs = z
theorem Dg.later {W w : World} {A : Option Addr} {n c : Nat} {z : Int} (h : Dg W A n c z) (hl : Lat W w) : Dg w A n c z := by
 obtain ⟨hn, xs, hs, r⟩ := h
 exact ⟨hn, xs, hs.later hl, r⟩
theorem Dg.off {w : World} {A : Option Addr} {n c : Nat} {z : Int} (h : Dg w A n c z) {p : Addr} (hp : ∀ a, A = some a → a.block ≠ p.block) (u : Value) : Dg (w.setCell p u) A n c z := by
 obtain ⟨hn, xs, hs, r⟩ := h
 exact ⟨hn, xs, hs.off' (fun _ => hp) u, r⟩
def zhr (w : World) (q r : Int) (N M : Nat) (e : Ending) (w' : World) : Prop :=
 ∃ A n c A' n' c', e = .returned (.tuple #[.slice A n c, .slice A' n' c']) ∧ Dg w' A n c q ∧ n ≤ N ∧ Dg w' A' n' c' r ∧ n' ≤ M ∧ Lat w w'
theorem zhs (A1 : Option Addr) (n1 c1 : Nat) (xs : List Int) (A2 : Option Addr) (m c2 : Nat) (ys : List Int) (w : World) (h1 : Sl w .i64 A1 n1 xs) (h2 : Sl w .i64 A2 (m + 1) ys) (hx : InR B32 xs) (hy : InR B32 ys)
  (zx : Nz xs) (zy : Nz ys) (hle : n1 ≤ m) (hm : m ≤ 1000000) :
  Calls Tryz.prog 121 #[.slice A1 n1 c1, .slice A2 (m + 1) c2] w (zhr w (val B32 xs / val B32 ys) (val B32 xs % val B32 ys) (n1 + 1) (m + 1)) := by
 have hlt := Lib.hid (zaz zak hx hy zy (by rw [h1.1, h2.1]; omega))
 have h0 := zaj zak hx
 have hle' : (n1 : Int) ≤ (m : Int) := by omega
 go_enter Tryz.func121, Tryz.ntmps121
 go_wp2_with (at_builtin; refine zcI rfl _ _ 77 rfl w.heap.size 3 .i64 8 Tryz.underlying77 zaF (by decide) _ [] xs _ (by rfl) (Own.made (Blk.new _ _ _) (Nat.le_refl _)) A1 n1 c1 (by rfl) (h1.later (Lat.alloc _ _)) (by simp; omega) (by simp) ?_; intro v' w1 hown1 hlat1)
 obtain ⟨A3, c3, rfl, hs1, hc3, hnew⟩ := hown1.form
 have hl1 := hlat1 w (Lat.alloc _ _) (Nat.le_refl _)
 clear hown1 hlat1
 go_wp2
 go_ret2
 refine ⟨none, 0, 0, A3, _, c3, rfl, ⟨Nat.le_refl _, [], Sl.nil _ _ _, InR.nil _, Nz.nil, ?_⟩, Nat.zero_le _, ⟨hc3, _, hs1, hx, zx, ?_⟩, ?_, hl1⟩
 ·rw [zdR, Int.ediv_eq_zero_of_lt h0 hlt.out]
 ·rw [Int.emod_eq_of_lt h0 hlt.out]; rfl
 ·have := h1.1; simp; omega
theorem zhZ {xs : List Int} {i : Nat} {x : Int} (h : xs[i]? = some x) : xs.set i x = xs := by
 apply List.ext_getElem?
 intro j
 rw [List.getElem?_set]
 split
 ·rename_i e
  subst e
  split
  ·exact h.symm
  ·rename_i hl
   rw [List.getElem?_eq_none (by omega)]
 ·rfl
theorem zfK {k : Nat} (h : k < 32) : (0 : Int) < 2 ^ k ∧ (2 : Int) ^ k ≤ 2147483648 := by
 refine ⟨Int.pow_pos (by decide), ?_⟩
 have : (2 : Int) ^ k ≤ 2 ^ 31 := zdS (by decide) (by omega)
 exact this
theorem zi2 (A1 : Option Addr) (L m c1 : Nat) (xs : List Int) (A2 : Option Addr) (c2 : Nat) (ys : List Int) (w : World) (h1 : Sl w .i64 A1 (L + m) xs) (h2 : Sl w .i64 A2 (m + 1) ys) (hx : InR B32 xs) (hy : InR B32 ys)
  (zx : Nz xs) (zy : Nz ys) (hc1 : L + m ≤ c1) (hL : 0 < L) (hn : L ≤ 100000) (hm : m ≤ 100000) :
  Calls Tryz.prog 121 #[.slice A1 (L + m) c1, .slice A2 (m + 1) c2] w (zhr w (val B32 xs / val B32 ys) (val B32 xs % val B32 ys) (L + m + 1) (m + 1)) := by
 obtain ⟨A0, c0, hsl, hsd, hsc⟩ := zlP (P := Tryz.prog) Tryz.underlying77 zaF h1 (lo := L) (by omega) hc1 (L : Int) rfl
 have hmk := zav (P := Tryz.prog) Tryz.underlying77 zaF (L : Int) L rfl (by omega) (by omega)
 have e0 : L + m - L = m := by omega
 rw [e0] at hsl hsd hsc
 have hl0 : (0 : Int) < (L : Int) := by omega
 have hyp : 0 < val B32 ys := zaX zak hy zy (by intro e; have := h2.1; rw [e] at this; simp at this)
 have hlt := Lib.hid (zaz zak (hx.drop L) hy zy (by rw [hsd.1, h2.1]; omega))
 clear e0
 obtain ⟨b, hb⟩ : ∃ b, val B32 ys = b := ⟨_, rfl⟩
 have HB := Lib.hid hb
 rw [hb] at hyp ⊢
 clear hb
 go_enter Tryz.func121, Tryz.ntmps121
 go_wp2_with (at_builtin; refine zcI rfl _ _ 77 rfl (w.heap.size + 1) 3 .i64 8 Tryz.underlying77 zaF (by decide) (.slice (some ⟨w.heap.size + 1, 0, none⟩) 0 0) [] (xs.drop L) _ (by rfl) (Own.made (by have := Blk.new (w.alloc (.cells (nums .i64 (List.replicate L 0)) 3)) 3 #[]; simpa using this) (Nat.le_refl _)) A0 m c0 (by rfl) (hsd.later ((Lat.alloc _ _).trans (Lat.alloc _ _))) (by simp; omega) (by simp) ?_; intro v' w1 hown1 hlat1)
 clear hmk hsl
 obtain ⟨A3, c3, rfl, hs3, hc3, hnew⟩ := hown1.form
 have hl1 := hlat1 (w.alloc (.cells (nums .i64 (List.replicate L 0)) 3)) (Lat.alloc _ _) (by simp)
 have hbq : Blk w1 w.heap.size 3 (nums .i64 (List.replicate L 0)) := (Blk.new w 3 _).later hl1
 have hlw : Lat w w1 := (Lat.alloc _ _).trans hl1
 rw [List.nil_append] at hs3 hc3
 have hzd : Nz (xs.drop L) := by
  unfold Nz at zx ⊢
  rcases Nat.eq_zero_or_pos m with h0 | h0
  ·have : xs.drop L = [] := List.drop_of_length_le (by have := h1.1; omega)
   rw [this]; simp
  ·rw [List.getLast?_drop, if_neg (by have := h1.1; omega)]; exact zx
 have hq0 : QuoInv B32 b xs L L (List.replicate L 0) (val B32 (xs.drop L)) := QuoInv.start zak hx (by have := hlt.out; rw [HB.out] at this; exact this)
 have hdg : Dg w1 A3 (xs.drop L).length c3 (val B32 (xs.drop L)) := ⟨hc3, _, hs3, hx.drop L, hzd, rfl⟩
 obtain ⟨nd, hnd⟩ : ∃ nd, (xs.drop L).length = nd := ⟨_, rfl⟩
 rw [List.nil_append, hnd]
 rw [hnd] at hdg
 clear hown1 hlat1 hs3 hc3 hsd hl1 hzd hlt hnd
 go_wp2
 go_loopw [8, 9] (fun v i wr => ∃ (j : Nat) (A : Option Addr) (n c : Nat) (R : Int) (qs : List Int), j ≤ L ∧ i = .int .i64 ((j : Int) - 1) ∧ v = .slice A n c ∧ Dg wr A n c R ∧ (∀ a, A = some a → w.heap.size + 1 ≤ a.block) ∧ QuoInv B32 b xs L j qs R ∧ Lat w wr ∧ Blk wr w.heap.size 3 (nums .i64 qs)) (fun _ i _ => (intOf i + 1).toNat)
 case atStart => exact ⟨L, A3, nd, c3, _, _, Nat.le_refl _, rfl, rfl, hdg, fun a e => (hnew a e).1, hq0, hlw, hbq⟩
 case round =>
  clear hdg hq0 hlw hbq hnew
  obtain ⟨j, A, n, c, R, qs, hj, rfl, rfl, hdg, hnew, hqi, hlr, hbr⟩ := hrel
  rcases Nat.eq_zero_or_pos j with rfl | hjp
  ·obtain ⟨r1, r2, r3, r4⟩ := hqi.done
   have R1 := Lib.hid r1
   have R3 := Lib.hid r3
   have R4 := Lib.hid r4
   clear r1 r3 r4 hqi
   go_wp2_with fail
   refine (zcH _ _ _ _ _ (Sl.of_blk' hbr R1.out) (Nat.le_refl _) (by omega)).mono ?_
   rintro e w2 ⟨k, rfl, q1, q2, q3, q4, q5⟩
   have Q3 := Lib.hid q3
   have Q2 := Lib.hid q2
   clear q2 q3
   have hnm : n ≤ m + 1 := by
    obtain ⟨_, rs, s1, s2, s3, s4⟩ := hdg
    have := zaM zak s2 hy s3 (by rw [s4, R4.out, HB.out]; exact Int.le_of_lt (Int.emod_lt_of_pos _ hyp))
    rw [s1.1, h2.1] at this
    exact this
   go_wp2
   go_ret2
   exact ⟨_, k, _, A, n, c, rfl, ⟨by have := R1.out; omega, _, q1, r2.take k, Q2.out, by rw [Q3.out, R3.out]⟩, by have := R1.out; omega, by rw [← R4.out]; exact hdg.later q5, hnm, hlr.trans q5⟩
  ·obtain ⟨i, rfl⟩ : ∃ i, j = i + 1 := ⟨j - 1, by omega⟩
   have hiL : (i : Int) < (L : Int) := by omega
   have ej : (((i + 1 : Nat) : Int) - 1) = (i : Int) := by omega
   rw [ej]
   clear ej hjp
   obtain ⟨a, x, rfl, ha, hxk, hcell⟩ := (h1.later hlr).at (i := i) (by omega)
   have hrx := hx.at hxk
   have HX := Lib.hid hxk
   have rx0 := hrx.1
   have rx1 : x < 4294967296 := hrx.2
   clear hcell ha hxk hrx
   have hT := Lib.hid hqi.2.2.2.2
   have hqs : Hid (qs[i]? = some 0) := by
    have h := hqi.2.2.1 i (by omega)
    have hl := hqi.1
    show _ = _
    rw [List.getD_eq_getElem?_getD, List.getElem?_eq_getElem (by omega)] at h
    rw [List.getElem?_eq_getElem (by omega)]
    simpa using h
   have hql := Lib.hid hqi.1
   have hst := BitsIn.start (Q := val B32 (qs.drop (i + 1))) (T := val B32 (xs.drop (i + 1))) ⟨rx0, rx1⟩ hqi.2.2.2.1 hT.out
   obtain ⟨T, eT⟩ : ∃ T, val B32 (xs.drop (i + 1)) = T := ⟨_, rfl⟩
   obtain ⟨Q, eQ⟩ : ∃ Q, val B32 (qs.drop (i + 1)) = Q := ⟨_, rfl⟩
   rw [eT, eQ] at hst
   have ET := Lib.hid eT
   have EQ := Lib.hid eQ
   clear eT eQ hT
   obtain ⟨wo, rfl⟩ : ∃ wo : World, wo = wr := ⟨_, rfl⟩
   go_wp2
   go_loopw [8, 10] (fun v kv wr => ∃ (kk : Nat) (A : Option Addr) (n c : Nat) (R qi : Int), kk ≤ 32 ∧ kv = .int .i64 ((kk : Int) - 1) ∧ v = .slice A n c ∧ Dg wr A n c R ∧ (∀ a, A = some a → w.heap.size + 1 ≤ a.block) ∧ BitsIn b T Q x kk qi R ∧ Lat w wr ∧ Blk wr w.heap.size 3 (nums .i64 (qs.set i qi))) (fun _ kv _ => (intOf kv + 1).toNat)
   case atStart => exact ⟨32, A, n, c, R, 0, Nat.le_refl _, rfl, rfl, hdg, hnew, hst, hlr, by rw [zhZ hqs.out]; exact hbr⟩
   case round =>
    clear hdg hnew hst hlr hbr
    obtain ⟨kk, A, n, c, R, qi, hkk, rfl, rfl, hdg, hnew, hbi, hlr, hbr⟩ := hrel
    rcases Nat.eq_zero_or_pos kk with rfl | hkp
    ·have hst := hqi.step (by omega) HX.out (R' := R) (qi := qi) (by have h1 := ET.out; have h2 := EQ.out; rw [← h1, ← h2] at hbi; exact hbi)
     go_wp2
     go_roundw
     case rel => exact ⟨i, A, n, c, R, _, by omega, rfl, rfl, hdg, hnew, hst, hlr, hbr⟩
     case measure => simp [intOf]
    ·obtain ⟨k, rfl⟩ : ∃ k, kk = k + 1 := ⟨kk - 1, by omega⟩
     have hk32 : k < 32 := by omega
     have hk64 : k < 64 := by omega
     have ek : (((k + 1 : Nat) : Int) - 1) = (k : Int) := by omega
     rw [ek]
     clear ek hkp
     obtain ⟨a1, x1, ea, ha, hxk, hcell⟩ := (h1.later hlr).at (i := i) (by omega)
     cases ea
     obtain rfl : x1 = x := by have := HX.out; rw [hxk] at this; cases this; rfl
     clear hxk
     have hpw := zfK hk32
     have hpw1 := hpw.1
     obtain ⟨s, hs⟩ : ∃ s, s = x1 / 2 ^ k := ⟨_, rfl⟩
     have hs0 : 0 ≤ s := by rw [hs]; exact Int.ediv_nonneg rx0 (Int.le_of_lt hpw1)
     have hs1 : s < 4294967296 := by
      rw [hs]
      exact Int.lt_of_le_of_lt (Int.ediv_le_self _ rx0) rx1
     have hs' : x1 / 2 ^ k = s := hs.symm
     have hm' : s.tmod 2 = s % 2 := Int.tmod_eq_emod_of_nonneg hs0
     have HS := Lib.hid hs
     have hb0 : 0 ≤ s % 2 := by omega
     have hb1 : s % 2 ≤ 1 := by omega
     have hbo : Hid (s % 2 = zd2 x1 k) := by show _ = _; rw [hs]; rfl
     clear hs hpw hpw1
     obtain ⟨hnc, rs, s1, s2, s3, s4⟩ := hdg
     have S4 := Lib.hid s4
     have hR := hbi.range
     have hnm : n ≤ m + 1 := by
      have := zaM zak s2 hy s3 (by rw [s4, HB.out]; omega)
      rw [s1.1, h2.1] at this
      exact this
     clear s4
     go_wp2_with fail
     refine (zke A n c (s % 2) wr rs s1 s2 hb0 hb1 (by omega)).mono ?_
     rintro e w1 ⟨At, nt, ct, ts, rfl, t1, t2, t3, t4, t5, t6, t7, t8⟩
     have T4 := Lib.hid t4
     clear t4 hs' hm'
     have hnew2 : ∀ a, At = some a → w.heap.size + 1 ≤ a.block := fun a e => by
      have := t8 a e
      have := hbr.lt
      omega
     go_wp2_with fail
     by_cases hge : b ≤ 2 * R + zd2 x1 k
     ·have hvge : val B32 ys ≤ val B32 ts := by rw [T4.out, S4.out, HB.out, hbo.out]; exact hge
      have hlen := zaM zak hy t2 zy hvge
      rw [h2.1, t1.1] at hlen
      have HV := Lib.hid hvge
      have hbs := hbi.some_ hge
      refine (zbG At nt ct ts A2 (m + 1) c2 ys w1 t1 ((h2.later hlr).later t7) t2 hy t3 zy (by omega) (by omega)).mono ?_
      intro e w2 hpost
      obtain ⟨r, rfl, r0, hl2⟩ := hpost.ge hvge
      clear hpost hvge hge
      go_wp2_with fail
      refine (zb3 At nt ct ts A2 (m + 1) c2 ys w2 (t1.later hl2) (((h2.later hlr).later t7).later hl2) t2 hy hlen HV.out (by omega)).mono ?_
      rintro e w3 ⟨Ad, nd', cd, ds, rfl, d1, d2, d3, d4, d5, d6, d7, d8⟩
      have D4 := Lib.hid d4
      clear d4
      have L3 : Lat wr w3 := (t7.trans hl2).trans d7
      have hb3 := hbr.later L3
      have hgi : (qs.set i qi)[i]? = some qi := List.getElem?_set_self (by have := hql.out; omega)
      have ho : w3.cell? ⟨w.heap.size, i, none⟩ = some (.int .i64 qi) := (hb3.cell i).trans (zbO hgi)
      have hfo := hb3.frozen i
      have hqi0 := hbs.2.1
      have hqi1 := hbs.2.2
      obtain ⟨p, hp⟩ : ∃ p, p = (2 : Int) ^ k := ⟨_, rfl⟩
      have hp0 : 0 < p := by rw [hp]; exact (zfK hk32).1
      have hp1 : p ≤ 2147483648 := by rw [hp]; exact (zfK hk32).2
      have hpk : (2 : Int) ^ k = p := hp.symm
      rw [← hp] at hqi1
      have HP := Lib.hid hp
      have HB2 := Lib.hid hbs.1
      clear hp hbs hgi
      have hi0 : (0 : Int) ≤ (i : Int) := by omega
      go_wp2
      go_still_tail 10, (by kernel_rfl)
      change wpList _ _ _ _ _ w3.drew
      have L4 := hlr.trans (L3.trans (Lat.drew w3))
      have hb4 : Blk w3.drew w.heap.size 3 (nums .i64 (qs.set i qi)) := hb3
      go_wp2
      go_roundw
      case rel =>
       refine ⟨k, Ad, nd', cd, val B32 ds, qi + p, by omega, rfl, rfl, ?_, ?_, ?_, L4.setCell (Nat.le_refl _) _, ?_⟩
       ·have hdn : ∀ a, Ad = some a → a.block ≠ w.heap.size := fun a e => by
         have := d8 a e
         have := hl2.size
         have := t7.size
         have := hbr.lt
         omega
        exact Dg.off (p := ⟨w.heap.size, i, none⟩) (show Dg w3.drew Ad nd' cd _ from ⟨d5, ds, d1, d2, d3, rfl⟩) hdn _
       ·intro a e
        have := d8 a e
        have := hl2.size
        have := t7.size
        have := hbr.lt
        omega
       ·rw [D4.out, T4.out, S4.out, HB.out, hbo.out, HP.out]
        exact HB2.out
       ·have := hb4.put i (qi + p)
        rw [List.set_set] at this
        exact this
      case measure => simp [intOf]
     ·have hvlt : val B32 ts < val B32 ys := by rw [T4.out, S4.out, HB.out, hbo.out]; omega
      have hbn := hbi.none_ (by omega)
      refine (zbG At nt ct ts A2 (m + 1) c2 ys w1 t1 ((h2.later hlr).later t7) t2 hy t3 zy (by omega) (by omega)).mono ?_
      intro e w2 hpost
      obtain ⟨r, rfl, r0, hl2⟩ := hpost.lt hvlt
      clear hpost hvlt hge
      have r0' : ¬ 0 ≤ r := by omega
      have L2 := t7.trans hl2
      go_wp2
      go_roundw
      case rel => exact ⟨k, At, nt, ct, _, qi, by omega, rfl, rfl, ⟨t5, ts, t1.later hl2, t2, t3, by rw [T4.out, S4.out, hbo.out]⟩, hnew2, hbn, hlr.trans L2, hbr.later L2⟩
      case measure => simp [intOf]
theorem zog (b : Bool) (z : Int) : sgn (!b) z = - sgn b z := by cases b <;> simp [sgn]
theorem zoh (b c : Bool) (x y : Int) : sgn (b != c) (x * y) = sgn b x * sgn c y := by
 cases b <;> cases c <;> simp [sgn, Int.mul_neg, Int.neg_mul]
theorem zmT (b : Bool) (x y : Int) : sgn b (x + y) = sgn b x + sgn b y := by
 cases b <;> simp [sgn, Int.neg_add]
theorem zh0 {b c : Bool} (h : b ≠ c) (x y : Int) : sgn b (x - y) = sgn b x + sgn c y := by
 cases b <;> cases c <;> simp [sgn] at h ⊢ <;> omega
theorem zgy (b1 : Bool) (A1 : Option Addr) (n1 c1 : Nat) (x : Int) (w : World) (h1 : Rg w b1 A1 n1 c1 x) (hn : n1 ≤ 1000000) :
  Calls Tryz.prog 118 #[.agg #[.bool b1, .slice A1 n1 c1]] w (RefPost w (- x) n1) := by
 obtain ⟨hc, xs, s1, r1, z1, _, v1⟩ := h1
 have V1 := Lib.hid v1
 clear v1
 go_enter Tryz.func118, Tryz.ntmps118
 go_wp2_with fail
 refine zaK (Q := fun W => Calls _ _ _ W _) ?_
 intro W hl hs k1 k2
 refine (zbr (!b1) A1 n1 c1 W xs (s1.later hl) r1 hc (by omega)).mono ?_
 rintro e w1 ⟨b, A, n, c, rfl, hlg, hnn, hl1⟩
 have hk2 := k2.later hl1
 have c0 := hk2.cell 0
 have c1' := hk2.cell 1
 have f0 := hk2.frozen 0
 have f1 := hk2.frozen 1
 go_wp2
 refine bodyPost_ret (v := .agg #[.bool b, .slice A n c]) (by simp [results, Tryz.results118, go_sem, c0, c1']) rfl ?_
 have := RefPost.close hk2 hlg (hl.trans hl1) (by omega) hnn
 rw [zog, ← V1.out] at this
 exact this
theorem zbk (b1 : Bool) (A1 : Option Addr) (n1 c1 : Nat) (x : Int) (b2 : Bool) (A2 : Option Addr) (n2 c2 : Nat) (y : Int) (w : World) (h1 : Rg w b1 A1 n1 c1 x) (h2 : Rg w b2 A2 n2 c2 y) (hn : n1 ≤ 1000000) (hm : n2 ≤ 1000000) :
  Calls Tryz.prog 29 #[.agg #[.bool b1, .slice A1 n1 c1], .agg #[.bool b2, .slice A2 n2 c2]] w (RefPost w (x * y) (n1 + n2)) := by
 obtain ⟨hc1, xs, s1, r1, z1, _, v1⟩ := h1
 obtain ⟨hc2, ys, s2, r2, z2, _, v2⟩ := h2
 have V1 := Lib.hid v1
 have V2 := Lib.hid v2
 clear v1 v2
 go_enter Tryz.func29, Tryz.ntmps29
 go_wp2
 refine za0 (Q := fun W => Code.wp _ _ _ _ W) ?_
 intro W hl hs k1 k2 k3
 have a1 := k1.evS (gs := [w.heap.size + 1 + 1]) (by simp; try omega) 0 rfl
 have a2 := k1.evS (gs := [w.heap.size + 1 + 1]) (by simp; try omega) (0 + 1) rfl
 have a3 := k2.evS (gs := [w.heap.size + 1 + 1]) (by simp; try omega) 0 rfl
 have a4 := k2.evS (gs := [w.heap.size + 1 + 1]) (by simp; try omega) (0 + 1) rfl
 have L0 := Lat.drew W
 have M0 := L0.s [w.heap.size + 1 + 1]
 go_region_held3 (fun w' => LatS W [w.heap.size + 1 + 1] w') (first | assumption | ((repeat refine LatS.set ?_ (by simp) _); assumption))
  (first
    | (go_at_call 74; refine (zd3 A1 n1 c1 xs A2 n2 c2 ys _ (s1.later (hl.trans L0)) (s2.later (hl.trans L0)) r1 r2 hn hm).mono ?_; rintro e w1 ⟨A, n, c, zs, rfl, p1, p2, p2', p3, p4, p5, p6, p7⟩; have L1 := L0.trans p6; have M1 := L1.s [w.heap.size + 1 + 1]; have P3 := Lib.hid p3; clear p3)
    | (go_at_call 73; refine (zbr (b1 != b2) A n c _ zs p1 p2 p4 (by omega)).mono ?_; rintro e w2 ⟨b, A', m, c', rfl, q1, q2, q3⟩; have L2 := L1.trans q3; have M2 := L2.s [w.heap.size + 1 + 1]; have hk3 := k3.later L2; have c0 := hk3.cell 0; have c1' := hk3.cell 1; have f0 := hk3.frozen 0; have f1 := hk3.frozen 1))
 go_wp2
 refine bodyPost_ret (v := .agg #[.bool b, .slice A' m c']) (by simp [results, Tryz.results29, go_sem, c0, c1']) rfl ?_
 have := RefPost.close hk3 q1 (hl.trans L2) (by omega) (Nat.le_trans q2 p5)
 rw [P3.out, zoh, ← V1.out, ← V2.out] at this
 exact this
theorem zi3 (b1 : Bool) (A1 : Option Addr) (n1 c1 : Nat) (x : Int) (A2 : Option Addr) (n2 c2 : Nat) (y : Int) (w : World) (h1 : Rg w b1 A1 n1 c1 x) (h2 : Rg w b1 A2 n2 c2 y) (hn : n1 ≤ 1000000) (hm : n2 ≤ 1000000) :
  Calls Tryz.prog 72 #[.agg #[.bool b1, .slice A1 n1 c1], .agg #[.bool b1, .slice A2 n2 c2]] w (RefPost w (x + y) (max n1 n2 + 1)) := by
 obtain ⟨hc1, xs, s1, r1, z1, _, v1⟩ := h1
 obtain ⟨hc2, ys, s2, r2, z2, _, v2⟩ := h2
 have V1 := Lib.hid v1
 have V2 := Lib.hid v2
 clear v1 v2
 go_enter Tryz.func72, Tryz.ntmps72
 go_wp2
 refine za0 (Q := fun W => Code.wp _ _ _ _ W) ?_
 intro W hl hs k1 k2 k3
 have a1 := k1.evS (gs := [w.heap.size + 1 + 1]) (by simp; try omega) 0 rfl
 have a2 := k1.evS (gs := [w.heap.size + 1 + 1]) (by simp; try omega) (0 + 1) rfl
 have a4 := k2.evS (gs := [w.heap.size + 1 + 1]) (by simp; try omega) (0 + 1) rfl
 have L0 := Lat.drew W
 have M0 := L0.s [w.heap.size + 1 + 1]
 go_region_held3 (fun w' => LatS W [w.heap.size + 1 + 1] w') (first | assumption | ((repeat refine LatS.set ?_ (by simp) _); assumption))
  (first
    | (go_at_call 111; refine (zlO A1 n1 c1 xs A2 n2 c2 ys _ (s1.later (hl.trans L0)) (s2.later (hl.trans L0)) r1 r2 hn hm).mono ?_; rintro e w1 ⟨A, n, c, zs, rfl, p1, p2, p3, p4, p5, p6⟩; have L1 := L0.trans p6; have M1 := L1.s [w.heap.size + 1 + 1]; have P3 := Lib.hid p3; clear p3)
    | (go_at_call 73; refine (zbr b1 A n c _ zs p1 p2 p4 (by omega)).mono ?_; rintro e w2 ⟨b, A', m, c', rfl, q1, q2, q3⟩; have L2 := L1.trans q3; have M2 := L2.s [w.heap.size + 1 + 1]; have hk3 := k3.later L2; have c0 := hk3.cell 0; have c1' := hk3.cell 1; have f0 := hk3.frozen 0; have f1 := hk3.frozen 1))
 go_wp2
 refine bodyPost_ret (v := .agg #[.bool b, .slice A' m c']) (by simp [results, Tryz.results72, go_sem, c0, c1']) rfl ?_
 have := RefPost.close hk3 q1 (hl.trans L2) (by omega) (Nat.le_trans q2 p5)
 rw [P3.out, zmT, ← V1.out, ← V2.out] at this
 exact this
theorem zht (b1 : Bool) (A1 : Option Addr) (n1 c1 : Nat) (x : Int) (b2 : Bool) (A2 : Option Addr) (n2 c2 : Nat) (y : Int) (w : World) (h1 : Rg w b1 A1 n1 c1 x) (h2 : Rg w b2 A2 n2 c2 y) (hb : b1 ≠ b2) (hn : n1 ≤ 1000000) (hm : n2 ≤ 1000000) :
  Calls Tryz.prog 72 #[.agg #[.bool b1, .slice A1 n1 c1], .agg #[.bool b2, .slice A2 n2 c2]] w (RefPost w (x + y) (max n1 n2 + 1)) := by
 obtain ⟨hc1, xs, s1, r1, z1, _, v1⟩ := h1
 obtain ⟨hc2, ys, s2, r2, z2, _, v2⟩ := h2
 have V1 := Lib.hid v1
 have V2 := Lib.hid v2
 clear v1 v2
 have hbb : (b1 == b2) = false := by simpa using hb
 have HB := Lib.hid hb
 clear hb
 go_enter Tryz.func72, Tryz.ntmps72
 go_wp2_with fail
 refine za0 (Q := fun W => Calls _ _ _ W _) ?_
 intro W hl hs k1 k2 k3
 refine (zbG A1 n1 c1 xs A2 n2 c2 ys W (s1.later hl) (s2.later hl) r1 r2 z1 z2 hn hm).mono ?_
 intro e W1 hpost
 by_cases hge : val B32 ys ≤ val B32 xs
 ·obtain ⟨r, rfl, r0, hl1⟩ := hpost.ge hge
  clear hpost
  have hlw := hl.trans hl1
  have hlen := zaM zak r2 r1 z2 hge
  rw [s1.1, s2.1] at hlen
  have HGE := Lib.hid hge
  have hk1 := k1.later hl1
  have hk2 := k2.later hl1
  have hk3 := k3.later hl1
  have hs1 := hl1.size
  clear k1 k2 k3 hl hge
  go_wp2
  have a1 := hk1.evS (gs := [w.heap.size + 1 + 1]) (by simp; try omega) 0 rfl
  have a2 := hk1.evS (gs := [w.heap.size + 1 + 1]) (by simp; try omega) (0 + 1) rfl
  have a4 := hk2.evS (gs := [w.heap.size + 1 + 1]) (by simp; try omega) (0 + 1) rfl
  have L0 := Lat.drew W1
  have M0 := L0.s [w.heap.size + 1 + 1]
  go_region_held3 (fun w' => LatS W1 [w.heap.size + 1 + 1] w') (first | assumption | ((repeat refine LatS.set ?_ (by simp) _); assumption))
   (first
     | (go_at_call 112; refine (zb3 A1 n1 c1 xs A2 n2 c2 ys _ (s1.later (hlw.trans L0)) (s2.later (hlw.trans L0)) r1 r2 hlen HGE.out hn).mono ?_; rintro e w1 ⟨A, n, c, zs, rfl, p1, p2, p2', p3, p4, p5, p6, p7⟩; have L1 := L0.trans p6; have M1 := L1.s [w.heap.size + 1 + 1]; have P3 := Lib.hid p3; clear p3)
     | (go_at_call 73; refine (zbr b1 A n c _ zs p1 p2 p4 (by omega)).mono ?_; rintro e w2 ⟨b, A', m, c', rfl, q1, q2, q3⟩; have L2 := L1.trans q3; have M2 := L2.s [w.heap.size + 1 + 1]; have hk3' := hk3.later L2; have c0 := hk3'.cell 0; have c1' := hk3'.cell 1; have f0 := hk3'.frozen 0; have f1 := hk3'.frozen 1))
  go_wp2
  refine bodyPost_ret (v := .agg #[.bool b, .slice A' m c']) (by simp [results, Tryz.results72, go_sem, c0, c1']) rfl ?_
  have := RefPost.close hk3' q1 (hlw.trans L2) (by omega) (N := max n1 n2 + 1) (by omega)
  rw [P3.out, zh0 HB.out, ← V1.out, ← V2.out] at this
  exact this
 ·obtain ⟨r, rfl, r0, hl1⟩ := hpost.lt (by omega)
  clear hpost
  have hlw := hl.trans hl1
  have hge' : val B32 xs ≤ val B32 ys := by omega
  have hlen := zaM zak r1 r2 z1 hge'
  rw [s1.1, s2.1] at hlen
  have HGE := Lib.hid hge'
  have hk1 := k1.later hl1
  have hk2 := k2.later hl1
  have hk3 := k3.later hl1
  have hs1 := hl1.size
  have r0' : ¬ 0 ≤ r := by omega
  clear k1 k2 k3 hl hge hge'
  go_wp2
  have a1 := hk2.evS (gs := [w.heap.size + 1 + 1]) (by simp; try omega) 0 rfl
  have a2 := hk1.evS (gs := [w.heap.size + 1 + 1]) (by simp; try omega) (0 + 1) rfl
  have a4 := hk2.evS (gs := [w.heap.size + 1 + 1]) (by simp; try omega) (0 + 1) rfl
  have L0 := Lat.drew W1
  have M0 := L0.s [w.heap.size + 1 + 1]
  go_region_held3 (fun w' => LatS W1 [w.heap.size + 1 + 1] w') (first | assumption | ((repeat refine LatS.set ?_ (by simp) _); assumption))
   (first
     | (go_at_call 112; refine (zb3 A2 n2 c2 ys A1 n1 c1 xs _ (s2.later (hlw.trans L0)) (s1.later (hlw.trans L0)) r2 r1 hlen HGE.out hm).mono ?_; rintro e w1 ⟨A, n, c, zs, rfl, p1, p2, p2', p3, p4, p5, p6, p7⟩; have L1 := L0.trans p6; have M1 := L1.s [w.heap.size + 1 + 1]; have P3 := Lib.hid p3; clear p3)
     | (go_at_call 73; refine (zbr b2 A n c _ zs p1 p2 p4 (by omega)).mono ?_; rintro e w2 ⟨b, A', m, c', rfl, q1, q2, q3⟩; have L2 := L1.trans q3; have M2 := L2.s [w.heap.size + 1 + 1]; have hk3' := hk3.later L2; have c0 := hk3'.cell 0; have c1' := hk3'.cell 1; have f0 := hk3'.frozen 0; have f1 := hk3'.frozen 1))
  go_wp2
  refine bodyPost_ret (v := .agg #[.bool b, .slice A' m c']) (by simp [results, Tryz.results72, go_sem, c0, c1']) rfl ?_
  have := RefPost.close hk3' q1 (hlw.trans L2) (by omega) (N := max n1 n2 + 1) (by omega)
  rw [P3.out, zh0 (fun e => HB.out e.symm), ← V1.out, ← V2.out, Int.add_comm] at this
  exact this
theorem zc1 (b1 : Bool) (A1 : Option Addr) (n1 c1 : Nat) (x : Int) (b2 : Bool) (A2 : Option Addr) (n2 c2 : Nat) (y : Int) (w : World) (h1 : Rg w b1 A1 n1 c1 x) (h2 : Rg w b2 A2 n2 c2 y) (hn : n1 ≤ 1000000) (hm : n2 ≤ 1000000) :
  Calls Tryz.prog 72 #[.agg #[.bool b1, .slice A1 n1 c1], .agg #[.bool b2, .slice A2 n2 c2]] w (RefPost w (x + y) (max n1 n2 + 1)) := by
 by_cases hb : b1 = b2
 ·subst hb
  exact zi3 b1 A1 n1 c1 x A2 n2 c2 y w h1 h2 hn hm
 ·exact zht b1 A1 n1 c1 x b2 A2 n2 c2 y w h1 h2 hb hn hm
theorem zdn (b1 : Bool) (A1 : Option Addr) (n1 c1 : Nat) (x : Int) (b2 : Bool) (A2 : Option Addr) (n2 c2 : Nat) (y : Int) (w : World) (h1 : Rg w b1 A1 n1 c1 x) (h2 : Rg w b2 A2 n2 c2 y) (hn : n1 ≤ 1000000) (hm : n2 ≤ 1000000) :
  Calls Tryz.prog 84 #[.agg #[.bool b1, .slice A1 n1 c1], .agg #[.bool b2, .slice A2 n2 c2]] w (RefPost w (x - y) (max n1 n2 + 1)) := by
 go_enter Tryz.func84, Tryz.ntmps84
 go_wp2
 refine za0 (Q := fun W => Code.wp _ _ _ _ W) ?_
 intro W hl hs k1 k2 k3
 have a1 := k1.evS (gs := [w.heap.size + 1 + 1]) (by simp; try omega) 0 rfl
 have a2 := k1.evS (gs := [w.heap.size + 1 + 1]) (by simp; try omega) (0 + 1) rfl
 have a3 := k2.evS (gs := [w.heap.size + 1 + 1]) (by simp; try omega) 0 rfl
 have a4 := k2.evS (gs := [w.heap.size + 1 + 1]) (by simp; try omega) (0 + 1) rfl
 have L0 := Lat.drew W
 have M0 := L0.s [w.heap.size + 1 + 1]
 go_region_held3 (fun w' => LatS W [w.heap.size + 1 + 1] w') (first | assumption | ((repeat refine LatS.set ?_ (by simp) _); assumption))
  (first
    | (go_at_call 118; refine (zgy b2 A2 n2 c2 y _ (h2.later (hl.trans L0)) hm).mono ?_; rintro e w1 ⟨b, A, n, c, rfl, p1, p2, p3⟩; have L1 := L0.trans p3; have M1 := L1.s [w.heap.size + 1 + 1])
    | (go_at_call 72; refine (zc1 b1 A1 n1 c1 x b A n c (- y) _ (h1.later (hl.trans L1)) p1 hn (by omega)).mono ?_; rintro e w2 ⟨b', A', m, c', rfl, q1, q2, q3⟩; have L2 := L1.trans q3; have M2 := L2.s [w.heap.size + 1 + 1]; have hk3 := k3.later L2; have c0 := hk3.cell 0; have c1' := hk3.cell 1; have f0 := hk3.frozen 0; have f1 := hk3.frozen 1))
 go_wp2
 refine bodyPost_ret (v := .agg #[.bool b', .slice A' m c']) (by simp [results, Tryz.results84, go_sem, c0, c1']) rfl ?_
 exact RefPost.close hk3 q1 (hl.trans L2) (by omega) (by omega)
end Go.Proofs.YtpmbglhbcjbkcaaGreat
