/- Several texts in one: WordsB, WordsC. -/
import Derived.Test.YtpmbglhbcjbkcaaGreatH03
import Derived.Deep.QuietTactic
import Derived.BigQuiet
namespace Go.Proofs.YtpmbglhbcjbkcaaGreat
set_option maxHeartbeats 16000000
set_option maxRecDepth 100000
open Go.RowKit
def zhV : Array Value → Sem Value := fun args => do
 let (x, y, b) ← Extern.MathBitsCarry.three "Sub64" args
 pure (Extern.MathBitsCarry.pair ((x + Extern.MathBitsCarry.m64 - y - b) % Extern.MathBitsCarry.m64) (if x < y + b then 1 else 0))
theorem zgo {P : Program} (x y b : Nat) (hb : b ≤ 1) (w : World) :
  (zhV #[.int .u64 x, .int .u64 y, .int .u64 b]).run P w =
    .ok (.tuple #[.int .u64 (((x + 18446744073709551616 - y - b) % 18446744073709551616 : Nat) : Int), .int .u64 ((if x < y + b then 1 else 0 : Nat) : Int)]) w := by
 have : b = 0 ∨ b = 1 := by omega
 rcases this with rfl | rfl <;> rfl
theorem zdU (x y c : Int) (hx : 0 ≤ x ∧ x < W64) (hy : 0 ≤ y ∧ y < W64) (hc0 : 0 ≤ c) (hc : c ≤ 1) (w : World) :
  (callFunc 123 #[.int .u64 x, .int .u64 y, .int .u64 c]).run Tryz.prog w = .ok (.value (.tuple #[.int .u64 (zgm x y c), .int .u64 (zjU x y c)])) w := by
 obtain ⟨X, rfl⟩ := Int.eq_ofNat_of_zero_le hx.1
 obtain ⟨Y, rfl⟩ := Int.eq_ofNat_of_zero_le hy.1
 obtain ⟨C, rfl⟩ := Int.eq_ofNat_of_zero_le hc0
 rw [run_callFunc_extern Tryz.func123 (by kernel_rfl) (by kernel_rfl) (by kernel_rfl) (e := zhV) (by kernel_rfl), zgo X Y C (by omega)]
 unfold zgm zjU W64 at *
 simp only [Result.andThen]
 have e1 : (((X + 18446744073709551616 - Y - C) % 18446744073709551616 : Nat) : Int) = ((X : Int) - Y - C) % 18446744073709551616 := by omega
 have e2 : ((if X < Y + C then 1 else 0 : Nat) : Int) = if (X : Int) < (Y : Int) + C then 1 else 0 := by split <;> split <;> omega
 rw [e1, e2]
def SubInv (xs ys : List Int) (n k : Nat) (c : Int) (os : List Int) : Prop :=
 (0 ≤ c ∧ c ≤ 1) ∧ os.length = n ∧ InR W64 os ∧ val W64 (os.take k) - W64 ^ k * c = val W64 (xs.take k) - val W64 (ys.take k)
theorem SubInv.start (xs ys : List Int) (n : Nat) : SubInv xs ys n 0 0 (List.replicate n 0) :=
 ⟨by omega, by simp, InR.zeros zaf _, by simp [val]⟩
theorem SubInv.step {xs ys : List Int} {n k : Nat} {c x y : Int} {os : List Int} (h : SubInv xs ys n k c os) (hk : k < n) (hx : xs.getD k 0 = x) (hy : ys.getD k 0 = y)
  (rx : 0 ≤ x ∧ x < W64) (ry : 0 ≤ y ∧ y < W64) : SubInv xs ys n (k + 1) (zjU x y c) (os.set k (zgm x y c)) := by
 obtain ⟨hc, hl, hr, he⟩ := h
 obtain ⟨e, r1, r2⟩ := zgn rx ry hc
 refine ⟨r2, by simpa using hl, hr.set k r1, ?_⟩
 have e1 : (os.set k (zgm x y c)).take k = os.take k := by rw [List.take_set_of_le (Nat.le_refl _)]
 have e2 : (os.set k (zgm x y c)).getD k 0 = zgm x y c := by simp [List.getD_eq_getElem?_getD, hl, show k < n by omega]
 rw [zai, zai, zai, e1, e2, hx, hy, za8]
 have : zgm x y c = x - y - c + W64 * zjU x y c := by omega
 rw [this]
 grind
theorem SubInv.done {xs ys : List Int} {n : Nat} {c : Int} {os : List Int} (h : SubInv xs ys n n c os) (hx : xs.length = n) (hy : ys.length ≤ n) (hle : val W64 ys ≤ val W64 xs) :
  InR W64 os ∧ os.length = n ∧ val W64 os = val W64 xs - val W64 ys := by
 obtain ⟨hc, hl, hr, he⟩ := h
 refine ⟨hr, hl, ?_⟩
 rw [List.take_of_length_le (by omega), List.take_of_length_le (by omega), List.take_of_length_le hy] at he
 have h1 := zcV zaf hr
 rw [hl] at h1
 have h2 := zce zaf n
 have : c = 0 ∨ c = 1 := by omega
 rcases this with rfl | rfl
 ·omega
 ·exfalso
  omega
theorem zdV (A1 : Option Addr) (n1 c1 : Nat) (xs : List Int) (A2 : Option Addr) (n2 c2 : Nat) (ys : List Int) (w : World) (h1 : Sl w .u64 A1 n1 xs) (h2 : Sl w .u64 A2 n2 ys) (hx : InR W64 xs) (hy : InR W64 ys)
  (hz2 : n2 ≤ n1) (hle : val W64 ys ≤ val W64 xs) (hn : n1 ≤ 1000000) :
  Calls Tryz.prog 102 #[.slice A1 n1 c1, .slice A2 n2 c2] w (zcf w (val W64 xs - val W64 ys) n1) := by
 have hmk := zav (P := Tryz.prog) Tryz.underlying86 zbP (n1 : Int) n1 rfl (by omega) (by omega)
 have HLE := Lib.hid hle
 clear hle
 go_enter Tryz.func102, Tryz.ntmps102
 go_wp2
 clear hmk
 refine zas (Q := fun W => Code.wp _ _ _ _ W) ?_
 intro W hl hs hb
 go_loopw [6, 15] (fun cy i wr => ∃ (k : Nat) (c : Int) (os : List Int), k ≤ n1 ∧ i = .int .i64 k ∧ cy = .int .u64 c ∧ SubInv xs ys n1 k c os ∧ Lat w wr ∧ Blk wr w.heap.size 36 (nums .u64 os)) (fun _ i _ => n1 - (intOf i).toNat)
 case atStart => exact ⟨0, 0, _, Nat.zero_le _, rfl, rfl, SubInv.start xs ys n1, hl, hb⟩
 case round =>
  obtain ⟨k, c, os, hk, rfl, rfl, hinv, hlr, hbr⟩ := hrel
  have hc0 := hinv.1.1
  have hc1 := hinv.1.2
  have hlen := hinv.2.1
  by_cases hlt : k < n1
  ·obtain ⟨a, x, rfl, ha, hxk, hcell⟩ := (h1.later hlr).at hlt
   obtain ⟨o, _, ho, hfo⟩ := hbr.slot (i := k) (by omega)
   have hrx := hx.at hxk
   have hgx : Hid (xs.getD k 0 = x) := by rw [List.getD_eq_getElem?_getD, hxk]; rfl
   clear hxk
   have HL := Lib.hid hlen
   clear hlen
   by_cases hlt2 : k < n2
   ·obtain ⟨a', y, rfl, ha', hyk, hcell2⟩ := (h2.later hlr).at hlt2
    have hry := hy.at hyk
    have hgy : Hid (ys.getD k 0 = y) := by rw [List.getD_eq_getElem?_getD, hyk]; rfl
    clear hyk
    have hadd := zdU x y c hrx hry hc0 hc1
    go_wp2
    go_roundw
    case rel => exact ⟨k + 1, _, _, by omega, by go_num, rfl, hinv.step hlt hgx.out hgy.out hrx hry, hlr.setCell (Nat.le_refl _) _, hbr.put k _⟩
    case measure => simp [intOf]; omega
   ·have hy0 : Hid (ys.getD k 0 = 0) := by rw [List.getD_eq_getElem?_getD, List.getElem?_eq_none (by have := h2.1; omega)]; rfl
    have hadd := zdU x 0 c hrx ⟨Int.le_refl _, zaf⟩ hc0 hc1
    go_wp2
    go_roundw
    case rel => exact ⟨k + 1, _, _, by omega, by go_num, rfl, hinv.step hlt hgx.out hy0.out hrx ⟨Int.le_refl _, zaf⟩, hlr.setCell (Nat.le_refl _) _, hbr.put k _⟩
    case measure => simp [intOf]; omega
  ·obtain rfl : k = n1 := by omega
   obtain ⟨r1, r2, r3⟩ := hinv.done h1.1 (by have := h2.1; omega) HLE.out
   have R2 := Lib.hid r2
   have R3 := Lib.hid r3
   clear r2 r3 hlen
   go_wp2
   go_ret
   exact ⟨_, _, _, _, rfl, Sl.of_blk' hbr R2.out, r1, R3.out, Nat.le_refl _, Nat.le_refl _, hlr, fun _ e => by cases e; exact Nat.le_refl _⟩
theorem zch (A1 : Option Addr) (n1 c1 : Nat) (xs : List Int) (A2 : Option Addr) (n2 c2 : Nat) (ys : List Int) (w : World) (h1 : Sl w .u64 A1 n1 xs) (h2 : Sl w .u64 A2 n2 ys) (hx : InR W64 xs) (hy : InR W64 ys)
  (zx : Nz xs) (zy : Nz ys) (hn : n1 ≤ 1000000) (hm : n2 ≤ 1000000) :
  Calls Tryz.prog 101 #[.slice A1 n1 c1, .slice A2 n2 c2] w (CmpPost w (val W64 xs) (val W64 ys)) := by
 by_cases hne : n1 = n2
 ·subst hne
  have hEQ : ((n1 : Int) != n1) = false := by simp
  go_enter Tryz.func101, Tryz.ntmps101
  go_wp2
  go_loopw [5] (fun i wr => ∃ k : Nat, k ≤ n1 ∧ i = .int .i64 ((k : Int) - 1) ∧ Lat w wr ∧ Hid (xs.drop k = ys.drop k)) (fun i _ => (intOf i + 1).toNat)
  case atStart => exact ⟨n1, Nat.le_refl _, rfl, Lat.refl _, by show _ = _; rw [List.drop_of_length_le (by have := h1.1; omega), List.drop_of_length_le (by have := h2.1; omega)]⟩
  case round =>
   obtain ⟨k, hk, rfl, hlr, hd⟩ := hrel
   rcases Nat.eq_zero_or_pos k with rfl | hp
   ·have he : Hid (xs = ys) := by have := hd.out; show _ = _; simpa using this
    go_wp2
    go_ret
    exact ⟨0, rfl, fun h => by rw [he.out] at h; omega, fun _ => rfl, fun h => by rw [he.out] at h; omega, by omega, hlr⟩
   ·obtain ⟨j, rfl⟩ : ∃ j, k = j + 1 := ⟨k - 1, by omega⟩
    obtain ⟨a, x, rfl, ha, hxk, hcell⟩ := (h1.later hlr).at (i := j) (by omega)
    obtain ⟨a', y, rfl, ha', hyk, hcell2⟩ := (h2.later hlr).at (i := j) (by omega)
    have HLT : Hid (x < y → val W64 xs < val W64 ys) := fun h => zaO zaf hx hy hxk hyk hd.out h
    have HGT : Hid (y < x → val W64 ys < val W64 xs) := fun h => zaO zaf hy hx hyk hxk hd.out.symm h
    have HEQ : Hid (x = y → xs.drop j = ys.drop j) := fun h => zdT hxk hyk h hd.out
    clear hxk hyk hd
    have b1 : (j : Int) < (n1 : Int) := by omega
    have b0 : (0 : Int) ≤ (j : Int) := by omega
    have ej : (((j + 1 : Nat) : Int) - 1) = (j : Int) := by omega
    rw [ej]
    clear ej
    go_wp2
    go_quiet (fail)
    go_wp2
    ·have hxy : x < y := by assumption
     have := HLT.out hxy
     go_ret
     exact ⟨-1, rfl, fun _ => by omega, fun h => by omega, fun h => by omega, by omega, hlr.trans (Lat.drewN _ _)⟩
    ·have hxy : y ≤ x := by assumption
     go_quiet (fail)
     go_wp2
     ·have hyx : y < x := by assumption
      have := HGT.out hyx
      go_ret
      exact ⟨1, rfl, fun h => by omega, fun h => by omega, fun _ => by omega, by omega, (hlr.trans (Lat.drewN _ _)).trans (Lat.drewN _ _)⟩
     ·go_roundw
      case rel => exact ⟨j, by omega, rfl, hlr.trans (Lat.drewN _ _), HEQ.out (by omega)⟩
      case measure => simp [intOf]
 ·have hNE : ((n1 : Int) != n2) = true := by rw [bne_iff_ne]; omega
  go_enter Tryz.func101, Tryz.ntmps101
  go_wp2
  go_ret
  rcases Nat.lt_or_ge n1 n2 with h | h
  ·have := zaz zaf hx hy zy (by rw [h1.1, h2.1]; exact h)
   exact ⟨_, rfl, fun _ => by omega, fun _ => by omega, fun _ => by omega, by omega, Lat.refl _⟩
  ·have := zaz zaf hy hx zx (by rw [h1.1, h2.1]; omega)
   exact ⟨_, rfl, fun _ => by omega, fun _ => by omega, fun _ => by omega, by omega, Lat.refl _⟩
theorem ze2 {below : Bool} {A : Option Addr} {n c : Nat} {w wf : World} {xs : List Int} (hs : Sl w .u64 A n xs) (hr : InR W64 xs) (hc : n ≤ c) (hl : Lat w wf) (k : Nat) (hk : zbg xs n = k) (b : Bool) (hb : b = (below && decide (0 < k))) :
  LongAt w A c (sgn below (val W64 xs)) n (.returned (.agg #[.bool b, .slice A k c])) wf := by
 subst hk hb
 have hlx := hs.1
 have hle := zhS xs n
 have hv : val W64 (xs.take (zbg xs n)) = val W64 xs := by rw [zgl, List.take_of_length_le (by omega)]
 have hz := zhT xs n (by omega)
 have h0 : zbg xs n = 0 → val W64 xs = 0 := fun h => by rw [← hv, h]; rfl
 refine ⟨_, _, rfl, ⟨Nat.le_trans hle hc, _, (hs.later hl).take hle, hr.take _, hz, ?_, ?_⟩, hle, hl⟩
 ·intro hb e
  have := congrArg List.length e
  simp only [List.length_take, List.length_nil] at this
  simp at hb
  omega
 ·rw [hv]
  cases below with
  | false => rfl
  | true =>
    rcases Nat.eq_zero_or_pos (zbg xs n) with h | h
    ·rw [h0 h]; simp [sgn]
    ·simp [h]
theorem zaI (below : Bool) (A : Option Addr) (n c : Nat) (w : World) (xs : List Int) (hs : Sl w .u64 A n xs) (hr : InR W64 xs) (hc : n ≤ c) (hn : n ≤ 3000000) :
  Calls Tryz.prog 99 #[.bool below, .slice A n c] w (LongAt w A c (sgn below (val W64 xs)) n) := by
 go_enter Tryz.func99, Tryz.ntmps99
 go_wp2
 refine zas (Q := fun W => Code.wp _ _ _ _ W) ?_
 intro W hl hsz hb
 go_loopw [5] (fun t wr => ∃ k : Nat, k ≤ n ∧ t = .int .i64 k ∧ Hid (zbg xs n = zbg xs k) ∧ W = wr) (fun t _ => (intOf t).toNat)
 case atStart => exact ⟨n, Nat.le_refl _, rfl, rfl, rfl⟩
 case round =>
  obtain ⟨k, hk, rfl, ht, rfl⟩ := hrel
  have c0 := hb.cell 0
  have c1 := hb.cell 1
  have f0 := hb.frozen 0
  have f1 := hb.frozen 1
  have hlf : ∀ (u v : Value), Hid (Lat w ((W.setCell ⟨w.heap.size, 0, none⟩ u).setCell ⟨w.heap.size, 0 + 1, none⟩ v)) := fun u v => (hl.setCell (p := ⟨w.heap.size, 0, none⟩) (Nat.le_refl _) u).setCell (p := ⟨w.heap.size, 0 + 1, none⟩) (Nat.le_refl _) v
  rcases Nat.eq_zero_or_pos k with rfl | hp
  ·cases below
   all_goals
    go_wp2
    refine bodyPost_ret (v := .agg #[.bool false, .slice A 0 c]) (by simp [results, Tryz.results99, go_sem, c0, c1]) rfl ?_
    exact ze2 hs hr hc (hlf _ _).out 0 ht.out _ rfl
  ·obtain ⟨j, rfl⟩ : ∃ j, k = j + 1 := ⟨k - 1, by omega⟩
   obtain ⟨a, x, rfl, ha, hxk, hcell⟩ := (hs.later hl).at (i := j) (by omega)
   have HX := Lib.hid hxk
   clear hxk
   by_cases hx0 : x = 0
   ·have hz : Hid (zbg xs (j + 1) = zbg xs j) := ze0 xs j (by rw [HX.out, hx0])
    subst hx0
    go_wp2
    go_roundw
    case rel => exact ⟨j, by omega, rfl, ht.out.trans hz.out, trivial⟩
    case measure => simp [intOf]
   ·have hz : Hid (zbg xs (j + 1) = j + 1) := ze1 xs j (by rw [HX.out]; intro e; injection e with e; exact hx0 e)
    have hx1 : ((x : Int) == 0) = false := by simp [hx0]
    clear hx0
    cases below
    all_goals
     go_wp2
     refine bodyPost_ret (v := .agg #[.bool _, .slice (some a) (j + 1) c]) (by simp [results, Tryz.results99, go_sem, c0, c1]; rfl) rfl ?_
     exact ze2 hs hr hc (hlf _ _).out (j + 1) (ht.out.trans hz.out) _ (by simp)
def ze3 (x y : Int) : Int := x * y / W64
def zcX (x y : Int) : Int := x * y % W64
theorem zmQ {x y : Int} (hx : 0 ≤ x ∧ x < W64) (hy : 0 ≤ y ∧ y < W64) : 0 ≤ x * y ∧ x * y ≤ (W64 - 1) * (W64 - 1) := by
 refine ⟨Int.mul_nonneg hx.1 hy.1, ?_⟩
 have h1 := Int.mul_le_mul_of_nonneg_left (show y ≤ W64 - 1 by omega) hx.1
 have h2 := Int.mul_le_mul_of_nonneg_right (show x ≤ W64 - 1 by omega) (show 0 ≤ W64 - 1 by decide)
 omega
theorem zci {x y : Int} (hx : 0 ≤ x ∧ x < W64) (hy : 0 ≤ y ∧ y < W64) : zcX x y + W64 * ze3 x y = x * y ∧ (0 ≤ zcX x y ∧ zcX x y < W64) ∧ 0 ≤ ze3 x y ∧ ze3 x y < W64 := by
 obtain ⟨h1, h2⟩ := zmQ hx hy
 unfold zcX ze3
 have := Int.emod_add_mul_ediv (x * y) W64
 have a := Int.emod_nonneg (x * y) (show W64 ≠ 0 by decide)
 have b := Int.emod_lt_of_pos (x * y) zaf
 unfold W64 at *
 omega
theorem zgp (x y : Int) (hx : 0 ≤ x ∧ x < W64) (hy : 0 ≤ y ∧ y < W64) (w : World) :
  Calls Tryz.prog 124 #[.int .u64 x, .int .u64 y] w fun e w' => e = .returned (.tuple #[.int .u64 (ze3 x y), .int .u64 (zcX x y)]) ∧ w = w' := by
 obtain ⟨X, rfl⟩ := Int.eq_ofNat_of_zero_le hx.1
 obtain ⟨Y, rfl⟩ := Int.eq_ofNat_of_zero_le hy.1
 unfold W64 at hx hy
 refine (Tryz.bits_Mul64 X Y (by omega) (by omega) w).mono ?_
 rintro e w' ⟨rfl, rfl⟩
 refine ⟨?_, rfl⟩
 unfold ze3 zcX W64
 rw [Int.natCast_ediv, Int.natCast_emod, Int.natCast_mul]
 rfl
def stepW (o x y c : Int) : Int := zeS (zeS o (zcX x y) 0) c 0
def zfz (o x y c : Int) : Int := ze3 x y + zhj o (zcX x y) 0 + zhj (zeS o (zcX x y) 0) c 0
theorem ze4 {o x y c : Int} (ho : 0 ≤ o ∧ o < W64) (hx : 0 ≤ x ∧ x < W64) (hy : 0 ≤ y ∧ y < W64) (hc : 0 ≤ c ∧ c < W64) :
  stepW o x y c + W64 * zfz o x y c = o + x * y + c ∧ (0 ≤ stepW o x y c ∧ stepW o x y c < W64) ∧ 0 ≤ zfz o x y c ∧ zfz o x y c < W64 := by
 obtain ⟨m1, m2, m3⟩ := zci hx hy
 obtain ⟨a1, a2, a3⟩ := zbE ho m2 (c := 0) (by omega)
 obtain ⟨b1, b2, b3⟩ := zbE a2 hc (c := 0) (by omega)
 have hm := zmQ hx hy
 unfold stepW zfz
 generalize zeS (zeS o (zcX x y) 0) c 0 = s2 at *
 generalize zhj (zeS o (zcX x y) 0) c 0 = d2 at *
 generalize zeS o (zcX x y) 0 = s1 at *
 generalize zhj o (zcX x y) 0 = d1 at *
 generalize zcX x y = l at *
 generalize ze3 x y = h at *
 generalize x * y = p at *
 unfold W64 at *
 omega
def MulInv (xs ys : List Int) (n1 n2 i : Nat) (os : List Int) : Prop :=
 os.length = n1 + n2 ∧ InR W64 os ∧ val W64 os = val W64 (xs.take i) * val W64 ys ∧ ∀ j, i + n2 ≤ j → os.getD j 0 = 0
def MulIn (xs ys : List Int) (n1 n2 i : Nat) (x : Int) (j : Nat) (c : Int) (os : List Int) : Prop :=
 os.length = n1 + n2 ∧ InR W64 os ∧ (0 ≤ c ∧ c < W64) ∧ val W64 os + W64 ^ (i + j) * c = val W64 (xs.take i) * val W64 ys + W64 ^ i * (x * val W64 (ys.take j)) ∧ ∀ j, i + n2 ≤ j → os.getD j 0 = 0
theorem MulInv.start (xs ys : List Int) (n1 n2 : Nat) : MulInv xs ys n1 n2 0 (List.replicate (n1 + n2) 0) := by
 refine ⟨by simp, InR.zeros zaf _, by rw [zbd]; simp [val], fun j _ => ?_⟩
 rw [List.getD_eq_getElem?_getD, List.getElem?_replicate]
 split <;> rfl
theorem MulInv.open_ {xs ys : List Int} {n1 n2 i : Nat} {os : List Int} (h : MulInv xs ys n1 n2 i os) (x : Int) : MulIn xs ys n1 n2 i x 0 0 os :=
 ⟨h.1, h.2.1, ⟨Int.le_refl _, zaf⟩, by rw [h.2.2.1]; simp [val], h.2.2.2⟩
theorem MulIn.step {xs ys : List Int} {n1 n2 i j : Nat} {x y o c : Int} {os : List Int} (h : MulIn xs ys n1 n2 i x j c os) (hi : i < n1) (hj : j < n2) (hx : 0 ≤ x ∧ x < W64) (hyj : ys.getD j 0 = y) (hy : 0 ≤ y ∧ y < W64) (ho : os.getD (i + j) 0 = o) :
  MulIn xs ys n1 n2 i x (j + 1) (zfz o x y c) (os.set (i + j) (stepW o x y c)) := by
 obtain ⟨hl, hr, hc, he, hz⟩ := h
 have hro : 0 ≤ o ∧ o < W64 := by rw [← ho]; exact hr.getD zaf _
 obtain ⟨e, r1, r2⟩ := ze4 hro hx hy hc
 refine ⟨by simpa using hl, hr.set _ r1, r2, ?_, fun k hk => ?_⟩
 ·rw [zbD _ _ _ _ (by omega), ho, zai, hyj, ← Nat.add_assoc, za8]
  have : stepW o x y c = o + x * y + c - W64 * zfz o x y c := by omega
  rw [this]
  rw [zeY] at he ⊢
  grind
 ·rw [List.getD_eq_getElem?_getD, List.getElem?_set_ne (by omega), ← List.getD_eq_getElem?_getD]
  exact hz k hk
theorem MulIn.close {xs ys : List Int} {n1 n2 i : Nat} {x c : Int} {os : List Int} (h : MulIn xs ys n1 n2 i x n2 c os) (hi : i < n1) (hy : ys.length = n2) (hx : xs.getD i 0 = x) : MulInv xs ys n1 n2 (i + 1) (os.set (i + n2) c) := by
 obtain ⟨hl, hr, hc, he, hz⟩ := h
 refine ⟨by simpa using hl, hr.set _ hc, ?_, fun k hk => ?_⟩
 ·rw [zbD _ _ _ _ (by omega), hz _ (Nat.le_refl _), zai, hx]
  have e : ys.take n2 = ys := List.take_of_length_le (by omega)
  rw [e] at he
  generalize val W64 os = p at *
  generalize val W64 (xs.take i) = q at *
  generalize val W64 ys = r at *
  generalize W64 ^ (i + n2) = t at *
  generalize W64 ^ i = u at *
  clear hz hr hl hy hx e
  grind
 ·rw [List.getD_eq_getElem?_getD, List.getElem?_set_ne (by omega), ← List.getD_eq_getElem?_getD]
  exact hz k (by omega)
theorem wrap_u64 {x : Int} (h0 : 0 ≤ x) (h1 : x < W64) : IntKind.u64.wrap x = x := by
 unfold W64 at h1
 exact IntWalk.u64_in _ (by omega)
theorem ziV {o x y c : Int} (ho : 0 ≤ o ∧ o < W64) (hx : 0 ≤ x ∧ x < W64) (hy : 0 ≤ y ∧ y < W64) (hc : 0 ≤ c ∧ c < W64) :
  IntKind.u64.wrap (IntKind.u64.wrap (ze3 x y + zhj o (zcX x y) 0) + zhj (zeS o (zcX x y) 0) c 0) = zfz o x y c := by
 obtain ⟨m1, m2, m3⟩ := zci hx hy
 obtain ⟨a1, a2, a3⟩ := zbE ho m2 (c := 0) (by omega)
 obtain ⟨b1, b2, b3⟩ := zbE a2 hc (c := 0) (by omega)
 have h := ze4 ho hx hy hc
 unfold zfz at h ⊢
 rw [wrap_u64 (x := ze3 x y + zhj o (zcX x y) 0) (by omega) (by omega), wrap_u64 (by omega) (by omega)]
theorem zeT (A1 : Option Addr) (n1 c1 : Nat) (xs : List Int) (A2 : Option Addr) (n2 c2 : Nat) (ys : List Int) (w : World) (h1 : Sl w .u64 A1 n1 xs) (h2 : Sl w .u64 A2 n2 ys) (hx : InR W64 xs) (hy : InR W64 ys)
  (hn : n1 ≤ 1000000) (hm : n2 ≤ 1000000) :
  Calls Tryz.prog 103 #[.slice A1 n1 c1, .slice A2 n2 c2] w (zcf w (val W64 xs * val W64 ys) (n1 + n2)) := by
 have hmk := zav (P := Tryz.prog) Tryz.underlying86 zbP ((n1 : Int) + n2) (n1 + n2) (by omega) (by omega) (by omega)
 go_enter Tryz.func103, Tryz.ntmps103
 go_wp2
 clear hmk
 refine zas (Q := fun W => Code.wp _ _ _ _ W) ?_
 intro W hl hs hb
 go_loopw [24] (fun i wr => ∃ (k : Nat) (os : List Int), k ≤ n1 ∧ i = .int .i64 k ∧ MulInv xs ys n1 n2 k os ∧ Lat w wr ∧ Blk wr w.heap.size 36 (nums .u64 os)) (fun i _ => n1 - (intOf i).toNat)
 case atStart => exact ⟨0, _, Nat.zero_le _, rfl, MulInv.start xs ys n1 n2, hl, hb⟩
 case round =>
  obtain ⟨k, os, hk, rfl, hinv, hlr, hbr⟩ := hrel
  clear hl hb hs
  by_cases hlt : k < n1
  ·obtain ⟨a, x, rfl, ha, hxk, hcell⟩ := (h1.later hlr).at hlt
   have hrx := hx.at hxk
   have hgx : Hid (xs.getD k 0 = x) := by rw [List.getD_eq_getElem?_getD, hxk]; rfl
   clear hxk
   have hin := hinv.open_ x
   clear hinv
   obtain ⟨wo, rfl⟩ : ∃ wo : World, wo = wr := ⟨_, rfl⟩
   go_wp2
   go_loopw [8, 31] (fun cy j wr => ∃ (m : Nat) (c : Int) (os : List Int), m ≤ n2 ∧ j = .int .i64 m ∧ cy = .int .u64 c ∧ MulIn xs ys n1 n2 k x m c os ∧ Lat w wr ∧ Blk wr w.heap.size 36 (nums .u64 os)) (fun _ j _ => n2 - (intOf j).toNat)
   case atStart => exact ⟨0, 0, os, Nat.zero_le _, rfl, rfl, hin, hlr, hbr⟩
   case round =>
    clear hin hlr hbr hcell ha os
    obtain ⟨m, c, os, hm', rfl, rfl, hin, hlr, hbr⟩ := hrel
    have hlen := Lib.hid hin.1
    by_cases hlt2 : m < n2
    ·obtain ⟨a', y, rfl, ha', hyk, hcell2⟩ := (h2.later hlr).at hlt2
     have hry := hy.at hyk
     have hgy : Hid (ys.getD m 0 = y) := by rw [List.getD_eq_getElem?_getD, hyk]; rfl
     clear hyk
     obtain ⟨o, hoo, ho, hfo⟩ := hbr.slot (i := k + m) (by have := hlen.out; omega)
     have hgo : Hid (os.getD (k + m) 0 = o) := by rw [List.getD_eq_getElem?_getD, hoo]; rfl
     have hro := hin.2.1.at hoo
     clear hoo
     obtain ⟨m1, m2, m3⟩ := zci hrx hry
     obtain ⟨p1, p2, p3⟩ := zbE hro m2 (c := 0) (by omega)
     obtain ⟨q1, q2, q3⟩ := zbE p2 hin.2.2.1 (c := 0) (by omega)
     have hadd1 := zbv o (zcX x y) 0 hro.1 m2.1 (by omega) (by omega)
     have hadd2 := zbv (zeS o (zcX x y) 0) c 0 p2.1 hin.2.2.1.1 (by omega) (by omega)
     have hC := Lib.hid (ziV hro hrx hry hin.2.2.1)
     clear m1 m2 p1 p2 q1 q2 m3 p3 q3
     go_wp2_with (go_at_call 124; refine (zgp x y hrx hry _).mono ?_; rintro e w' ⟨rfl, rfl⟩)
     go_roundw
     case rel => exact ⟨m + 1, zfz o x y c, _, by omega, by go_num, by rw [hC.out], hin.step hlt hlt2 hrx hgy.out hry hgo.out, hlr.setCell (Nat.le_refl _) _, hbr.put (k + m) _⟩
     case measure => simp [intOf]; omega
    ·obtain rfl : m = n2 := by omega
     obtain ⟨o, _, ho, hfo⟩ := hbr.slot (i := k + m) (by have := hlen.out; omega)
     have hcl := hin.close hlt h2.1 hgx.out
     clear hin
     go_wp2
     go_roundw
     case rel => exact ⟨k + 1, _, by omega, by go_num, hcl, hlr.setCell (Nat.le_refl _) _, hbr.put (k + m) _⟩
     case measure => simp [intOf]; omega
  ·obtain rfl : k = n1 := by omega
   obtain ⟨r1, r2, r3, _⟩ := hinv
   rw [List.take_of_length_le (by have := h1.1; omega)] at r3
   have R1 := Lib.hid r1
   have R3 := Lib.hid r3
   clear r1 r3
   go_wp2
   go_ret
   exact ⟨_, _, _, _, rfl, Sl.of_blk' hbr R1.out, r2, R3.out, Nat.le_refl _, Nat.le_refl _, hlr, fun _ e => by cases e; exact Nat.le_refl _⟩
end Go.Proofs.YtpmbglhbcjbkcaaGreat
