/- Several texts in one: WordsD, WordsE, DivMath. -/
import Derived.Test.YtpmbglhbcjbkcaaGreatH04
import Derived.Deep.RegionHeld3
import Derived.StillTailTactics
namespace Go.Proofs.YtpmbglhbcjbkcaaGreat
set_option maxHeartbeats 16000000
set_option maxRecDepth 100000
open Go.RowKit
theorem zfA (f x : Nat) (h : x < 2 ^ f) : x < 2 ^ Lib.bitLenAux f x ∧ Lib.bitLenAux f x ≤ f ∧ (x ≠ 0 → 0 < Lib.bitLenAux f x ∧ 2 ^ (Lib.bitLenAux f x - 1) ≤ x) := by
 induction f generalizing x with
 | zero =>
   have : x = 0 := by simpa using h
   subst this
   simp [Lib.bitLenAux]
 | succ f ih =>
   rw [Lib.bitLenAux]
   split
   ·rename_i h0
    subst h0
    simp
   ·rename_i h0
    have h2 : x / 2 < 2 ^ f := by rw [Nat.pow_succ] at h; omega
    obtain ⟨a, b, c⟩ := ih (x / 2) h2
    have e : 1 + Lib.bitLenAux f (x / 2) = Lib.bitLenAux f (x / 2) + 1 := by omega
    refine ⟨?_, by omega, fun _ => ⟨by omega, ?_⟩⟩
    ·rw [e, Nat.pow_succ]; omega
    ·rw [e, Nat.add_sub_cancel]
     by_cases hh : x / 2 = 0
     ·rw [hh] at a ⊢
      have : Lib.bitLenAux f 0 = 0 := by cases f <;> simp [Lib.bitLenAux]
      rw [this]; simp; omega
     ·obtain ⟨c1, c2⟩ := c hh
      obtain ⟨m, hm⟩ : ∃ m, Lib.bitLenAux f (x / 2) = m + 1 := ⟨_, (Nat.sub_add_cancel c1).symm⟩
      rw [hm] at c2 ⊢
      rw [Nat.add_sub_cancel] at c2
      rw [Nat.pow_succ]; omega
def bitsOf (x : Int) : Nat := Lib.bitLen x.toNat
theorem zbL {x : Int} (h : 0 ≤ x ∧ x < W64) : x < 2 ^ bitsOf x ∧ bitsOf x ≤ 64 ∧ (x ≠ 0 → 0 < bitsOf x ∧ 2 ^ (bitsOf x - 1) ≤ x) := by
 obtain ⟨X, rfl⟩ := Int.eq_ofNat_of_zero_le h.1
 unfold W64 at h
 obtain ⟨a, b, c⟩ := zfA 64 X (by omega)
 unfold bitsOf Lib.bitLen
 simp only [Int.toNat_natCast]
 refine ⟨by exact_mod_cast a, b, fun h0 => ?_⟩
 obtain ⟨c1, c2⟩ := c (by omega)
 exact ⟨c1, by exact_mod_cast c2⟩
theorem zhW (x : Int) (h : 0 ≤ x ∧ x < W64) (w : World) : Calls Tryz.prog 131 #[.int .u64 x] w fun e w' => e = .returned (.int .i64 (64 - (bitsOf x : Int))) ∧ w = w' :=
 (Tryz.bits_LeadingZeros64 x w h.1 (by unfold W64 at h; omega)).mono fun _ _ ⟨h1, h2⟩ => ⟨h1, h2.symm⟩
def LenIs (xs : List Int) (l : Nat) : Prop := val W64 xs < 2 ^ l ∧ (xs ≠ [] → 0 < l ∧ 2 ^ (l - 1) ≤ val W64 xs) ∧ l ≤ 64 * xs.length ∧ (xs = [] → l = 0)
theorem zdW (n : Nat) : W64 ^ n = 2 ^ (64 * n) := by
 rw [Int.pow_mul]; rfl
theorem LenIs.of_last {xs : List Int} {m : Nat} {x : Int} (hl : xs.length = m + 1) (hx : xs[m]? = some x) (hr : InR W64 xs) (hz : Nz xs) : LenIs xs (64 * m + bitsOf x) := by
 have hx0 : x ≠ 0 := by
  intro e
  apply hz
  rw [List.getLast?_eq_getElem?, hl, Nat.add_sub_cancel, hx, e]
 obtain ⟨a, b, c⟩ := zbL (hr.at hx)
 obtain ⟨c1, c2⟩ := c hx0
 have hv : val W64 xs = val W64 (xs.take m) + W64 ^ m * x := by
  have := zai W64 xs m
  rw [List.take_of_length_le (by omega), List.getD_eq_getElem?_getD, hx] at this
  exact this
 have hlt := zcV zaf (hr.take m)
 rw [List.length_take, Nat.min_eq_left (by omega)] at hlt
 have h0 := zaj zaf (hr.take m)
 have hp := zce zaf m
 refine ⟨?_, fun _ => ⟨by omega, ?_⟩, by omega, fun e => by simp [e] at hl⟩
 ·rw [hv, Int.pow_add, ← zdW]
  have := Int.mul_le_mul_of_nonneg_left (show x + 1 ≤ 2 ^ bitsOf x by omega) (Int.le_of_lt hp)
  rw [Int.mul_add] at this
  omega
 ·have e : 64 * m + bitsOf x - 1 = 64 * m + (bitsOf x - 1) := by omega
  rw [hv, e, Int.pow_add, ← zdW]
  have := Int.mul_le_mul_of_nonneg_left c2 (Int.le_of_lt hp)
  omega
def zng (w : World) (xs : List Int) (e : Ending) (w' : World) : Prop := ∃ l : Nat, e = .returned (.int .i64 l) ∧ LenIs xs l ∧ w = w'
theorem zdl (A1 : Option Addr) (n1 c1 : Nat) (xs : List Int) (w : World) (h1 : Sl w .u64 A1 n1 xs) (hx : InR W64 xs) (hz : Nz xs) (hn : n1 ≤ 3000000) :
  Calls Tryz.prog 113 #[.slice A1 n1 c1] w (zng w xs) := by
 rcases Nat.eq_zero_or_pos n1 with rfl | hp
 ·go_enter Tryz.func113, Tryz.ntmps113
  go_wp2
  go_ret
  have := List.eq_nil_of_length_eq_zero h1.1
  subst this
  exact ⟨0, rfl, ⟨by simp [val], fun h => absurd rfl h, by simp, fun _ => rfl⟩, rfl⟩
 ·obtain ⟨m, rfl⟩ : ∃ m, n1 = m + 1 := ⟨n1 - 1, by omega⟩
  obtain ⟨a, x, rfl, ha, hxk, hcell⟩ := h1.at (i := m) (by omega)
  have hrx := hx.at hxk
  have HL := Lib.hid (LenIs.of_last h1.1 hxk hx hz)
  have hb := (zbL hrx).2.1
  clear hxk
  have hne : (((m + 1 : Nat) : Int) == 0) = false := by simp; omega
  go_enter Tryz.func113, Tryz.ntmps113
  go_wp2_with (go_at_call 131; refine (zhW x hrx _).mono ?_; rintro e w' ⟨rfl, rfl⟩)
  go_ret
  exact ⟨_, znf (by omega), HL.out, rfl⟩
theorem zhm (b : Bool) (A : Option Addr) (n c : Nat) (W : World) : (Instr.field 88 (.agg #[.bool b, .slice A n c]) 0).run Tryz.prog W = .ok (.bool b) W := by kernel_rfl
theorem zhn (b : Bool) (A : Option Addr) (n c : Nat) (W : World) : (Instr.field 88 (.agg #[.bool b, .slice A n c]) 1).run Tryz.prog W = .ok (.slice A n c) W := by kernel_rfl
attribute [go_sem] zhm zhn
theorem zho {o x : Int} {r : Nat} (hr : r < 64) (ho : 0 ≤ o ∧ o < 2 ^ r) (hx : 0 ≤ x ∧ x < W64) :
  bits .or .u64 o (IntKind.u64.wrap (x * 2 ^ r)) = o + zcg x r ∧ 0 ≤ o + zcg x r ∧ o + zcg x r < W64 := by
 obtain ⟨_, h2, ⟨b, hb, e⟩, _⟩ := zcF hx hr
 have hW : W64 = 2 ^ r * 2 ^ (64 - r) := by
  rw [← Int.pow_add, show r + (64 - r) = 64 by omega]; rfl
 have p1 := two_pow_pos r
 have e2 : IntKind.u64.wrap (x * 2 ^ r) = zcg x r := zbu _
 rw [e] at h2
 rw [e2, e]
 refine ⟨zcE (by omega) ho hb h2.2, by omega, ?_⟩
 have hbq : b < 2 ^ (64 - r) := by
  rw [hW] at h2
  exact Int.lt_of_mul_lt_mul_left h2.2 (Int.le_of_lt p1)
 have := Int.mul_le_mul_of_nonneg_left (show b + 1 ≤ 2 ^ (64 - r) by omega) (Int.le_of_lt p1)
 rw [← hW, Int.mul_add] at this
 omega
def MovInv (xs : List Int) (n q r k : Nat) (os : List Int) : Prop :=
 os.length = n + q + 1 ∧ InR W64 os ∧ val W64 os = val W64 (xs.take k) * 2 ^ r * W64 ^ q ∧ os.getD (k + q) 0 < 2 ^ r ∧ ∀ j, k + q < j → os.getD j 0 = 0
theorem MovInv.start (xs : List Int) (n q r : Nat) : MovInv xs n q r 0 (List.replicate (n + q + 1) 0) := by
 have hz : ∀ j, (List.replicate (n + q + 1) (0 : Int)).getD j 0 = 0 := by
  intro j
  rw [List.getD_eq_getElem?_getD, List.getElem?_replicate]
  split <;> rfl
 exact ⟨by simp, InR.zeros zaf _, by rw [zbd]; simp [val], by rw [hz]; exact two_pow_pos r, fun j _ => hz j⟩
theorem MovInv.stepR {xs : List Int} {n q r k : Nat} {x o : Int} {os : List Int} (h : MovInv xs n q r k os) (hk : k < n) (hr : r < 64) (hx : 0 ≤ x ∧ x < W64) (hxk : xs.getD k 0 = x) (hok : os.getD (k + q) 0 = o) :
  MovInv xs n q r (k + 1) ((os.set (k + q) (o + zcg x r)).set (k + q + 1) (zfy x (64 - r))) := by
 obtain ⟨hl, hi, hv, ho, hz⟩ := h
 have hro : 0 ≤ o ∧ o < 2 ^ r := by rw [← hok]; exact ⟨(hi.getD zaf _).1, ho⟩
 obtain ⟨_, w0, w1⟩ := zho hr hro hx
 obtain ⟨f1, f2, _, f3, f4⟩ := zcF hx hr
 have hshr : zfy x (64 - r) < W64 := by
  refine Int.lt_of_lt_of_le f4 ?_
  have : (2 : Int) ^ r ≤ 2 ^ 64 := zdS (by decide) (by omega)
  exact this
 refine ⟨by simpa using hl, (hi.set _ ⟨w0, w1⟩).set _ ⟨f3, hshr⟩, ?_, ?_, fun j hj => ?_⟩
 ·have h0 : (os.set (k + q) (o + zcg x r)).getD (k + q + 1) 0 = 0 := by
   rw [List.getD_eq_getElem?_getD, List.getElem?_set_ne (by omega), ← List.getD_eq_getElem?_getD]
   exact hz _ (by omega)
  rw [zbD _ _ _ _ (by simp; omega), h0, zbD _ _ _ _ (by omega), hok, zai, hxk, hv, za8, zeY]
  generalize val W64 (xs.take k) = p
  generalize W64 ^ k = u
  generalize W64 ^ q = t
  have e : zcg x r = x * 2 ^ r - W64 * zfy x (64 - r) := by omega
  rw [e]
  generalize zfy x (64 - r) = s
  generalize (2 : Int) ^ r = z
  grind
 ·rw [List.getD_eq_getElem?_getD, show k + 1 + q = k + q + 1 by omega, List.getElem?_set_self (by simp; omega)]
  exact f4
 ·rw [List.getD_eq_getElem?_getD, List.getElem?_set_ne (by omega), List.getElem?_set_ne (by omega), ← List.getD_eq_getElem?_getD]
  exact hz _ (by omega)
theorem MovInv.step0 {xs : List Int} {n q k : Nat} {x o : Int} {os : List Int} (h : MovInv xs n q 0 k os) (hk : k < n) (hx : 0 ≤ x ∧ x < W64) (hxk : xs.getD k 0 = x) (hok : os.getD (k + q) 0 = o) :
  MovInv xs n q 0 (k + 1) (os.set (k + q) (o + zcg x 0)) := by
 obtain ⟨hl, hi, hv, ho, hz⟩ := h
 have hro : 0 ≤ o ∧ o < 2 ^ 0 := by rw [← hok]; exact ⟨(hi.getD zaf _).1, ho⟩
 obtain ⟨_, w0, w1⟩ := zho (by decide) hro hx
 have e : zcg x 0 = x := by
  unfold zcg
  rw [Int.pow_zero, Int.mul_one]
  exact Int.emod_eq_of_lt hx.1 hx.2
 refine ⟨by simpa using hl, hi.set _ ⟨w0, w1⟩, ?_, ?_, fun j hj => ?_⟩
 ·rw [zbD _ _ _ _ (by omega), hok, zai, hxk, hv, zeY, e]
  generalize val W64 (xs.take k) = p
  generalize W64 ^ k = u
  generalize W64 ^ q = t
  grind
 ·rw [List.getD_eq_getElem?_getD, show k + 1 + q = k + q + 1 by omega, List.getElem?_set_ne (by omega), ← List.getD_eq_getElem?_getD, hz _ (by omega)]
  decide
 ·rw [List.getD_eq_getElem?_getD, List.getElem?_set_ne (by omega), ← List.getD_eq_getElem?_getD]
  exact hz _ (by omega)
theorem zgq (A1 : Option Addr) (n1 c1 : Nat) (xs : List Int) (K : Nat) (w : World) (h1 : Sl w .u64 A1 n1 xs) (hx : InR W64 xs)
  (hn : n1 ≤ 1000000) (hK : K ≤ 64000000) :
  Calls Tryz.prog 114 #[.slice A1 n1 c1, .int .i64 K] w (zn7 w (val W64 xs * 2 ^ K) (n1 + K / 64 + 1)) := by
 obtain ⟨q, hq⟩ : ∃ q, q = K / 64 := ⟨_, rfl⟩
 obtain ⟨r, hr⟩ : ∃ r, r = K % 64 := ⟨_, rfl⟩
 have hmk := zav (P := Tryz.prog) Tryz.underlying86 zbP ((n1 : Int) + q + 1) (n1 + q + 1) (by omega) (by omega) (by omega)
 have eq : (K : Int) / 64 = q := by omega
 have er : (K : Int) % 64 = r := by omega
 have HQ := Lib.hid hq
 have HR := Lib.hid hr
 have hr64 : r < 64 := by omega
 have hqle : q ≤ 1000000 := by omega
 clear hq hr
 go_enter Tryz.func114, Tryz.ntmps114
 go_wp2
 clear hmk
 refine zas (Q := fun W => Code.wp _ _ _ _ W) ?_
 intro W hl hs hb
 go_loopw [17] (fun i wr => ∃ (k : Nat) (os : List Int), k ≤ n1 ∧ i = .int .i64 k ∧ MovInv xs n1 q r k os ∧ Lat w wr ∧ Blk wr w.heap.size 36 (nums .u64 os)) (fun i _ => n1 - (intOf i).toNat)
 case atStart => exact ⟨0, _, Nat.zero_le _, rfl, MovInv.start xs n1 q r, hl, hb⟩
 case round =>
  obtain ⟨k, os, hk, rfl, hinv, hlr, hbr⟩ := hrel
  have HL := Lib.hid hinv.1
  clear hl hb hs
  by_cases hlt : k < n1
  ·obtain ⟨a, x, rfl, ha, hxk, hcell⟩ := (h1.later hlr).at hlt
   have hrx := hx.at hxk
   obtain ⟨o, hoo, ho, hfo⟩ := hbr.slot (i := k + q) (by have := HL.out; omega)
   obtain ⟨o2, _, ho2, hfo2⟩ := hbr.slot (i := k + q + 1) (by have := HL.out; omega)
   have hgx : Hid (xs.getD k 0 = x) := by rw [List.getD_eq_getElem?_getD, hxk]; rfl
   have hgo : Hid (os.getD (k + q) 0 = o) := by rw [List.getD_eq_getElem?_getD, hoo]; rfl
   have hro : 0 ≤ o ∧ o < 2 ^ r := by have := hinv.2.2.2.1; rw [hgo.out] at this; exact ⟨(hinv.2.1.at hoo).1, this⟩
   have HOR := Lib.hid (zho hr64 hro hrx).1
   clear hxk hoo hro
   have w5 : IntKind.i64.wrap (q : Int) = q := IntWalk.i64_in _ (by omega)
   have w6 : IntKind.i64.wrap (r : Int) = r := IntWalk.i64_in _ (by omega)
   have w1 : IntKind.i64.wrap ((k : Int) + q) = (k : Int) + q := IntWalk.i64_in _ (by omega)
   have w2 : (0 : Int) ≤ (k : Int) + q := by omega
   have w3 : ((k : Int) + q).toNat = k + q := by omega
   have w4 : (k : Int) + q < (n1 : Int) + q + 1 := by omega
   have w7 : (K : Int).tmod 64 = r := by rw [Int.tmod_eq_emod_of_nonneg (by omega)]; exact er
   go_wp2
   go_still_tail 13, (by kernel_rfl)
   change wpList _ _ _ _ _ wr.drew
   clear w5 w6 w1 w3 w7
   have hb2 : Blk wr.drew w.heap.size 36 (nums .u64 os) := hbr
   have hl2 : Lat w wr.drew := hlr.trans (Lat.drew _)
   by_cases hr0 : 0 < r
   ·have hr1 : decide (0 < r) = true := decide_eq_true hr0
    have hst := hinv.stepR hlt hr64 hrx hgx.out hgo.out
    have eK : (64 : Int) - r = ((64 - r : Nat) : Int) := by omega
    go_wp2
    go_roundw
    case rel => exact ⟨k + 1, _, by omega, by go_num, hst, (hl2.setCell (Nat.le_refl _) _).setCell (Nat.le_refl _) _, by rw [HOR.out]; exact (hb2.put (k + q) _).put (k + q + 1) _⟩
    case measure => simp [intOf]; omega
   ·have hr00 : r = 0 := by omega
    subst hr00
    have hst := hinv.step0 hlt hrx hgx.out hgo.out
    have HOR0 : Hid (bits .or .u64 o (IntKind.u64.wrap x) = o + zcg x 0) := by
     have := HOR.out
     rw [Int.pow_zero, Int.mul_one] at this
     exact this
    go_wp2
    go_roundw
    case rel => exact ⟨k + 1, _, by omega, by go_num, hst, hl2.setCell (Nat.le_refl _) _, by rw [HOR0.out]; exact hb2.put (k + q) _⟩
    case measure => simp [intOf]; omega
  ·obtain rfl : k = n1 := by omega
   obtain ⟨r1, r2, r3, _⟩ := hinv
   rw [List.take_of_length_le (by have := h1.1; omega)] at r3
   have hsl := Sl.of_blk' hbr r1
   have R3 : Hid (val W64 os = val W64 xs * 2 ^ K) := by
    show _ = _
    rw [r3, zdW, Int.mul_assoc, ← Int.pow_add]
    congr 2
    have := HQ.out
    have := HR.out
    omega
   have hKq : k + q + 1 ≤ k + K / 64 + 1 := by have := HQ.out; omega
   clear r1 r3
   have h0 : 0 ≤ sgn false (val W64 os) := zaj zaf r2
   go_wp2_with (go_at_call 99; refine (zaI false _ _ _ _ os hsl r2 (Nat.le_refl _) (by omega)).mono ?_; intro e w' hpost; obtain ⟨m, zs, rfl, z1, z2, z3, z4, z5, z6, z7⟩ := hpost.words h0; have Z4 := Lib.hid z4; clear z4 hpost)
   go_ret
   exact ⟨_, _, _, zs, rfl, z1, z2, z3, Z4.out.trans R3.out, z5, by omega, hlr.trans z7, fun _ e => by cases e; exact Nat.le_refl _⟩
end Go.Proofs.YtpmbglhbcjbkcaaGreat
namespace Go.Proofs.YtpmbglhbcjbkcaaGreat
set_option maxHeartbeats 16000000
set_option maxRecDepth 100000
def IsQ (U Y l Q : Int) : Prop := 0 ≤ U * 4294967296 + l - Q * Y ∧ U * 4294967296 + l - Q * Y < Y
theorem IsQ.of_le {U Y l Q q : Int} (h : IsQ U Y l Q) (hY : 0 < Y) (hq : q * Y ≤ U * 4294967296 + l) : q ≤ Q := by
 rcases Int.lt_or_le Q q with hlt | hle
 ·have := Int.mul_le_mul_of_nonneg_right (show Q + 1 ≤ q by omega) (Int.le_of_lt hY)
  rw [Int.add_mul] at this
  have := h.2
  omega
 ·exact hle
theorem IsQ.lt_of {U Y l Q q : Int} (h : IsQ U Y l Q) (hY : 0 < Y) (hq : U * 4294967296 + l < q * Y) : Q < q := by
 rcases Int.lt_or_le Q q with hlt | hle
 ·exact hlt
 ·have := Int.mul_le_mul_of_nonneg_right hle (Int.le_of_lt hY)
  have := h.1
  omega
theorem IsQ.exists {U Y l : Int} (hY : 0 < Y) : ∃ Q, IsQ U Y l Q := by
 refine ⟨(U * 4294967296 + l) / Y, ?_⟩
 have h1 := Int.emod_add_mul_ediv (U * 4294967296 + l) Y
 have h2 := Int.emod_nonneg (U * 4294967296 + l) (show Y ≠ 0 by omega)
 have h3 := Int.emod_lt_of_pos (U * 4294967296 + l) hY
 have h4 := Int.mul_comm Y ((U * 4294967296 + l) / Y)
 unfold IsQ
 omega
theorem IsQ.lt_base {U Y l Q : Int} (h : IsQ U Y l Q) (hU : U < Y) (hY : 0 < Y) (hl : l < 4294967296) : Q < 4294967296 := by
 apply h.lt_of hY
 rw [Int.mul_comm 4294967296 Y]
 omega
theorem IsQ.nonneg {U Y l Q : Int} (h : IsQ U Y l Q) (hU : 0 ≤ U) (hY : 0 < Y) (hl : 0 ≤ l) : 0 ≤ Q := by
 apply h.of_le hY
 omega
def DInv (U y1 Q q r : Int) : Prop := 0 ≤ q ∧ q ≤ 4294967297 ∧ 0 ≤ r ∧ r < 4294967296 ∧ q * y1 + r = U ∧ Q ≤ q
theorem zfB {U Y y1 y0 : Int} (hY : Y = y1 * 4294967296 + y0) (q r : Int) (hqr : q * y1 + r = U) : q * Y = U * 4294967296 - r * 4294967296 + q * y0 := by
 rw [hY, ← hqr]; grind
section
variable {U Y y1 y0 l Q q r : Int} (hQ : IsQ U Y l Q) (hY : Y = y1 * 4294967296 + y0) (h1 : 2147483648 ≤ y1 ∧ y1 < 4294967296) (h0 : 0 ≤ y0 ∧ y0 < 4294967296) (hU : 0 ≤ U ∧ U < Y) (hl : 0 ≤ l ∧ l < 4294967296)
include hQ hY h1 h0 hU hl
theorem DInv.start : DInv U y1 Q (U / y1) (U - U / y1 * y1) := by
 have hY0 : 0 < Y := by omega
 have e := Int.emod_add_mul_ediv U y1
 have m0 := Int.emod_nonneg U (show y1 ≠ 0 by omega)
 have m1 := Int.emod_lt_of_pos U (show 0 < y1 by omega)
 have q0 : 0 ≤ U / y1 := Int.ediv_nonneg hU.1 (by omega)
 rw [Int.mul_comm] at e
 have er : U - U / y1 * y1 = U % y1 := by omega
 rw [er]
 have hqr : U / y1 * y1 + U % y1 = U := by omega
 refine ⟨q0, ?_, m0, by omega, hqr, ?_⟩
 ·have hub : U / y1 * y1 < 4294967298 * y1 := by
   have : (4294967298 : Int) * y1 = y1 * 4294967296 + 2 * y1 := by omega
   omega
  have := Int.lt_of_mul_lt_mul_right hub (by omega)
  omega
 ·rcases Int.lt_or_le (U / y1) Q with hlt | hle
  ·exfalso
   have h2 := Int.mul_le_mul_of_nonneg_right (show U / y1 + 1 ≤ Q by omega) (show 0 ≤ y1 by omega)
   rw [Int.add_mul] at h2
   have hQ0 : 0 ≤ Q := hQ.nonneg hU.1 hY0 hl.1
   have h3 : Q * Y = Q * y1 * 4294967296 + Q * y0 := by rw [hY]; grind
   have h4 := Int.mul_nonneg hQ0 h0.1
   have := hQ.1
   omega
  ·exact hle
omit h1 h0 in
theorem DInv.less (h : DInv U y1 Q q r) (ht : 4294967296 ≤ q ∨ 4294967296 * r + l < q * y0) : Q ≤ q - 1 := by
 obtain ⟨_, _, _, _, hqr, _⟩ := h
 have hY0 : 0 < Y := by omega
 rcases ht with ht | ht
 ·have := hQ.lt_base hU.2 hY0 hl.2
  omega
 ·have e := zfB hY q r hqr
  have := hQ.lt_of hY0 (q := q) (by omega)
  omega
omit h1 h0 hl in
theorem DInv.done (h : DInv U y1 Q q r) (ht : q * y0 ≤ 4294967296 * r + l) : q = Q := by
 obtain ⟨_, _, _, _, hqr, hle⟩ := h
 have hY0 : 0 < Y := by omega
 have e := zfB hY q r hqr
 have := hQ.of_le hY0 (q := q) (by omega)
 omega
omit h1 in
theorem DInv.break_ (h : DInv U y1 Q q r) (hle : Q ≤ q - 1) (hr : 4294967296 ≤ r + y1) : q - 1 = Q := by
 obtain ⟨_, hq, _, _, hqr, _⟩ := h
 have hY0 : 0 < Y := by omega
 have hQ0 := hQ.nonneg hU.1 hY0 hl.1
 have hqr' : (q - 1) * y1 + (r + y1) = U := by rw [Int.sub_mul]; omega
 have e := zfB hY (q - 1) (r + y1) hqr'
 have h2 := Int.mul_le_mul_of_nonneg_right (show q - 1 ≤ 4294967296 by omega) h0.1
 have := hQ.of_le hY0 (q := q - 1) (by omega)
 omega
omit h0 in
theorem DInv.next (h : DInv U y1 Q q r) (hle : Q ≤ q - 1) (hr : r + y1 < 4294967296) : DInv U y1 Q (q - 1) (r + y1) := by
 obtain ⟨_, hq, _, _, hqr, _⟩ := h
 have hY0 : 0 < Y := by omega
 have hQ0 := hQ.nonneg hU.1 hY0 hl.1
 exact ⟨by omega, by omega, by omega, hr, by rw [Int.sub_mul]; omega, hle⟩
end
theorem left_eq {U Y l Q : Int} (h : IsQ U Y l Q) (hY : Y < W64) :
  IntKind.u64.wrap (IntKind.u64.wrap (IntKind.u64.wrap (U * 4294967296) + l) - IntKind.u64.wrap (Q * Y)) = U * 4294967296 + l - Q * Y := by
 simp only [zbu]
 obtain ⟨a, b⟩ := h
 generalize U * 4294967296 = p at *
 generalize Q * Y = s at *
 unfold W64 at *
 omega
theorem zjW (x : Int) (h : 0 ≤ x ∧ x < W64) : bits .and .u64 x 4294967295 = x % 4294967296 := by
 obtain ⟨X, rfl⟩ := Int.eq_ofNat_of_zero_le h.1
 unfold W64 at h
 have := u64_and_nat X 4294967295 (by omega) (by decide)
 rw [show ((4294967295 : Nat) : Int) = 4294967295 from rfl] at this
 rw [this, show (4294967295 : Nat) = 2 ^ 32 - 1 from rfl, Nat.and_two_pow_sub_one_eq_mod]
 omega
end Go.Proofs.YtpmbglhbcjbkcaaGreat
