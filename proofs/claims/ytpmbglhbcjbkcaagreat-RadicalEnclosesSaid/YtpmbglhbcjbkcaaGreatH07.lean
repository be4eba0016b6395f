/- Several texts in one: DividedB, DividedC, Longs. -/
import Derived.Test.YtpmbglhbcjbkcaaGreatH06
import Derived.StillTailTactics
namespace Go.Proofs.YtpmbglhbcjbkcaaGreat
set_option maxHeartbeats 16000000
set_option maxRecDepth 100000
open Go.RowKit
theorem CmpPost.ge {w w' : World} {p q : Int} {e : Ending} (h : CmpPost w p q e w') (hle : q ≤ p) : ∃ r : Int, e = .returned (.int .i64 r) ∧ 0 ≤ r ∧ r ≤ 1000000 ∧ Lat w w' := by
 obtain ⟨r, rfl, _, h2, h3, h4, h5⟩ := h
 refine ⟨r, rfl, ?_, h4.2, h5⟩
 rcases Int.lt_or_eq_of_le hle with hlt | he
 ·have := h3 hlt; omega
 ·have := h2 he.symm; omega
theorem CmpPost.lt {w w' : World} {p q : Int} {e : Ending} (h : CmpPost w p q e w') (hlt : p < q) : ∃ r : Int, e = .returned (.int .i64 r) ∧ r < 0 ∧ -1000000 ≤ r ∧ Lat w w' := by
 obtain ⟨r, rfl, h1, _, _, h4, h5⟩ := h
 exact ⟨r, rfl, h1 hlt, h4.1, h5⟩
theorem za5 {xs ys : List Int} (hx : InR W64 xs) (hy : InR W64 ys) (zx : Nz xs) (h : val W64 xs ≤ val W64 ys) : xs.length ≤ ys.length := by
 rcases Nat.lt_or_ge ys.length xs.length with hlt | hge
 ·have := zaz zaf hy hx zx hlt
  omega
 ·exact hge
def BitInv (X Y : Int) (n j : Nat) (R : Int) (qs : List Int) : Prop :=
 qs.length = n ∧ InR W64 qs ∧ (0 ≤ R ∧ R < Y * 2 ^ j) ∧ X = val W64 qs * Y + R ∧ (2 : Int) ^ j ∣ val W64 qs
theorem BitInv.skip {X Y : Int} {n k : Nat} {R : Int} {qs : List Int} (h : BitInv X Y n (k + 1) R qs) (hlt : R < Y * 2 ^ k) : BitInv X Y n k R qs := by
 obtain ⟨h1, h2, h3, h4, h5⟩ := h
 refine ⟨h1, h2, ⟨h3.1, hlt⟩, h4, ?_⟩
 obtain ⟨c, hc⟩ := h5
 exact ⟨2 * c, by rw [hc, Int.pow_succ]; grind⟩
theorem BitInv.word {X Y : Int} {n k : Nat} {R o : Int} {qs : List Int} (h : BitInv X Y n (k + 1) R qs) (hk : k / 64 < n) (ho : qs[k / 64]? = some o) :
  bits .or .u64 o (zcg 1 (k % 64)) = o + 2 ^ (k % 64) ∧ 0 ≤ o + 2 ^ (k % 64) ∧ o + 2 ^ (k % 64) < W64 := by
 obtain ⟨h1, h2, h3, h4, ⟨c, hc⟩⟩ := h
 have hro := h2.at ho
 have hr : k % 64 < 64 := Nat.mod_lt _ (by decide)
 obtain ⟨q, hq⟩ : ∃ q, q = k / 64 := ⟨_, rfl⟩
 obtain ⟨r, hrr⟩ : ∃ r, r = k % 64 := ⟨_, rfl⟩
 have hkq : k = 64 * q + r := by omega
 rw [← hrr] at hr ⊢
 rw [← hq] at ho hk
 have hsplit := zcW W64 qs q (by omega)
 have hdrop : val W64 (qs.drop q) = o + W64 * val W64 (qs.drop (q + 1)) := by
  obtain ⟨lx, ex⟩ := List.getElem?_eq_some_iff.1 ho
  rw [List.drop_eq_getElem_cons lx, ex, zfw]
 have hlt := zcV zaf (h2.take q)
 rw [List.length_take, Nat.min_eq_left (by omega)] at hlt
 have hnn := zaj zaf (h2.take q)
 have hp := zce zaf q
 have e1 : (2 : Int) ^ (k + 1) = W64 ^ q * 2 ^ (r + 1) := by rw [zdW, ← Int.pow_add]; congr 1; omega
 have hz : val W64 (qs.take q) = 0 := by
  have hm : val W64 (qs.take q) % W64 ^ q = 0 := by
   have : val W64 (qs.take q) = W64 ^ q * (2 ^ (r + 1) * c - val W64 (qs.drop q)) := by
    rw [e1] at hc
    generalize W64 ^ q = u at *
    generalize (2 : Int) ^ (r + 1) = z at *
    grind
   rw [this, Int.mul_emod_right]
  rw [Int.emod_eq_of_lt hnn hlt] at hm
  exact hm
 rw [hz, hc, e1, hdrop] at hsplit
 have e2 : 2 ^ (r + 1) * c = o + W64 * val W64 (qs.drop (q + 1)) := by
  have : W64 ^ q * (2 ^ (r + 1) * c) = W64 ^ q * (o + W64 * val W64 (qs.drop (q + 1))) := by
   generalize W64 ^ q = u at *
   generalize (2 : Int) ^ (r + 1) = z at *
   grind
  exact Int.eq_of_mul_eq_mul_left (by omega) this
 have hW : W64 = 2 ^ (r + 1) * 2 ^ (63 - r) := by rw [← Int.pow_add, show r + 1 + (63 - r) = 64 by omega]; rfl
 have p1 := two_pow_pos (r + 1)
 have hoe : o = 2 ^ (r + 1) * (c - 2 ^ (63 - r) * val W64 (qs.drop (q + 1))) := by
  rw [hW] at e2
  generalize (2 : Int) ^ (r + 1) = z at *
  generalize (2 : Int) ^ (63 - r) = z2 at *
  grind
 generalize c - 2 ^ (63 - r) * val W64 (qs.drop (q + 1)) = b at hoe
 have hb0 : 0 ≤ b := by
  rcases Int.lt_or_le b 0 with hn | hn
  ·have := Int.mul_lt_mul_of_pos_left hn p1
   omega
  ·exact hn
 have hbl : b < 2 ^ (63 - r) := by
  have := hro.2
  rw [hoe, hW] at this
  exact Int.lt_of_mul_lt_mul_left this (Int.le_of_lt p1)
 have hs : zcg 1 r = 2 ^ r := by
  unfold zcg
  rw [Int.one_mul]
  refine Int.emod_eq_of_lt (Int.le_of_lt (two_pow_pos r)) ?_
  have : (2 : Int) ^ r < 2 ^ 64 := znd (by decide) (by omega)
  exact this
 have hr2 : (2 : Int) ^ r < 2 ^ (r + 1) := znd (by decide) (by omega)
 have hr0 := two_pow_pos r
 have hsum : 2 ^ (r + 1) * b + 2 ^ (r + 1) ≤ W64 := by
  have := Int.mul_le_mul_of_nonneg_left (show b + 1 ≤ 2 ^ (63 - r) by omega) (Int.le_of_lt p1)
  rw [← hW, Int.mul_add] at this
  omega
 refine ⟨?_, by omega, by omega⟩
 rw [hs]
 have hor := zcE (r := r + 1) (a := 2 ^ r) (b := b) (by omega) ⟨by omega, hr2⟩ hb0 (by omega)
 rw [← hoe] at hor
 have h2r : (2 : Int) ^ r < W64 := by have : (2 : Int) ^ r < 2 ^ 64 := znd (by decide) (by omega); exact this
 have hc2 : bits .or .u64 o (2 ^ r) = bits .or .u64 (2 ^ r) o := by
  unfold W64 at h2r hro
  rw [u64_or _ _ hro.1 hro.2 (by omega) h2r, u64_or _ _ (by omega) h2r hro.1 hro.2, Nat.or_comm]
 rw [hc2, hor]; omega
theorem BitInv.take_ {X Y : Int} {n k : Nat} {R o : Int} {qs : List Int} (h : BitInv X Y n (k + 1) R qs) (hk : k / 64 < n) (ho : qs[k / 64]? = some o) (hge : Y * 2 ^ k ≤ R) :
  BitInv X Y n k (R - Y * 2 ^ k) (qs.set (k / 64) (o + 2 ^ (k % 64))) := by
 have hw := h.word hk ho
 obtain ⟨h1, h2, h3, h4, h5⟩ := h
 have hv : val W64 (qs.set (k / 64) (o + 2 ^ (k % 64))) = val W64 qs + 2 ^ k := by
  rw [zbD _ _ _ _ (by omega), List.getD_eq_getElem?_getD, ho, zdW]
  show _ + 2 ^ (64 * (k / 64)) * (o + 2 ^ (k % 64) - o) = _
  have e : o + 2 ^ (k % 64) - o = 2 ^ (k % 64) := by omega
  rw [e, ← Int.pow_add, show 64 * (k / 64) + k % 64 = k by omega]
 refine ⟨by simpa using h1, h2.set _ hw.2, ⟨by omega, ?_⟩, ?_, ?_⟩
 ·have := h3.2
  rw [Int.pow_succ] at this
  have e : Y * (2 ^ k * 2) = Y * 2 ^ k + Y * 2 ^ k := by grind
  omega
 ·rw [hv, h4]; grind
 ·rw [hv]
  obtain ⟨c, hc⟩ := h5
  exact ⟨2 * c + 1, by rw [hc, Int.pow_succ]; grind⟩
theorem BitInv.done {X Y : Int} {n : Nat} {R : Int} {qs : List Int} (h : BitInv X Y n 0 R qs) : val W64 qs = X / Y ∧ R = X % Y := by
 obtain ⟨_, _, hr, hv, _⟩ := h
 rw [Int.pow_zero, Int.mul_one] at hr
 rw [hv]
 constructor
 ·rw [Int.add_comm, Int.add_mul_ediv_right _ _ (by omega), Int.ediv_eq_zero_of_lt hr.1 hr.2]; omega
 ·rw [Int.add_comm, Int.add_mul_emod_self_right, Int.emod_eq_of_lt hr.1 hr.2]
theorem BitInv.start {xs ys : List Int} {la lb j : Nat} (hx : InR W64 xs) (ha : LenIs xs la) (hb : LenIs ys lb) (hy : ys ≠ []) (hj : la ≤ lb + j - 1) (hlb : 1 ≤ lb) : BitInv (val W64 xs) (val W64 ys) xs.length j (val W64 xs) (List.replicate xs.length 0) := by
 refine ⟨by simp, InR.zeros zaf _, ⟨zaj zaf hx, ?_⟩, by rw [zbd]; omega, by rw [zbd]; exact Int.dvd_zero _⟩
 obtain ⟨b1, b2⟩ := hb.2.1 hy
 have h1 : (2 : Int) ^ la ≤ 2 ^ (lb - 1 + j) := zdS (by decide) (by omega)
 rw [Int.pow_add] at h1
 have h2 := Int.mul_le_mul_of_nonneg_right b2 (Int.le_of_lt (two_pow_pos j))
 have := ha.1
 omega
theorem zgr (A1 : Option Addr) (n1 c1 : Nat) (xs : List Int) (A2 : Option Addr) (n2 c2 : Nat) (ys : List Int) (w : World) (h1 : Sl w .u64 A1 n1 xs) (h2 : Sl w .u64 A2 n2 ys) (hx : InR W64 xs) (hy : InR W64 ys) (zx : Nz xs) (zy : Nz ys)
  (hc1 : n1 ≤ c1) (hn : n1 ≤ 400000) (hm : n2 ≤ 400000) (hm2 : 2 ≤ n2) :
  Calls Tryz.prog 117 #[.slice A1 n1 c1, .slice A2 n2 c2] w (zfC w (val W64 xs) (val W64 ys) n1) := by
 have hmk := zav (P := Tryz.prog) Tryz.underlying86 zbP (n1 : Int) n1 rfl (by omega) (by omega)
 have hne : ((n2 : Int) == 1) = false := by simp; omega
 have hyne : Hid (ys ≠ []) := by intro e; have := h2.1; simp [e] at this; omega
 have hlx := Lib.hid h1.1
 have hly := Lib.hid h2.1
 have hYp : 0 < val W64 ys := zaX zaf hy zy hyne.out
 have hoff : Hid (0 < n1 → ∀ a, A1 = some a → a.block ≠ w.heap.size) := by
  intro hp a e
  obtain ⟨a', e', hb, _⟩ := h1.2 hp
  rw [e] at e'
  cases e'
  omega
 go_enter Tryz.func117, Tryz.ntmps117
 go_wp2_with fail
 clear hmk
 refine zas (Q := fun W => Calls _ _ _ W _) ?_
 intro W hl hs hb
 refine (zdl A1 n1 c1 xs W (h1.later hl) hx zx (by omega)).mono ?_
 rintro e w' ⟨la, rfl, hla, rfl⟩
 go_wp2_with fail
 refine (zdl A2 n2 c2 ys W (h2.later hl) hy zy (by omega)).mono ?_
 rintro e w' ⟨lb, rfl, hlb, rfl⟩
 have hla2 : la ≤ 64 * n1 := by have := hla.2.2.1; have := hlx.out; omega
 have hlb2 : lb ≤ 64 * n2 := by have := hlb.2.2.1; have := hly.out; omega
 have hlb3 : 65 ≤ lb := by
  have a1 := zeZ zaf hy zy hyne.out
  have a2 := hlb.1
  rw [hly.out] at a1
  rcases Nat.lt_or_ge 64 lb with hh | hh
  ·omega
  ·exfalso
   have a3 : (2 : Int) ^ lb ≤ 2 ^ 64 := zdS (by decide) hh
   have a4 : W64 ^ 1 ≤ W64 ^ (n2 - 1) := zdS zaf (by omega)
   rw [Int.pow_one] at a4
   have a5 : W64 = 2 ^ 64 := rfl
   omega
 have HST : Hid (BitInv (val W64 xs) (val W64 ys) n1 ((la : Int) - lb + 1).toNat (val W64 xs) (List.replicate n1 0)) := by
  have := BitInv.start (j := ((la : Int) - lb + 1).toNat) hx hla hlb hyne.out (by omega) (by omega)
  rw [hlx.out] at this
  exact this
 go_wp2
 go_loopw [5, 8] (fun r k wr => ∃ (t : Int) (A : Option Addr) (n c : Nat) (rs qs : List Int), k = .int .i64 t ∧ r = .slice A n c ∧ (-1000000000 ≤ t ∧ t ≤ 64 * (n1 : Int) - 65) ∧ n ≤ c ∧ n ≤ n1 ∧
  Hid (0 < n → ∀ a, A = some a → a.block ≠ w.heap.size) ∧ Lat w wr ∧ Blk wr w.heap.size 36 (nums .u64 qs) ∧ Sl wr .u64 A n rs ∧ InR W64 rs ∧ Nz rs ∧ Hid (BitInv (val W64 xs) (val W64 ys) n1 (t + 1).toNat (val W64 rs) qs)) (fun _ k _ => (intOf k + 1).toNat)
 case atStart => exact ⟨_, A1, n1, c1, xs, _, rfl, rfl, by omega, hc1, Nat.le_refl _, hoff, hl, hb, h1.later hl, hx, zx, HST⟩
 case round =>
  obtain ⟨t, A, n, c, rs, qs, rfl, rfl, ht, hnc, hnn, hof, hlr, hbr, hsl, hri, hrz, hinv⟩ := hrel
  clear hl hb hs HST hla hlb hlb2 hla2 hlb3 hoff
  by_cases ht0 : t < 0
  ·have ht1 : ¬ 0 ≤ t := by omega
   have hd := hinv.out
   rw [show (t + 1).toNat = 0 by omega] at hd
   obtain ⟨e1, e2⟩ := hd.done
   have E1 := Lib.hid e1
   have E2 := Lib.hid e2
   have E3 := Lib.hid hd.1
   have e4 := hd.2.1
   clear e1 e2 hd
   go_wp2
   go_ret2
   exact ⟨_, _, _, qs, _, _, _, rs, rfl, ⟨Sl.of_blk' hbr E3.out, e4, E1.out, Nat.le_refl _, Nat.le_refl _⟩, ⟨hsl, hri, hrz, E2.out, hnc⟩, hlr⟩
  ·obtain ⟨k, rfl⟩ := Int.eq_ofNat_of_zero_le (show 0 ≤ t by omega)
   clear ht0
   have hk1 : Hid (((k : Int) + 1).toNat = k + 1) := by show _ = _; omega
   have hinv' : Hid (BitInv (val W64 xs) (val W64 ys) n1 (k + 1) (val W64 rs) qs) := by
    have := hinv.out
    rw [hk1.out] at this
    exact this
   clear hinv
   have hkq : k / 64 < n1 := by omega
   have hYk : 0 < val W64 ys * 2 ^ k := Int.mul_pos hYp (two_pow_pos k)
   have hkb : k ≤ 64000000 := by omega
   go_wp2_with fail
   refine (zgq A2 n2 c2 ys k wr (h2.later hlr) hy (by omega) (by omega)).mono ?_
   rintro e w1 ⟨At, nt, ct, ts, rfl, t1, t2, t3, t4, t5, t6, t7, t8⟩
   have T4 := Lib.hid t4
   clear t4
   go_wp2_with fail
   by_cases hge : val W64 ys * 2 ^ k ≤ val W64 rs
   ·refine (zch A n c rs At nt ct ts w1 (hsl.later t7) t1 hri t2 hrz t3 (by omega) (by omega)).mono ?_
    intro e w2 hpost
    obtain ⟨r, rfl, r0, r1, hl2⟩ := hpost.ge (by rw [T4.out]; exact hge)
    clear hpost
    have hlen := za5 t2 hri t3 (by rw [T4.out]; exact hge)
    rw [t1.1, hsl.1] at hlen
    go_wp2_with fail
    refine (zdV A n c rs At nt ct ts w2 ((hsl.later t7).later hl2) (t1.later hl2) hri t2 hlen (by rw [T4.out]; exact hge) (by omega)).mono ?_
    rintro e w3 ⟨Ad, nd, cd, ds, rfl, d1, d2, d3, d4, d5, d6, d7⟩
    have D3 : Hid (val W64 ds = val W64 rs - val W64 ys * 2 ^ k) := by show _ = _; rw [d3, T4.out]
    clear d3
    have h0 : 0 ≤ sgn false (val W64 ds) := zaj zaf d2
    go_wp2_with fail
    refine (zaI false Ad nd cd w3 ds d1 d2 d4 (by omega)).mono ?_
    intro e w4 hpost
    obtain ⟨m, zs, rfl, z1, z2, z3, z4, z5, z6, z7⟩ := hpost.words h0
    have Z4 : Hid (val W64 zs = val W64 rs - val W64 ys * 2 ^ k) := by show _ = _; rw [z4]; exact D3.out
    clear hpost z4
    go_wp2_with fail
    have L4 : Lat wr w4 := ((t7.trans hl2).trans d6).trans z7
    have hb4 := hbr.later L4
    obtain ⟨q, hq⟩ : ∃ q, q = k / 64 := ⟨_, rfl⟩
    obtain ⟨s, hs⟩ : ∃ s, s = k % 64 := ⟨_, rfl⟩
    have hql : Hid (qs.length = n1) := hinv'.out.1
    obtain ⟨o, hoo, ho, hfo⟩ := hb4.slot (i := q) (by have := hql.out; omega)
    have HQ := Lib.hid hq
    have HS := Lib.hid hs
    have HW := Lib.hid (hinv'.out.word hkq (by rw [← hq]; exact hoo)).1
    have HI := Lib.hid (hinv'.out.take_ hkq (by rw [← hq]; exact hoo) hge)
    clear hoo
    have hq0 : (q : Int) < (n1 : Int) := by omega
    have hs64 : s < 64 := by omega
    have w1' : (k : Int) / 64 = q := by omega
    have w2' : (k : Int).tmod 64 = s := by rw [Int.tmod_eq_emod_of_nonneg (by omega)]; omega
    have w3' : IntKind.i64.wrap (q : Int) = q := IntWalk.i64_in _ (by omega)
    have w4' : IntKind.i64.wrap (s : Int) = s := IntWalk.i64_in _ (by omega)
    clear hq hs
    go_still_tail 10, (by kernel_rfl)
    change wpList _ _ _ _ _ w4.drew
    have L5 := hlr.trans (L4.trans (Lat.drew w4))
    have hb5 : Blk w4.drew w.heap.size 36 (nums .u64 qs) := hb4
    go_wp2
    go_roundw
    case rel =>
     refine ⟨(k : Int) - 1, Ad, m, cd, zs, _, rfl, rfl, by omega, z5, by omega, ?_, L5.setCell (Nat.le_refl _) _, hb5.put q _, ?_, z2, z3, ?_⟩
     ·intro _ a e
      have := d7 a e
      have := t7.size
      have := hl2.size
      have := hbr.lt
      omega
     ·refine (show Sl w4.drew .u64 Ad m zs from z1).off' (fun _ a e => ?_) _
      have := d7 a e
      have := t7.size
      have := hl2.size
      have := hbr.lt
      show a.block ≠ w.heap.size
      omega
     ·show BitInv _ _ _ _ _ _
      have hI := HI.out
      rw [← HQ.out, ← HS.out] at hI
      rw [show ((k : Int) - 1 + 1).toNat = k by omega, Z4.out]
      have hw := HW.out
      rw [← HS.out] at hw
      have hsh : zcg 1 s = IntKind.u64.wrap (2 ^ s) := by rw [zbu]; unfold zcg; rw [Int.one_mul]
      rw [hsh] at hw
      rw [hw]
      exact hI
    case measure => simp [intOf]
   ·refine (zch A n c rs At nt ct ts w1 (hsl.later t7) t1 hri t2 hrz t3 (by omega) (by omega)).mono ?_
    intro e w2 hpost
    obtain ⟨r, rfl, r0, r1, hl2⟩ := hpost.lt (by rw [T4.out]; omega)
    clear hpost
    have r0' : ¬ 0 ≤ r := by omega
    have hsk := Lib.hid (hinv'.out.skip (by omega))
    have L2 := t7.trans hl2
    go_wp2
    go_roundw
    case rel =>
     refine ⟨(k : Int) - 1, A, n, c, rs, qs, rfl, rfl, by omega, hnc, hnn, hof, hlr.trans L2, hbr.later L2, hsl.later L2, hri, hrz, ?_⟩
     show BitInv _ _ _ _ _ _
     rw [show ((k : Int) - 1 + 1).toNat = k by omega]
     exact hsk.out
    case measure => simp [intOf]
theorem zdX (A1 : Option Addr) (n1 c1 : Nat) (xs : List Int) (A2 : Option Addr) (n2 c2 : Nat) (ys : List Int) (w : World) (h1 : Sl w .u64 A1 n1 xs) (h2 : Sl w .u64 A2 n2 ys) (hx : InR W64 xs) (hy : InR W64 ys) (zx : Nz xs) (zy : Nz ys)
  (hc1 : n1 ≤ c1) (hn : n1 ≤ 400000) (hm : n2 ≤ 400000) (hne : ys ≠ []) :
  Calls Tryz.prog 117 #[.slice A1 n1 c1, .slice A2 n2 c2] w (zfC w (val W64 xs) (val W64 ys) n1) := by
 rcases Nat.lt_or_ge n2 2 with h | h
 ·have hl := h2.1
  match ys, hne, hl with
  | [d], _, hl =>
    obtain rfl : n2 = 1 := hl.symm
    have hd := hy d (by simp)
    have hd0 : d ≠ 0 := by
     intro e
     apply zy
     simp [e]
    have := zhp A1 n1 c1 xs A2 c2 d w h1 h2 hx ⟨by omega, hd.2⟩ (by omega)
    have e : val W64 [d] = d := by simp [val]
    rw [e]
    exact this
  | _ :: _ :: _, _, hl => simp at hl; omega
 ·exact zgr A1 n1 c1 xs A2 n2 c2 ys w h1 h2 hx hy zx zy hc1 hn hm h
theorem Lg.apart {w : World} {b : Bool} {A : Option Addr} {n c : Nat} {z : Int} {g : Nat} {t : TypeId} {cs : Array Value} (h : Lg w b A n c z) (hb : Blk w g t cs) (hno : ∀ (j : Nat) (x : Int), cs[j]? ≠ some (.int .u64 x)) : 0 < n → ∀ a, A = some a → a.block ≠ g := by
 obtain ⟨_, xs, hs, _⟩ := h
 exact hs.apart hb hno
theorem Lg.far {w : World} {b : Bool} {A : Option Addr} {n c : Nat} {z : Int} (h : Lg w b A n c z) {p : Addr} (hp : 0 < n → ∀ a, A = some a → a.block ≠ p.block) (u : Value) : Lg (w.setCell p u) b A n c z := by
 obtain ⟨hn, xs, hs, r⟩ := h
 exact ⟨hn, xs, hs.off' hp u, r⟩
theorem zbi (b : Bool) (A : Option Addr) (n c : Nat) : ∀ (j : Nat) (x : Int), (#[.bool b, .slice A n c] : Array Value)[j]? ≠ some (.int .u64 x) := by
 intro j x h
 match j with
 | 0 => simp at h
 | 1 => simp at h
 | j + 2 => simp at h
theorem LongPost.close {w w2 : World} {g t : Nat} {b b0 : Bool} {A A0 : Option Addr} {n c n0 c0 N : Nat} {z : Int} (hk : Blk w2 g t #[.bool b0, .slice A0 n0 c0]) (hlg : Lg w2 b A n c z) (hL : Lat w w2) (hg : w.heap.size ≤ g) (hn : n ≤ N) :
  LongPost w z N (.returned (.agg #[.bool b, .slice A n c])) ((w2.setCell ⟨g, 0, none⟩ (.bool b)).setCell ⟨g, 0 + 1, none⟩ (.slice A n c)) := by
 have ha := hlg.apart hk (zbi _ _ _ _)
 exact ⟨_, _, _, _, rfl, (hlg.far (p := ⟨g, 0, none⟩) ha _).far (p := ⟨g, 0 + 1, none⟩) ha _, hn, (hL.setCell (p := ⟨g, 0, none⟩) hg _).setCell (p := ⟨g, 0 + 1, none⟩) hg _⟩
theorem zni (b : Bool) (z : Int) : sgn (!b) z = - sgn b z := by cases b <;> simp [sgn]
theorem znj (b c : Bool) (x y : Int) : sgn (b != c) (x * y) = sgn b x * sgn c y := by
 cases b <;> cases c <;> simp [sgn, Int.mul_neg, Int.neg_mul]
theorem zbU (b1 : Bool) (A1 : Option Addr) (n1 c1 : Nat) (x : Int) (w : World) (h1 : Lg w b1 A1 n1 c1 x) (hn : n1 ≤ 1000000) :
  Calls Tryz.prog 79 #[.agg #[.bool b1, .slice A1 n1 c1]] w (LongPost w (- x) n1) := by
 obtain ⟨hc, xs, s1, r1, z1, _, v1⟩ := h1
 have V1 := Lib.hid v1
 clear v1
 go_enter Tryz.func79, Tryz.ntmps79
 go_wp2_with fail
 refine zaK (Q := fun W => Calls _ _ _ W _) ?_
 intro W hl hs k1 k2
 refine (zaI (!b1) A1 n1 c1 W xs (s1.later hl) r1 hc (by omega)).mono ?_
 intro e w1 hpost
 obtain ⟨b, n, rfl, hlg, hnn, hl1⟩ := hpost
 have hk2 := k2.later hl1
 have c0 := hk2.cell 0
 have c1' := hk2.cell 1
 have f0 := hk2.frozen 0
 have f1 := hk2.frozen 1
 go_wp2
 refine bodyPost_ret (v := .agg #[.bool b, .slice A1 n c1]) (by simp [results, Tryz.results79, go_sem, c0, c1']) rfl ?_
 have := LongPost.close hk2 hlg (hl.trans hl1) (by omega) hnn
 rw [zni, ← V1.out] at this
 exact this
theorem zbc (b1 : Bool) (A1 : Option Addr) (n1 c1 : Nat) (x : Int) (b2 : Bool) (A2 : Option Addr) (n2 c2 : Nat) (y : Int) (w : World) (h1 : Lg w b1 A1 n1 c1 x) (h2 : Lg w b2 A2 n2 c2 y) (hn : n1 ≤ 1000000) (hm : n2 ≤ 1000000) :
  Calls Tryz.prog 62 #[.agg #[.bool b1, .slice A1 n1 c1], .agg #[.bool b2, .slice A2 n2 c2]] w (LongPost w (x * y) (n1 + n2)) := by
 obtain ⟨hc1, xs, s1, r1, z1, _, v1⟩ := h1
 obtain ⟨hc2, ys, s2, r2, z2, _, v2⟩ := h2
 have V1 := Lib.hid v1
 have V2 := Lib.hid v2
 clear v1 v2
 go_enter Tryz.func62, Tryz.ntmps62
 go_wp2
 refine za0 (Q := fun W => Code.wp _ _ _ _ W) ?_
 intro W hl hs k1 k2 k3
 have a1 := k1.evS (gs := [w.heap.size + 1 + 1]) (by simp; try omega) 0 rfl
 have a2 := k1.evS (gs := [w.heap.size + 1 + 1]) (by simp; try omega) (0 + 1) rfl
 have a3 := k2.evS (gs := [w.heap.size + 1 + 1]) (by simp; try omega) 0 rfl
 have a4 := k2.evS (gs := [w.heap.size + 1 + 1]) (by simp; try omega) (0 + 1) rfl
 have L0 := Lat.drew W
 have M0 := L0.s [w.heap.size + 1 + 1]
 go_region_held3 (fun w' => LatS W [w.heap.size + 1 + 1] w') (first | assumption | ((repeat refine LatS.set ?_ (by simp) _); assumption))
  (first
    | (go_at_call 103; refine (zeT A1 n1 c1 xs A2 n2 c2 ys _ (s1.later (hl.trans L0)) (s2.later (hl.trans L0)) r1 r2 hn hm).mono ?_; rintro e w1 ⟨A, n, c, zs, rfl, p1, p2, p3, p4, p5, p6, p7⟩; have L1 := L0.trans p6; have M1 := L1.s [w.heap.size + 1 + 1]; have P3 := Lib.hid p3; clear p3)
    | (go_at_call 99; refine (zaI (b1 != b2) A n c _ zs p1 p2 p4 (by omega)).mono ?_; rintro e w2 ⟨b, m, rfl, q1, q2, q3⟩; have L2 := L1.trans q3; have M2 := L2.s [w.heap.size + 1 + 1]; have hk3 := k3.later L2; have c0 := hk3.cell 0; have c1' := hk3.cell 1; have f0 := hk3.frozen 0; have f1 := hk3.frozen 1))
 go_wp2
 refine bodyPost_ret (v := .agg #[.bool b, .slice A m c]) (by simp [results, Tryz.results62, go_sem, c0, c1']) rfl ?_
 have := LongPost.close hk3 q1 (hl.trans L2) (by omega) (Nat.le_trans q2 p5)
 rw [P3.out, znj, ← V1.out, ← V2.out] at this
 exact this
end Go.Proofs.YtpmbglhbcjbkcaaGreat
