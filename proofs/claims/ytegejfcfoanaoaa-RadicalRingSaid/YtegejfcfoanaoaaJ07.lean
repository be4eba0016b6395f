/- Several texts in one: DividedB, DividedC, Longs. -/
import Derived.Test.YtegejfcfoanaoaaJ06
import Derived.StillTailTactics

/- The packages' functions on words: quotients and remainders by more than one word. -/
namespace Go.Proofs.Ytegejfcfoanaoaa
open Go.RowKit

theorem CmpPost.ge {w w' : World} {p q : Int} {e : Ending} (h : CmpPost w p q e w') (hle : q ≤ p) : ∃ r : Int, e = .returned (.int .i64 r) ∧ 0 ≤ r ∧ r ≤ 1000000 ∧ Lat w w' := by
  obtain ⟨r, rfl, _, h2, h3, h4, h5⟩ := h
  refine ⟨r, rfl, ?_, h4.2, h5⟩
  rcases Int.lt_or_eq_of_le hle with hlt | he
  · have := h3 hlt; omega
  · have := h2 he.symm; omega
theorem CmpPost.lt {w w' : World} {p q : Int} {e : Ending} (h : CmpPost w p q e w') (hlt : p < q) : ∃ r : Int, e = .returned (.int .i64 r) ∧ r < 0 ∧ -1000000 ≤ r ∧ Lat w w' := by
  obtain ⟨r, rfl, h1, _, _, h4, h5⟩ := h
  exact ⟨r, rfl, h1 hlt, h4.1, h5⟩
theorem len_le_of_val {xs ys : List Int} (hx : InR W64 xs) (hy : InR W64 ys) (zx : Nz xs) (h : val W64 xs ≤ val W64 ys) : xs.length ≤ ys.length := by
  rcases Nat.lt_or_ge ys.length xs.length with hlt | hge
  · have := val_lt_of_length W64_pos hy hx zx hlt
    omega
  · exact hge

/-- Bit by bit, from the top down to the bit j. -/
def BitInv (X Y : Int) (n j : Nat) (R : Int) (qs : List Int) : Prop :=
  qs.length = n ∧ InR W64 qs ∧ (0 ≤ R ∧ R < Y * 2 ^ j) ∧ X = val W64 qs * Y + R ∧ (2 : Int) ^ j ∣ val W64 qs
theorem BitInv.skip {X Y : Int} {n k : Nat} {R : Int} {qs : List Int} (h : BitInv X Y n (k + 1) R qs) (hlt : R < Y * 2 ^ k) : BitInv X Y n k R qs := by
  obtain ⟨h1, h2, h3, h4, h5⟩ := h
  refine ⟨h1, h2, ⟨h3.1, hlt⟩, h4, ?_⟩
  obtain ⟨c, hc⟩ := h5
  exact ⟨2 * c, by rw [hc, Int.pow_succ]; grind⟩
/-- The word in which a bit is set. -/
theorem BitInv.word {X Y : Int} {n k : Nat} {R o : Int} {qs : List Int} (h : BitInv X Y n (k + 1) R qs) (hk : k / 64 < n) (ho : qs[k / 64]? = some o) :
    bits .or .u64 o (shlW 1 (k % 64)) = o + 2 ^ (k % 64) ∧ 0 ≤ o + 2 ^ (k % 64) ∧ o + 2 ^ (k % 64) < W64 := by
  obtain ⟨h1, h2, h3, h4, ⟨c, hc⟩⟩ := h
  have hro := h2.at ho
  have hr : k % 64 < 64 := Nat.mod_lt _ (by decide)
  obtain ⟨q, hq⟩ : ∃ q, q = k / 64 := ⟨_, rfl⟩
  obtain ⟨r, hrr⟩ : ∃ r, r = k % 64 := ⟨_, rfl⟩
  have hkq : k = 64 * q + r := by omega
  rw [← hrr] at hr ⊢
  rw [← hq] at ho hk
  have hsplit := val_split W64 qs q (by omega)
  have hdrop : val W64 (qs.drop q) = o + W64 * val W64 (qs.drop (q + 1)) := by
    obtain ⟨lx, ex⟩ := List.getElem?_eq_some_iff.1 ho
    rw [List.drop_eq_getElem_cons lx, ex, val_cons]
  have hlt := val_lt W64_pos (h2.take q)
  rw [List.length_take, Nat.min_eq_left (by omega)] at hlt
  have hnn := val_nonneg W64_pos (h2.take q)
  have hp := pw_pos W64_pos q
  have e1 : (2 : Int) ^ (k + 1) = W64 ^ q * 2 ^ (r + 1) := by rw [W64_pow, ← Int.pow_add]; congr 1; omega
  have hz : val W64 (qs.take q) = 0 := by
    have hm : val W64 (qs.take q) % W64 ^ q = 0 := by
      have : val W64 (qs.take q) = W64 ^ q * (2 ^ (r + 1) * c - val W64 (qs.drop q)) := by
        rw [e1] at hc
        generalize W64 ^ q = u at *
        generalize (2 : Int) ^ (r + 1) = z at *
        grind
      rw [this, Int.mul_emod_right]
    rw [Int.emod_eq_of_lt hnn hlt] at hm
    exact hm
  rw [hz, hc, e1, hdrop] at hsplit
  have e2 : 2 ^ (r + 1) * c = o + W64 * val W64 (qs.drop (q + 1)) := by
    have : W64 ^ q * (2 ^ (r + 1) * c) = W64 ^ q * (o + W64 * val W64 (qs.drop (q + 1))) := by
      generalize W64 ^ q = u at *
      generalize (2 : Int) ^ (r + 1) = z at *
      grind
    exact Int.eq_of_mul_eq_mul_left (by omega) this
  have hW : W64 = 2 ^ (r + 1) * 2 ^ (63 - r) := by rw [← Int.pow_add, show r + 1 + (63 - r) = 64 by omega]; rfl
  have p1 := two_pow_pos (r + 1)
  have hoe : o = 2 ^ (r + 1) * (c - 2 ^ (63 - r) * val W64 (qs.drop (q + 1))) := by
    rw [hW] at e2
    generalize (2 : Int) ^ (r + 1) = z at *
    generalize (2 : Int) ^ (63 - r) = z2 at *
    grind
  generalize c - 2 ^ (63 - r) * val W64 (qs.drop (q + 1)) = b at hoe
  have hb0 : 0 ≤ b := by
    rcases Int.lt_or_le b 0 with hn | hn
    · have := Int.mul_lt_mul_of_pos_left hn p1
      omega
    · exact hn
  have hbl : b < 2 ^ (63 - r) := by
    have := hro.2
    rw [hoe, hW] at this
    exact Int.lt_of_mul_lt_mul_left this (Int.le_of_lt p1)
  have hs : shlW 1 r = 2 ^ r := by
    unfold shlW
    rw [Int.one_mul]
    refine Int.emod_eq_of_lt (Int.le_of_lt (two_pow_pos r)) ?_
    have : (2 : Int) ^ r < 2 ^ 64 := pw_lt (by decide) (by omega)
    exact this
  have hr2 : (2 : Int) ^ r < 2 ^ (r + 1) := pw_lt (by decide) (by omega)
  have hr0 := two_pow_pos r
  have hsum : 2 ^ (r + 1) * b + 2 ^ (r + 1) ≤ W64 := by
    have := Int.mul_le_mul_of_nonneg_left (show b + 1 ≤ 2 ^ (63 - r) by omega) (Int.le_of_lt p1)
    rw [← hW, Int.mul_add] at this
    omega
  refine ⟨?_, by omega, by omega⟩
  rw [hs]
  have hor := or_disjoint (r := r + 1) (a := 2 ^ r) (b := b) (by omega) ⟨by omega, hr2⟩ hb0 (by omega)
  rw [← hoe] at hor
  have h2r : (2 : Int) ^ r < W64 := by have : (2 : Int) ^ r < 2 ^ 64 := pw_lt (by decide) (by omega); exact this
  have hc2 : bits .or .u64 o (2 ^ r) = bits .or .u64 (2 ^ r) o := by
    unfold W64 at h2r hro
    rw [u64_or _ _ hro.1 hro.2 (by omega) h2r, u64_or _ _ (by omega) h2r hro.1 hro.2, Nat.or_comm]
  rw [hc2, hor]; omega
theorem BitInv.take_ {X Y : Int} {n k : Nat} {R o : Int} {qs : List Int} (h : BitInv X Y n (k + 1) R qs) (hk : k / 64 < n) (ho : qs[k / 64]? = some o) (hge : Y * 2 ^ k ≤ R) :
    BitInv X Y n k (R - Y * 2 ^ k) (qs.set (k / 64) (o + 2 ^ (k % 64))) := by
  have hw := h.word hk ho
  obtain ⟨h1, h2, h3, h4, h5⟩ := h
  have hv : val W64 (qs.set (k / 64) (o + 2 ^ (k % 64))) = val W64 qs + 2 ^ k := by
    rw [val_set _ _ _ _ (by omega), List.getD_eq_getElem?_getD, ho, W64_pow]
    show _ + 2 ^ (64 * (k / 64)) * (o + 2 ^ (k % 64) - o) = _
    have e : o + 2 ^ (k % 64) - o = 2 ^ (k % 64) := by omega
    rw [e, ← Int.pow_add, show 64 * (k / 64) + k % 64 = k by omega]
  refine ⟨by simpa using h1, h2.set _ hw.2, ⟨by omega, ?_⟩, ?_, ?_⟩
  · have := h3.2
    rw [Int.pow_succ] at this
    have e : Y * (2 ^ k * 2) = Y * 2 ^ k + Y * 2 ^ k := by grind
    omega
  · rw [hv, h4]; grind
  · rw [hv]
    obtain ⟨c, hc⟩ := h5
    exact ⟨2 * c + 1, by rw [hc, Int.pow_succ]; grind⟩
theorem BitInv.done {X Y : Int} {n : Nat} {R : Int} {qs : List Int} (h : BitInv X Y n 0 R qs) : val W64 qs = X / Y ∧ R = X % Y := by
  obtain ⟨_, _, hr, hv, _⟩ := h
  rw [Int.pow_zero, Int.mul_one] at hr
  rw [hv]
  constructor
  · rw [Int.add_comm, Int.add_mul_ediv_right _ _ (by omega), Int.ediv_eq_zero_of_lt hr.1 hr.2]; omega
  · rw [Int.add_comm, Int.add_mul_emod_self_right, Int.emod_eq_of_lt hr.1 hr.2]
/-- Where the bits begin. -/
theorem BitInv.start {xs ys : List Int} {la lb j : Nat} (hx : InR W64 xs) (ha : LenIs xs la) (hb : LenIs ys lb) (hy : ys ≠ []) (hj : la ≤ lb + j - 1) (hlb : 1 ≤ lb) : BitInv (val W64 xs) (val W64 ys) xs.length j (val W64 xs) (List.replicate xs.length 0) := by
  refine ⟨by simp, InR.zeros W64_pos _, ⟨val_nonneg W64_pos hx, ?_⟩, by rw [val_zeros]; omega, by rw [val_zeros]; exact Int.dvd_zero _⟩
  obtain ⟨b1, b2⟩ := hb.2.1 hy
  have h1 : (2 : Int) ^ la ≤ 2 ^ (lb - 1 + j) := pw_le (by decide) (by omega)
  rw [Int.pow_add] at h1
  have h2 := Int.mul_le_mul_of_nonneg_right b2 (Int.le_of_lt (two_pow_pos j))
  have := ha.1
  omega
end Go.Proofs.Ytegejfcfoanaoaa

/- The packages' functions on words: 'divided'. -/
namespace Go.Proofs.Ytegejfcfoanaoaa
open Go.RowKit

end Go.Proofs.Ytegejfcfoanaoaa

/- Numbers of any length: what lies apart, and the first methods. -/
namespace Go.Proofs.Ytegejfcfoanaoaa
open Go.RowKit

theorem Lg.apart {w : World} {b : Bool} {A : Option Addr} {n c : Nat} {z : Int} {g : Nat} {t : TypeId} {cs : Array Value} (h : Lg w b A n c z) (hb : Blk w g t cs) (hno : ∀ (j : Nat) (x : Int), cs[j]? ≠ some (.int .u64 x)) : 0 < n → ∀ a, A = some a → a.block ≠ g := by
  obtain ⟨_, xs, hs, _⟩ := h
  exact hs.apart hb hno
theorem Lg.far {w : World} {b : Bool} {A : Option Addr} {n c : Nat} {z : Int} (h : Lg w b A n c z) {p : Addr} (hp : 0 < n → ∀ a, A = some a → a.block ≠ p.block) (u : Value) : Lg (w.setCell p u) b A n c z := by
  obtain ⟨hn, xs, hs, r⟩ := h
  exact ⟨hn, xs, hs.off' hp u, r⟩
theorem no_u64 (b : Bool) (A : Option Addr) (n c : Nat) : ∀ (j : Nat) (x : Int), (#[.bool b, .slice A n c] : Array Value)[j]? ≠ some (.int .u64 x) := by
  intro j x h
  match j with
  | 0 => simp at h
  | 1 => simp at h
  | j + 2 => simp at h
/-- The number is stored as the call's result. -/
theorem LongPost.close {w w2 : World} {g t : Nat} {b b0 : Bool} {A A0 : Option Addr} {n c n0 c0 N : Nat} {z : Int} (hk : Blk w2 g t #[.bool b0, .slice A0 n0 c0]) (hlg : Lg w2 b A n c z) (hL : Lat w w2) (hg : w.heap.size ≤ g) (hn : n ≤ N) :
    LongPost w z N (.returned (.agg #[.bool b, .slice A n c])) ((w2.setCell ⟨g, 0, none⟩ (.bool b)).setCell ⟨g, 0 + 1, none⟩ (.slice A n c)) := by
  have ha := hlg.apart hk (no_u64 _ _ _ _)
  exact ⟨_, _, _, _, rfl, (hlg.far (p := ⟨g, 0, none⟩) ha _).far (p := ⟨g, 0 + 1, none⟩) ha _, hn, (hL.setCell (p := ⟨g, 0, none⟩) hg _).setCell (p := ⟨g, 0 + 1, none⟩) hg _⟩
theorem sgn_neg (b : Bool) (z : Int) : sgn (!b) z = - sgn b z := by cases b <;> simp [sgn]
theorem sgn_mul (b c : Bool) (x y : Int) : sgn (b != c) (x * y) = sgn b x * sgn c y := by
  cases b <;> cases c <;> simp [sgn, Int.mul_neg, Int.neg_mul]

set_option maxHeartbeats 400000 in
theorem ltimes_any (b1 : Bool) (A1 : Option Addr) (n1 c1 : Nat) (x : Int) (b2 : Bool) (A2 : Option Addr) (n2 c2 : Nat) (y : Int) (w : World) (h1 : Lg w b1 A1 n1 c1 x) (h2 : Lg w b2 A2 n2 c2 y) (hn : n1 ≤ 1000000) (hm : n2 ≤ 1000000) :
    Calls Try.prog 21 #[.agg #[.bool b1, .slice A1 n1 c1], .agg #[.bool b2, .slice A2 n2 c2]] w (LongPost w (x * y) (n1 + n2)) := by
  obtain ⟨hc1, xs, s1, r1, z1, _, v1⟩ := h1
  obtain ⟨hc2, ys, s2, r2, z2, _, v2⟩ := h2
  have V1 := Lib.hid v1
  have V2 := Lib.hid v2
  clear v1 v2
  go_enter Try.func21, Try.ntmps21
  go_wp2
  refine name3 (Q := fun W => Code.wp _ _ _ _ W) ?_
  intro W hl hs k1 k2 k3
  have a1 := k1.evS (gs := [w.heap.size + 1 + 1]) (by simp; try omega) 0 rfl
  have a2 := k1.evS (gs := [w.heap.size + 1 + 1]) (by simp; try omega) (0 + 1) rfl
  have a3 := k2.evS (gs := [w.heap.size + 1 + 1]) (by simp; try omega) 0 rfl
  have a4 := k2.evS (gs := [w.heap.size + 1 + 1]) (by simp; try omega) (0 + 1) rfl
  have L0 := Lat.drew W
  have M0 := L0.s [w.heap.size + 1 + 1]
  go_region_held3 (fun w' => LatS W [w.heap.size + 1 + 1] w') (first | assumption | ((repeat refine LatS.set ?_ (by simp) _); assumption))
    (first
      | (go_at_call 36; refine (multiplied_any A1 n1 c1 xs A2 n2 c2 ys _ (s1.later (hl.trans L0)) (s2.later (hl.trans L0)) r1 r2 hn hm).mono ?_; rintro e w1 ⟨A, n, c, zs, rfl, p1, p2, p3, p4, p5, p6, p7⟩; have L1 := L0.trans p6; have M1 := L1.s [w.heap.size + 1 + 1]; have P3 := Lib.hid p3; clear p3)
      | (go_at_call 31; refine (trimmed_any (b1 != b2) A n c _ zs p1 p2 p4 (by omega)).mono ?_; rintro e w2 ⟨b, m, rfl, q1, q2, q3⟩; have L2 := L1.trans q3; have M2 := L2.s [w.heap.size + 1 + 1]; have hk3 := k3.later L2; have c0 := hk3.cell 0; have c1' := hk3.cell 1; have f0 := hk3.frozen 0; have f1 := hk3.frozen 1))
  go_wp2
  refine bodyPost_ret (v := .agg #[.bool b, .slice A m c]) (by simp [results, Try.results21, go_sem, c0, c1']) rfl ?_
  have := LongPost.close hk3 q1 (hl.trans L2) (by omega) (Nat.le_trans q2 p5)
  rw [P3.out, sgn_mul, ← V1.out, ← V2.out] at this
  exact this
end Go.Proofs.Ytegejfcfoanaoaa
