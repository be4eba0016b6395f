/- Several texts in one: LongsD, Wide. -/
import Derived.Test.YtegejfcfoanaoaaJ08
import Derived.StillTailTactics

/- Numbers of any length: quotient and remainder. -/
namespace Go.Proofs.Ytegejfcfoanaoaa
open Go.RowKit

/-- What a call leaves that returns quotient and remainder. -/
def PartsPost (w : World) (q r : Int) (N M : Nat) (e : Ending) (w' : World) : Prop :=
  ∃ b A n c b' A' n' c', e = .returned (.tuple #[.agg #[.bool b, .slice A n c], .agg #[.bool b', .slice A' n' c']]) ∧ Lg w' b A n c q ∧ n ≤ N ∧ Lg w' b' A' n' c' r ∧ n' ≤ M ∧ Lat w w'
theorem PartsPost.drew {w w' : World} {q r : Int} {N M : Nat} {e : Ending} (h : PartsPost w q r N M e w') : PartsPost w q r N M e w'.drew := by
  obtain ⟨b, A, n, c, b', A', n', c', h1, h2, h3, h4, h5, h6⟩ := h
  exact ⟨b, A, n, c, b', A', n', c', h1, h2.later (Lat.drew _), h3, h4.later (Lat.drew _), h5, h6.trans (Lat.drew _)⟩
theorem abs_sgn (b : Bool) {v : Int} (h : 0 ≤ v) : ((sgn b v).natAbs : Int) = v := by cases b <;> simp [sgn] <;> omega
theorem Lg.len_le {w w' : World} {b b' : Bool} {A A' : Option Addr} {n c n' c' : Nat} {x y : Int} (h : Lg w b A n c x) (k : Lg w' b' A' n' c' y) (hle : x.natAbs ≤ y.natAbs) : n ≤ n' := by
  obtain ⟨_, xs, s1, r1, z1, _, v1⟩ := h
  obtain ⟨_, ys, s2, r2, z2, _, v2⟩ := k
  have e1 := abs_sgn b (val_nonneg W64_pos r1)
  have e2 := abs_sgn b' (val_nonneg W64_pos r2)
  rw [← v1] at e1
  rw [← v2] at e2
  have := len_le_of_val r1 r2 z1 (by omega)
  rw [s1.1, s2.1] at this
  exact this
/-- Both numbers are stored as the call's results. -/
theorem PartsPost.close {w w2 : World} {g g' t t' : Nat} {b b0 b' b0' : Bool} {A A0 A' A0' : Option Addr} {n c n0 c0 n' c' n0' c0' N M : Nat} {q r : Int} (hk : Blk w2 g t #[.bool b0, .slice A0 n0 c0]) (hk' : Blk w2 g' t' #[.bool b0', .slice A0' n0' c0']) (hlg : Lg w2 b A n c q) (hlg' : Lg w2 b' A' n' c' r) (hL : Lat w w2) (hg : w.heap.size ≤ g) (hg' : w.heap.size ≤ g') (hn : n ≤ N) (hm : n' ≤ M) :
    PartsPost w q r N M (.returned (.tuple #[.agg #[.bool b, .slice A n c], .agg #[.bool b', .slice A' n' c']])) ((((w2.setCell ⟨g, 0, none⟩ (.bool b)).setCell ⟨g, 0 + 1, none⟩ (.slice A n c)).setCell ⟨g', 0, none⟩ (.bool b')).setCell ⟨g', 0 + 1, none⟩ (.slice A' n' c')) := by
  have a1 := hlg.apart hk (no_u64 _ _ _ _)
  have a2 := hlg.apart hk' (no_u64 _ _ _ _)
  have a3 := hlg'.apart hk (no_u64 _ _ _ _)
  have a4 := hlg'.apart hk' (no_u64 _ _ _ _)
  exact ⟨_, _, _, _, _, _, _, _, rfl, (((hlg.far (p := ⟨g, 0, none⟩) a1 _).far (p := ⟨g, 0 + 1, none⟩) a1 _).far (p := ⟨g', 0, none⟩) a2 _).far (p := ⟨g', 0 + 1, none⟩) a2 _, hn,
    (((hlg'.far (p := ⟨g, 0, none⟩) a3 _).far (p := ⟨g, 0 + 1, none⟩) a3 _).far (p := ⟨g', 0, none⟩) a4 _).far (p := ⟨g', 0 + 1, none⟩) a4 _, hm,
    (((hL.setCell (p := ⟨g, 0, none⟩) hg _).setCell (p := ⟨g, 0 + 1, none⟩) hg _).setCell (p := ⟨g', 0, none⟩) hg' _).setCell (p := ⟨g', 0 + 1, none⟩) hg' _⟩

end Go.Proofs.Ytegejfcfoanaoaa

/- Integers of 512 bits: plain facts on their eight words. -/
namespace Go.Proofs.Ytegejfcfoanaoaa
open Go.RowKit

/-- Eight words, the lowest one first. -/
@[ext] structure W8 where
  a0 : Int
  a1 : Int
  a2 : Int
  a3 : Int
  a4 : Int
  a5 : Int
  a6 : Int
  a7 : Int
def W8.list (x : W8) : List Int := [x.a0, x.a1, x.a2, x.a3, x.a4, x.a5, x.a6, x.a7]
def W8.ofList (l : List Int) : W8 := ⟨l.getD 0 0, l.getD 1 0, l.getD 2 0, l.getD 3 0, l.getD 4 0, l.getD 5 0, l.getD 6 0, l.getD 7 0⟩
def W8.ok (x : W8) : Prop := InR W64 x.list
def W8.zero : W8 := ⟨0, 0, 0, 0, 0, 0, 0, 0⟩
/-- 2 to the power 512, and to the power 511. -/
def P512 : Int := 13407807929942597099574024998205846127479365820592393377723561443721764030073546976801874298166903427690031858186486050853753882811946569946433649006084096
def P511 : Int := 6703903964971298549787012499102923063739682910296196688861780721860882015036773488400937149083451713845015929093243025426876941405973284973216824503042048
theorem P512_eq : P512 = W64 ^ 8 := by decide
theorem P512_two : P512 = 2 * P511 := by decide
theorem P511_pos : 0 < P511 := by decide
/-- The magnitude's number, and the integer in two's complement. -/
def W8.mag (x : W8) : Int := val W64 x.list
def W8.toInt (x : W8) : Int := if x.a7 < 9223372036854775808 then x.mag else x.mag - P512
/-- The words of a number. -/
def W8.ofMag (z : Int) : W8 := ⟨z % W64, z / W64 % W64, z / W64 ^ 2 % W64, z / W64 ^ 3 % W64, z / W64 ^ 4 % W64, z / W64 ^ 5 % W64, z / W64 ^ 6 % W64, z / W64 ^ 7 % W64⟩
def W8.of (z : Int) : W8 := W8.ofMag (z % P512)

theorem W8.list_length (x : W8) : x.list.length = 8 := rfl
theorem W8.mag_eq (x : W8) : x.mag = x.a0 + W64 * (x.a1 + W64 * (x.a2 + W64 * (x.a3 + W64 * (x.a4 + W64 * (x.a5 + W64 * (x.a6 + W64 * x.a7)))))) := by
  simp [W8.mag, W8.list, val]
theorem W8.ok.at0 {x : W8} (h : x.ok) : 0 ≤ x.a0 ∧ x.a0 < W64 := h _ (by simp [W8.list])
theorem W8.ok.at1 {x : W8} (h : x.ok) : 0 ≤ x.a1 ∧ x.a1 < W64 := h _ (by simp [W8.list])
theorem W8.ok.at2 {x : W8} (h : x.ok) : 0 ≤ x.a2 ∧ x.a2 < W64 := h _ (by simp [W8.list])
theorem W8.ok.at3 {x : W8} (h : x.ok) : 0 ≤ x.a3 ∧ x.a3 < W64 := h _ (by simp [W8.list])
theorem W8.ok.at4 {x : W8} (h : x.ok) : 0 ≤ x.a4 ∧ x.a4 < W64 := h _ (by simp [W8.list])
theorem W8.ok.at5 {x : W8} (h : x.ok) : 0 ≤ x.a5 ∧ x.a5 < W64 := h _ (by simp [W8.list])
theorem W8.ok.at6 {x : W8} (h : x.ok) : 0 ≤ x.a6 ∧ x.a6 < W64 := h _ (by simp [W8.list])
theorem W8.ok.at7 {x : W8} (h : x.ok) : 0 ≤ x.a7 ∧ x.a7 < W64 := h _ (by simp [W8.list])
theorem W8.mag_bounds {x : W8} (h : x.ok) : 0 ≤ x.mag ∧ x.mag < P512 := by
  refine ⟨val_nonneg W64_pos h, ?_⟩
  rw [P512_eq]
  exact val_lt W64_pos h
theorem digit_unique {a b u v : Int} (ha : 0 ≤ a ∧ a < W64) (hb : 0 ≤ b ∧ b < W64) (h : a + W64 * u = b + W64 * v) : a = b ∧ u = v := by
  unfold W64 at *; omega
theorem W8.mag_inj {x y : W8} (hx : x.ok) (hy : y.ok) (h : x.mag = y.mag) : x = y := by
  rw [W8.mag_eq, W8.mag_eq] at h
  obtain ⟨h0, h⟩ := digit_unique hx.at0 hy.at0 h
  obtain ⟨h1, h⟩ := digit_unique hx.at1 hy.at1 h
  obtain ⟨h2, h⟩ := digit_unique hx.at2 hy.at2 h
  obtain ⟨h3, h⟩ := digit_unique hx.at3 hy.at3 h
  obtain ⟨h4, h⟩ := digit_unique hx.at4 hy.at4 h
  obtain ⟨h5, h⟩ := digit_unique hx.at5 hy.at5 h
  obtain ⟨h6, h⟩ := digit_unique hx.at6 hy.at6 h
  exact W8.ext h0 h1 h2 h3 h4 h5 h6 h
/-- The highest word says whether the number is 2^511 or more. -/
theorem W8.top {x : W8} (h : x.ok) : (x.a7 < 9223372036854775808 ↔ x.mag < P511) := by
  have hr : 0 ≤ val W64 [x.a0, x.a1, x.a2, x.a3, x.a4, x.a5, x.a6] ∧ val W64 [x.a0, x.a1, x.a2, x.a3, x.a4, x.a5, x.a6] < W64 ^ 7 := by
    have : InR W64 [x.a0, x.a1, x.a2, x.a3, x.a4, x.a5, x.a6] := fun y hy => h y (by simp [W8.list] at hy ⊢; rcases hy with h | h | h | h | h | h | h <;> simp [h])
    exact ⟨val_nonneg W64_pos this, val_lt W64_pos this⟩
  have e : x.mag = val W64 [x.a0, x.a1, x.a2, x.a3, x.a4, x.a5, x.a6] + W64 ^ 7 * x.a7 := by
    have := val_snoc W64 [x.a0, x.a1, x.a2, x.a3, x.a4, x.a5, x.a6] x.a7
    exact this
  have p : P511 = W64 ^ 7 * 9223372036854775808 := by decide
  have p7 := pw_pos W64_pos 7
  rw [e, p]
  constructor
  · intro hlt
    have := Int.mul_le_mul_of_nonneg_left (show x.a7 + 1 ≤ 9223372036854775808 by omega) (Int.le_of_lt p7)
    rw [Int.mul_add] at this
    omega
  · intro hlt
    rcases Int.lt_or_le x.a7 9223372036854775808 with hh | hh
    · exact hh
    · have := Int.mul_le_mul_of_nonneg_left hh (Int.le_of_lt p7)
      omega
theorem W8.toInt_bounds {x : W8} (h : x.ok) : -P511 ≤ x.toInt ∧ x.toInt < P511 := by
  have hb := W8.mag_bounds h
  have ht := W8.top h
  have := P512_two
  unfold W8.toInt
  split
  · rename_i hh
    have := ht.1 hh
    have := P511_pos
    omega
  · rename_i hh
    have : ¬ x.mag < P511 := fun e => hh (ht.2 e)
    omega
theorem W8.toInt_inj {x y : W8} (hx : x.ok) (hy : y.ok) (h : x.toInt = y.toInt) : x = y := by
  apply W8.mag_inj hx hy
  have b1 := W8.mag_bounds hx
  have b2 := W8.mag_bounds hy
  unfold W8.toInt at h
  split at h <;> split at h <;> omega
theorem W8.ofMag_ok (z : Int) : (W8.ofMag z).ok := by
  have hd : ∀ u : Int, 0 ≤ u % W64 ∧ u % W64 < W64 := fun u => ⟨Int.emod_nonneg _ (by decide), Int.emod_lt_of_pos _ W64_pos⟩
  intro y hy
  simp only [W8.list, W8.ofMag, List.mem_cons, List.not_mem_nil, or_false] at hy
  rcases hy with h | h | h | h | h | h | h | h <;> rw [h] <;> exact hd _
theorem div_step (z : Int) (k : Nat) : z / W64 ^ k = z / W64 ^ k % W64 + W64 * (z / W64 ^ (k + 1)) := by
  have := Int.emod_add_mul_ediv (z / W64 ^ k) W64
  rw [Int.ediv_ediv_of_nonneg (Int.le_of_lt (pw_pos W64_pos k)), ← pw_succ] at this
  omega
theorem W8.ofMag_mag {z : Int} (h0 : 0 ≤ z) (h1 : z < P512) : (W8.ofMag z).mag = z := by
  rw [W8.mag_eq]
  have e0 : z % W64 + W64 * (z / W64) = z := Int.emod_add_mul_ediv z W64
  have e1 : z / W64 % W64 + W64 * (z / W64 ^ 2) = z / W64 := by have := div_step z 1; rw [Int.pow_one] at this; exact this.symm
  have e2 : z / W64 ^ 2 % W64 + W64 * (z / W64 ^ 3) = z / W64 ^ 2 := (div_step z 2).symm
  have e3 : z / W64 ^ 3 % W64 + W64 * (z / W64 ^ 4) = z / W64 ^ 3 := (div_step z 3).symm
  have e4 : z / W64 ^ 4 % W64 + W64 * (z / W64 ^ 5) = z / W64 ^ 4 := (div_step z 4).symm
  have e5 : z / W64 ^ 5 % W64 + W64 * (z / W64 ^ 6) = z / W64 ^ 5 := (div_step z 5).symm
  have e6 : z / W64 ^ 6 % W64 + W64 * (z / W64 ^ 7) = z / W64 ^ 6 := (div_step z 6).symm
  have e7 : z / W64 ^ 7 % W64 = z / W64 ^ 7 := by
    have e8 : z / W64 ^ (7 + 1) = 0 := by
      rw [show 7 + 1 = 8 from rfl, ← P512_eq]
      exact Int.ediv_eq_zero_of_lt h0 h1
    have := div_step z 7
    rw [e8] at this
    omega
  simp only [W8.ofMag]
  rw [e7, e6, e5, e4, e3, e2, e1, e0]
theorem W8.of_ok (z : Int) : (W8.of z).ok := W8.ofMag_ok _
theorem W8.of_mag (z : Int) : (W8.of z).mag = z % P512 :=
  W8.ofMag_mag (Int.emod_nonneg _ (by decide)) (Int.emod_lt_of_pos _ (by decide))
theorem W8.of_toInt {z : Int} (h0 : -P511 ≤ z) (h1 : z < P511) : (W8.of z).toInt = z := by
  have hm := W8.of_mag z
  have ht := W8.top (W8.of_ok z)
  have hp := P512_two
  unfold W8.toInt
  rw [hm] at ht ⊢
  rcases Int.lt_or_le z 0 with hn | hn
  · have e : z % P512 = z + P512 := by
      rw [← Int.add_emod_right]
      exact Int.emod_eq_of_lt (by omega) (by omega)
    rw [e] at ht ⊢
    rw [if_neg (fun hh => by have := ht.1 hh; omega)]
    omega
  · have e : z % P512 = z := Int.emod_eq_of_lt hn (by omega)
    rw [e] at ht ⊢
    rw [if_pos (ht.2 h1)]
theorem W8.eq_of {x : W8} {z : Int} (h : x.ok) (hz : x.toInt = z) : x = W8.of z := by
  have hb := W8.toInt_bounds h
  exact W8.toInt_inj h (W8.of_ok z) (by rw [W8.of_toInt (by omega) (by omega), hz])
theorem W8.zero_ok : W8.zero.ok := by intro y hy; simp [W8.list, W8.zero] at hy; rw [hy]; decide
theorem W8.zero_eq : W8.zero = W8.of 0 := W8.eq_of W8.zero_ok (by decide)
/-- Words, filled up with zeros. -/
theorem W8.ofList_list {l : List Int} (h : l.length ≤ 8) : (W8.ofList l).list = l ++ List.replicate (8 - l.length) 0 := by
  match l, h with
  | [], _ => rfl
  | [_], _ => rfl
  | [_, _], _ => rfl
  | [_, _, _], _ => rfl
  | [_, _, _, _], _ => rfl
  | [_, _, _, _, _], _ => rfl
  | [_, _, _, _, _, _], _ => rfl
  | [_, _, _, _, _, _, _], _ => rfl
  | [_, _, _, _, _, _, _, _], _ => rfl
theorem W8.ofList_ok {l : List Int} (h : l.length ≤ 8) (hr : InR W64 l) : (W8.ofList l).ok := by
  unfold W8.ok
  rw [W8.ofList_list h]
  exact hr.append (InR.zeros W64_pos _)
theorem W8.ofList_mag {l : List Int} (h : l.length ≤ 8) : (W8.ofList l).mag = val W64 l := by
  unfold W8.mag
  rw [W8.ofList_list h, val_append, val_zeros]; omega
end Go.Proofs.Ytegejfcfoanaoaa
