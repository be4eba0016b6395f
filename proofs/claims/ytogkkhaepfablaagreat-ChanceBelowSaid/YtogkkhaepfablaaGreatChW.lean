
/- Chance: the plain law of the wide numbers: the words, the number of their digits that count, the first number that is taken. -/
import Derived.Test.YtogkkhaepfablaaGreatChA
import Derived.Test.YtogkkhaepfablaaGreatJ09
import Derived.Test.YtogkkhaepfablaaGreatJ05
import Derived.Test.YtogkkhaepfablaaGreatJ10
namespace Go.Proofs.YtogkkhaepfablaaGreat
open Go.RowKit

/-- The state behind i words. -/
def chSt : Nat → Nat → Nat
  | 0, s => s
  | i + 1, s => chStep (chSt i s)
def chWords (m s : Nat) : List Int := (List.range m).map fun j => (chMix (chStep (chSt j s)) : Int)
theorem chWords_succ (m s : Nat) : chWords (m + 1) s = chWords m s ++ [(chMix (chStep (chSt m s)) : Int)] := by simp [chWords, List.range_succ]
theorem chWords_length (m s : Nat) : (chWords m s).length = m := by simp [chWords]
theorem chWords_in (m s : Nat) : InR W64 (chWords m s) := by
  intro y hy
  simp only [chWords, List.mem_map] at hy
  obtain ⟨j, _, rfl⟩ := hy
  have := chMix_lt (chStep (chSt j s))
  unfold W64
  omega
theorem chSt_lt (m s : Nat) (h : s < 18446744073709551616) : chSt m s < 18446744073709551616 := by
  cases m with
  | zero => exact h
  | succ m => exact chStep_lt _

/-- A number of k binary digits, and the state behind it. -/
def chNum (k s : Nat) : Int := val W64 (chWords ((k + 63) / 64) s) % 2 ^ k
def chDraw (k s : Nat) : Int × Nat := (chNum k s, chSt ((k + 63) / 64) s)
/-- How many binary digits a number has. -/
def blen (n : Int) : Nat := if n = 0 then 0 else Nat.log2 n.toNat + 1
theorem W64_pow7 : (2 : Int) ^ (64 * 7) = W64 ^ 7 := (W64_pow 7).symm
theorem blen_of {n : Int} {l : Nat} (h0 : 0 ≤ n) (h1 : n < 2 ^ l) (h2 : n ≠ 0 → 0 < l ∧ 2 ^ (l - 1) ≤ n) (h3 : n = 0 → l = 0) : l = blen n := by
  unfold blen
  by_cases hn : n = 0
  · rw [if_pos hn]; exact h3 hn
  · rw [if_neg hn]
    obtain ⟨a, b⟩ := h2 hn
    have hne : n.toNat ≠ 0 := by omega
    obtain ⟨j, rfl⟩ : ∃ j, l = j + 1 := ⟨l - 1, by omega⟩
    have hb : 2 ^ j ≤ n.toNat := by
      have e : ((2 ^ j : Nat) : Int) = (2 : Int) ^ j := by simp
      have : (2 : Int) ^ j ≤ n := b
      omega
    have ha : n.toNat < 2 ^ (j + 1) := by
      have e : ((2 ^ (j + 1) : Nat) : Int) = (2 : Int) ^ (j + 1) := by simp
      omega
    have : n.toNat.log2 = j := by
      apply Nat.le_antisymm
      · exact Nat.lt_succ_iff.1 ((Nat.log2_lt hne).2 ha)
      · exact (Nat.le_log2 hne).2 hb
    omega
theorem pow_cast (r : Nat) : ((2 ^ r : Nat) : Int) = 2 ^ r := by simp
theorem P511_pow : P511 = 2 ^ 511 := by
  rw [show (511 : Nat) = 64 * 7 + 63 from rfl, Int.pow_add, W64_pow7]
  decide
theorem blen_lt {n : Int} (h0 : 0 ≤ n) (h1 : n < P511) : blen n ≤ 511 := by
  unfold blen
  split
  · omega
  · have hne : n.toNat ≠ 0 := by omega
    have hlt : n.toNat < 2 ^ 511 := by
      have e1 := pow_cast 511
      rw [P511_pow, ← e1] at h1
      exact (Int.toNat_lt h0).2 h1
    have : n.toNat.log2 < 511 := (Nat.log2_lt hne).2 hlt
    omega
theorem blen_zero {n : Int} (_h0 : 0 ≤ n) : blen n = 0 ↔ n = 0 := by
  unfold blen
  split
  · simp_all
  · constructor
    · intro h; omega
    · intro h; contradiction

def chWid (s : Nat) (n : Int) : Option (Int × Nat) := if blen (n - 1) = 0 then some (0, s) else chTry (chDraw (blen (n - 1))) (fun x => decide (x < n)) 200 s
/-- What Wide returns: the number, the state, the error. -/
def widV (s : Nat) (n : Int) : Int := if n < 1 then 0 else optI (chWid s n)
def widS (s : Nat) (n : Int) : Nat := if n < 1 then 0 else optT 0 (chWid s n)
def widE (s : Nat) (n : Int) : Int := if n < 1 then 2 else optE (chWid s n)

theorem pow_pos2 (r : Nat) : (0 : Int) < 2 ^ r := Int.pow_pos (by decide)
theorem two_add (q r : Nat) : (2 : Int) ^ (64 * q + r) = W64 ^ q * 2 ^ r := by rw [Int.pow_add, W64_pow]
theorem val_zeroL {m : Nat} (xs : List Int) : val W64 (xs ++ List.replicate m 0) = val W64 xs := by rw [val_append, val_zeros]; omega

theorem chNum_bound {k s : Nat} (hk : k ≤ 511) : 0 ≤ chNum k s ∧ chNum k s < P511 := by
  have h1 := Int.emod_nonneg (val W64 (chWords ((k + 63) / 64) s)) (Int.ne_of_gt (pow_pos2 k))
  have h2 := Int.emod_lt_of_pos (val W64 (chWords ((k + 63) / 64) s)) (pow_pos2 k)
  have h3 : (2 : Int) ^ k ≤ P511 := by
    have := Nat.pow_le_pow_right (n := 2) (by decide) hk
    rw [P511_pow, ← pow_cast, ← pow_cast]
    exact Int.ofNat_le.2 this
  unfold chNum
  exact ⟨h1, Int.lt_of_lt_of_le h2 h3⟩

theorem w8_num {os : List Int} (hl : os.length = 8) (hr : InR W64 os) {z : Int} (hz : val W64 os = z) (h1 : z < P511) : W8.ofList os = W8.of z := by
  have hok : (W8.ofList os).ok := W8.ofList_ok (by omega) hr
  have hm : (W8.ofList os).mag = z := by rw [W8.ofList_mag (by omega), hz]
  refine W8.eq_of hok ?_
  rw [W8.toInt, if_pos ((W8.top hok).2 (by rw [hm]; exact h1)), hm]

/-- The words as the loop leaves them. -/
def chOs (m s : Nat) : List Int := chWords m s ++ List.replicate (8 - m) 0
theorem chOs_length {m : Nat} (s : Nat) (h : m ≤ 8) : (chOs m s).length = 8 := by simp [chOs, chWords_length]; omega
theorem chOs_in (m s : Nat) : InR W64 (chOs m s) := (chWords_in m s).append (InR.zeros (by decide) _)
theorem chOs_val (m s : Nat) : val W64 (chOs m s) = val W64 (chWords m s) := val_zeroL _
theorem chOs_succ {m : Nat} (s : Nat) (h : m < 8) : (chOs m s).set m (chMix (chStep (chSt m s)) : Int) = chOs (m + 1) s := by
  unfold chOs
  rw [List.set_append_right _ _ (by rw [chWords_length]; omega), chWords_length, Nat.sub_self, chWords_succ]
  obtain ⟨j, hj⟩ : ∃ j, 8 - m = j + 1 := ⟨7 - m, by omega⟩
  have : 8 - (m + 1) = j := by omega
  rw [hj, this, List.replicate_succ]
  simp

theorem mask_none {k s : Nat} (hk : k ≤ 511) (h : k % 64 = 0) : W8.ofList (chOs ((k + 63) / 64) s) = W8.of (chNum k s) := by
  have hm : (k + 63) / 64 ≤ 8 := by omega
  refine w8_num (chOs_length s hm) (chOs_in _ _) ?_ (chNum_bound hk).2
  rw [chOs_val, chNum]
  refine (Int.emod_eq_of_lt (val_nonneg (by decide) (chWords_in _ _)) ?_).symm
  have := val_lt (B := W64) (by decide) (chWords_in ((k + 63) / 64) s)
  rw [chWords_length, W64_pow] at this
  have e : 64 * ((k + 63) / 64) = k := by omega
  rwa [e] at this

theorem mask_some {k s : Nat} (hk : k ≤ 511) (h : k % 64 ≠ 0) {x : Int} (hx : (chOs ((k + 63) / 64) s)[k / 64]? = some x) :
    W8.ofList ((chOs ((k + 63) / 64) s).set (k / 64) (x % 2 ^ (k % 64))) = W8.of (chNum k s) := by
  obtain ⟨q, hq⟩ : ∃ q, k / 64 = q := ⟨_, rfl⟩
  obtain ⟨r, hr⟩ : ∃ r, k % 64 = r := ⟨_, rfl⟩
  have hkq : k = 64 * q + r := by omega
  have hm : (k + 63) / 64 = q + 1 := by omega
  have hq7 : q ≤ 7 := by omega
  rw [hq, hm] at hx
  rw [hq, hr, hm]
  have hx0 := (chOs_in (q + 1) s).at hx
  have hp := pow_pos2 r
  have hmul : x = 2 ^ r * (x / 2 ^ r) + x % 2 ^ r := (Int.mul_ediv_add_emod x (2 ^ r)).symm
  have hle : x % 2 ^ r ≤ x := by
    have := Int.mul_nonneg (Int.le_of_lt hp) (Int.ediv_nonneg hx0.1 (Int.le_of_lt hp))
    omega
  have hxr := Int.emod_nonneg x (Int.ne_of_gt hp)
  have hxr2 := Int.emod_lt_of_pos x hp
  have hin : InR W64 ((chOs (q + 1) s).set q (x % 2 ^ r)) := (chOs_in _ _).set q ⟨hxr, by omega⟩
  have hlen : ((chOs (q + 1) s).set q (x % 2 ^ r)).length = 8 := by rw [List.length_set]; exact chOs_length s (by omega)
  have hgd : (chOs (q + 1) s).getD q 0 = x := by rw [List.getD_eq_getElem?_getD, hx]; rfl
  have hval := val_set W64 (chOs (q + 1) s) q (x % 2 ^ r) (by rw [chOs_length s (by omega)]; omega)
  rw [hgd] at hval
  have hk2 : (2 : Int) ^ k = W64 ^ q * 2 ^ r := by rw [hkq, two_add]
  have hsum : val W64 (chWords (q + 1) s) = val W64 ((chOs (q + 1) s).set q (x % 2 ^ r)) + 2 ^ k * (x / 2 ^ r) := by
    rw [hval, chOs_val, hk2]
    have : W64 ^ q * (x % 2 ^ r - x) = - (W64 ^ q * 2 ^ r * (x / 2 ^ r)) := by
      rw [Int.mul_assoc, ← Int.mul_neg]
      congr 1
      omega
    rw [this]
    omega
  have hbig : val W64 ((chOs (q + 1) s).set q (x % 2 ^ r)) < 2 ^ k := by
    have h0 := val_split W64 ((chOs (q + 1) s).set q (x % 2 ^ r)) (q + 1) (by rw [hlen]; omega)
    have hd : ((chOs (q + 1) s).set q (x % 2 ^ r)).drop (q + 1) = List.replicate (8 - (q + 1)) 0 := by
      rw [List.drop_set_of_lt (by omega), chOs, List.drop_append_of_le_length (by rw [chWords_length]; omega), List.drop_of_length_le (by rw [chWords_length]; omega)]
      rfl
    rw [hd, val_zeros, val_take_succ] at h0
    have e2 : ((chOs (q + 1) s).set q (x % 2 ^ r)).getD q 0 = x % 2 ^ r := by
      rw [List.getD_eq_getElem?_getD, List.getElem?_set_self (by rw [chOs_length s (by omega)]; omega)]; rfl
    have h3 := val_lt (B := W64) (by decide) (hin.take q)
    rw [List.length_take, hlen, Nat.min_eq_left (by omega)] at h3
    rw [h0, e2, hk2]
    have h4 : W64 ^ q * (x % 2 ^ r) ≤ W64 ^ q * (2 ^ r - 1) := Int.mul_le_mul_of_nonneg_left (by omega) (Int.le_of_lt (Int.pow_pos (by decide)))
    rw [Int.mul_sub] at h4
    omega
  refine w8_num hlen hin ?_ (chNum_bound hk).2
  rw [chNum, hm, hsum, Int.add_mul_emod_self_left]
  exact (Int.emod_eq_of_lt (val_nonneg (by decide) hin) hbig).symm

theorem blen_at {x : W8} (hx : x.ok) {j : Nat} {a : Int} (hd : x.list.drop (j + 1) = List.replicate (8 - (j + 1)) 0) (ha : x.list[j]? = some a) (h0 : a ≠ 0) : 64 * j + bitsOf a = blen x.mag := by
  have hlt : j < 8 := (List.getElem?_eq_some_iff.1 ha).1
  have hl : (x.list.take (j + 1)).length = j + 1 := by rw [List.length_take]; show min (j + 1) 8 = _; omega
  have hx2 : (x.list.take (j + 1))[j]? = some a := by rw [List.getElem?_take_of_lt (by omega)]; exact ha
  have hin : InR W64 (x.list.take (j + 1)) := InR.take hx _
  have hz : Nz (x.list.take (j + 1)) := by
    show (x.list.take (j + 1)).getLast? ≠ some 0
    rw [List.getLast?_eq_getElem?, hl, Nat.add_sub_cancel, hx2]
    intro e
    exact h0 (Option.some.inj e)
  have hv : val W64 (x.list.take (j + 1)) = x.mag := by
    have := val_split W64 x.list (j + 1) (by show j + 1 ≤ 8; omega)
    rw [hd, val_zeros] at this
    show _ = val W64 x.list
    omega
  obtain ⟨h1, h2, _, _⟩ := LenIs.of_last hl hx2 hin hz
  rw [hv] at h1 h2
  have hne : x.list.take (j + 1) ≠ [] := by intro e; rw [e] at hl; simp at hl
  have h3 := h2 hne
  refine blen_of (W8.mag_bounds hx).1 h1 (fun _ => h3) (fun h => ?_)
  rw [h] at h3
  have := pow_pos2 (64 * j + bitsOf a - 1)
  omega
theorem blen_end {x : W8} (hd : x.list.drop 0 = List.replicate 8 0) : blen x.mag = 0 := by
  have : x.mag = 0 := by show val W64 x.list = 0; rw [← List.drop_zero (l := x.list), hd, val_zeros]
  rw [this]; rfl
theorem blen_step {x : W8} {j : Nat} (hj : j < 8) (hd : x.list.drop (j + 1) = List.replicate (8 - (j + 1)) 0) (ha : x.list[j]? = some 0) : x.list.drop j = List.replicate (8 - j) 0 := by
  rw [List.drop_eq_getElem_cons (by show j < 8; exact hj), hd]
  have : x.list[j]'(by show j < 8; exact hj) = 0 := by
    obtain ⟨h, e⟩ := List.getElem?_eq_some_iff.1 ha
    exact e
  rw [this, ← List.replicate_succ]
  congr 1
  omega
end Go.Proofs.YtogkkhaepfablaaGreat
