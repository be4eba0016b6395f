/- Several texts in one: ChW, ChN. -/
import Derived.Test.YtogkkhaepfablaaK03
import Derived.Test.YtogkkhaepfablaaJ09
import Derived.Test.YtogkkhaepfablaaJ05
import Derived.Test.YtogkkhaepfablaaJ10
import Derived.Test.YtogkkhaepfablaaK04
import Derived.RangeFuncGives
import Derived.LoopNIn
import Derived.LoopIn
import Derived.TacticsInMore
import Derived.WalkMore

/- Chance: the plain law of the wide numbers: the words, the number of their digits that count, the first number that is taken. -/
namespace Go.Proofs.Ytogkkhaepfablaa
open Go.RowKit

/-- The state behind i words. -/
def chSt : Nat → Nat → Nat
  | 0, s => s
  | i + 1, s => chStep (chSt i s)
def chWords (m s : Nat) : List Int := (List.range m).map fun j => (chMix (chStep (chSt j s)) : Int)
theorem chWords_succ (m s : Nat) : chWords (m + 1) s = chWords m s ++ [(chMix (chStep (chSt m s)) : Int)] := by simp [chWords, List.range_succ]
theorem chWords_length (m s : Nat) : (chWords m s).length = m := by simp [chWords]
theorem chWords_in (m s : Nat) : InR W64 (chWords m s) := by
  intro y hy
  simp only [chWords, List.mem_map] at hy
  obtain ⟨j, _, rfl⟩ := hy
  have := chMix_lt (chStep (chSt j s))
  unfold W64
  omega
theorem chSt_lt (m s : Nat) (h : s < 18446744073709551616) : chSt m s < 18446744073709551616 := by
  cases m with
  | zero => exact h
  | succ m => exact chStep_lt _

/-- A number of k binary digits, and the state behind it. -/
def chNum (k s : Nat) : Int := val W64 (chWords ((k + 63) / 64) s) % 2 ^ k
def chDraw (k s : Nat) : Int × Nat := (chNum k s, chSt ((k + 63) / 64) s)
/-- How many binary digits a number has. -/
def blen (n : Int) : Nat := if n = 0 then 0 else Nat.log2 n.toNat + 1
theorem W64_pow7 : (2 : Int) ^ (64 * 7) = W64 ^ 7 := (W64_pow 7).symm
theorem blen_of {n : Int} {l : Nat} (h0 : 0 ≤ n) (h1 : n < 2 ^ l) (h2 : n ≠ 0 → 0 < l ∧ 2 ^ (l - 1) ≤ n) (h3 : n = 0 → l = 0) : l = blen n := by
  unfold blen
  by_cases hn : n = 0
  · rw [if_pos hn]; exact h3 hn
  · rw [if_neg hn]
    obtain ⟨a, b⟩ := h2 hn
    have hne : n.toNat ≠ 0 := by omega
    obtain ⟨j, rfl⟩ : ∃ j, l = j + 1 := ⟨l - 1, by omega⟩
    have hb : 2 ^ j ≤ n.toNat := by
      have e : ((2 ^ j : Nat) : Int) = (2 : Int) ^ j := by simp
      have : (2 : Int) ^ j ≤ n := b
      omega
    have ha : n.toNat < 2 ^ (j + 1) := by
      have e : ((2 ^ (j + 1) : Nat) : Int) = (2 : Int) ^ (j + 1) := by simp
      omega
    have : n.toNat.log2 = j := by
      apply Nat.le_antisymm
      · exact Nat.lt_succ_iff.1 ((Nat.log2_lt hne).2 ha)
      · exact (Nat.le_log2 hne).2 hb
    omega
theorem pow_cast (r : Nat) : ((2 ^ r : Nat) : Int) = 2 ^ r := by simp
theorem P511_pow : P511 = 2 ^ 511 := by
  rw [show (511 : Nat) = 64 * 7 + 63 from rfl, Int.pow_add, W64_pow7]
  decide
theorem blen_lt {n : Int} (h0 : 0 ≤ n) (h1 : n < P511) : blen n ≤ 511 := by
  unfold blen
  split
  · omega
  · have hne : n.toNat ≠ 0 := by omega
    have hlt : n.toNat < 2 ^ 511 := by
      have e1 := pow_cast 511
      rw [P511_pow, ← e1] at h1
      exact (Int.toNat_lt h0).2 h1
    have : n.toNat.log2 < 511 := (Nat.log2_lt hne).2 hlt
    omega
def chWid (s : Nat) (n : Int) : Option (Int × Nat) := if blen (n - 1) = 0 then some (0, s) else chTry (chDraw (blen (n - 1))) (fun x => decide (x < n)) 200 s
/-- What Wide returns: the number, the state, the error. -/
def widV (s : Nat) (n : Int) : Int := if n < 1 then 0 else optI (chWid s n)
def widS (s : Nat) (n : Int) : Nat := if n < 1 then 0 else optT 0 (chWid s n)
def widE (s : Nat) (n : Int) : Int := if n < 1 then 2 else optE (chWid s n)

theorem pow_pos2 (r : Nat) : (0 : Int) < 2 ^ r := Int.pow_pos (by decide)
theorem two_add (q r : Nat) : (2 : Int) ^ (64 * q + r) = W64 ^ q * 2 ^ r := by rw [Int.pow_add, W64_pow]
theorem val_zeroL {m : Nat} (xs : List Int) : val W64 (xs ++ List.replicate m 0) = val W64 xs := by rw [val_append, val_zeros]; omega

theorem chNum_bound {k s : Nat} (hk : k ≤ 511) : 0 ≤ chNum k s ∧ chNum k s < P511 := by
  have h1 := Int.emod_nonneg (val W64 (chWords ((k + 63) / 64) s)) (Int.ne_of_gt (pow_pos2 k))
  have h2 := Int.emod_lt_of_pos (val W64 (chWords ((k + 63) / 64) s)) (pow_pos2 k)
  have h3 : (2 : Int) ^ k ≤ P511 := by
    have := Nat.pow_le_pow_right (n := 2) (by decide) hk
    rw [P511_pow, ← pow_cast, ← pow_cast]
    exact Int.ofNat_le.2 this
  unfold chNum
  exact ⟨h1, Int.lt_of_lt_of_le h2 h3⟩

theorem w8_num {os : List Int} (hl : os.length = 8) (hr : InR W64 os) {z : Int} (hz : val W64 os = z) (h1 : z < P511) : W8.ofList os = W8.of z := by
  have hok : (W8.ofList os).ok := W8.ofList_ok (by omega) hr
  have hm : (W8.ofList os).mag = z := by rw [W8.ofList_mag (by omega), hz]
  refine W8.eq_of hok ?_
  rw [W8.toInt, if_pos ((W8.top hok).2 (by rw [hm]; exact h1)), hm]

/-- The words as the loop leaves them. -/
def chOs (m s : Nat) : List Int := chWords m s ++ List.replicate (8 - m) 0
theorem chOs_length {m : Nat} (s : Nat) (h : m ≤ 8) : (chOs m s).length = 8 := by simp [chOs, chWords_length]; omega
theorem chOs_in (m s : Nat) : InR W64 (chOs m s) := (chWords_in m s).append (InR.zeros (by decide) _)
theorem chOs_val (m s : Nat) : val W64 (chOs m s) = val W64 (chWords m s) := val_zeroL _
theorem chOs_succ {m : Nat} (s : Nat) (h : m < 8) : (chOs m s).set m (chMix (chStep (chSt m s)) : Int) = chOs (m + 1) s := by
  unfold chOs
  rw [List.set_append_right _ _ (by rw [chWords_length]; omega), chWords_length, Nat.sub_self, chWords_succ]
  obtain ⟨j, hj⟩ : ∃ j, 8 - m = j + 1 := ⟨7 - m, by omega⟩
  have : 8 - (m + 1) = j := by omega
  rw [hj, this, List.replicate_succ]
  simp

theorem mask_none {k s : Nat} (hk : k ≤ 511) (h : k % 64 = 0) : W8.ofList (chOs ((k + 63) / 64) s) = W8.of (chNum k s) := by
  have hm : (k + 63) / 64 ≤ 8 := by omega
  refine w8_num (chOs_length s hm) (chOs_in _ _) ?_ (chNum_bound hk).2
  rw [chOs_val, chNum]
  refine (Int.emod_eq_of_lt (val_nonneg (by decide) (chWords_in _ _)) ?_).symm
  have := val_lt (B := W64) (by decide) (chWords_in ((k + 63) / 64) s)
  rw [chWords_length, W64_pow] at this
  have e : 64 * ((k + 63) / 64) = k := by omega
  rwa [e] at this

theorem mask_some {k s : Nat} (hk : k ≤ 511) (h : k % 64 ≠ 0) {x : Int} (hx : (chOs ((k + 63) / 64) s)[k / 64]? = some x) :
    W8.ofList ((chOs ((k + 63) / 64) s).set (k / 64) (x % 2 ^ (k % 64))) = W8.of (chNum k s) := by
  obtain ⟨q, hq⟩ : ∃ q, k / 64 = q := ⟨_, rfl⟩
  obtain ⟨r, hr⟩ : ∃ r, k % 64 = r := ⟨_, rfl⟩
  have hkq : k = 64 * q + r := by omega
  have hm : (k + 63) / 64 = q + 1 := by omega
  have hq7 : q ≤ 7 := by omega
  rw [hq, hm] at hx
  rw [hq, hr, hm]
  have hx0 := (chOs_in (q + 1) s).at hx
  have hp := pow_pos2 r
  have hmul : x = 2 ^ r * (x / 2 ^ r) + x % 2 ^ r := (Int.mul_ediv_add_emod x (2 ^ r)).symm
  have hle : x % 2 ^ r ≤ x := by
    have := Int.mul_nonneg (Int.le_of_lt hp) (Int.ediv_nonneg hx0.1 (Int.le_of_lt hp))
    omega
  have hxr := Int.emod_nonneg x (Int.ne_of_gt hp)
  have hxr2 := Int.emod_lt_of_pos x hp
  have hin : InR W64 ((chOs (q + 1) s).set q (x % 2 ^ r)) := (chOs_in _ _).set q ⟨hxr, by omega⟩
  have hlen : ((chOs (q + 1) s).set q (x % 2 ^ r)).length = 8 := by rw [List.length_set]; exact chOs_length s (by omega)
  have hgd : (chOs (q + 1) s).getD q 0 = x := by rw [List.getD_eq_getElem?_getD, hx]; rfl
  have hval := val_set W64 (chOs (q + 1) s) q (x % 2 ^ r) (by rw [chOs_length s (by omega)]; omega)
  rw [hgd] at hval
  have hk2 : (2 : Int) ^ k = W64 ^ q * 2 ^ r := by rw [hkq, two_add]
  have hsum : val W64 (chWords (q + 1) s) = val W64 ((chOs (q + 1) s).set q (x % 2 ^ r)) + 2 ^ k * (x / 2 ^ r) := by
    rw [hval, chOs_val, hk2]
    have : W64 ^ q * (x % 2 ^ r - x) = - (W64 ^ q * 2 ^ r * (x / 2 ^ r)) := by
      rw [Int.mul_assoc, ← Int.mul_neg]
      congr 1
      omega
    rw [this]
    omega
  have hbig : val W64 ((chOs (q + 1) s).set q (x % 2 ^ r)) < 2 ^ k := by
    have h0 := val_split W64 ((chOs (q + 1) s).set q (x % 2 ^ r)) (q + 1) (by rw [hlen]; omega)
    have hd : ((chOs (q + 1) s).set q (x % 2 ^ r)).drop (q + 1) = List.replicate (8 - (q + 1)) 0 := by
      rw [List.drop_set_of_lt (by omega), chOs, List.drop_append_of_le_length (by rw [chWords_length]; omega), List.drop_of_length_le (by rw [chWords_length]; omega)]
      rfl
    rw [hd, val_zeros, val_take_succ] at h0
    have e2 : ((chOs (q + 1) s).set q (x % 2 ^ r)).getD q 0 = x % 2 ^ r := by
      rw [List.getD_eq_getElem?_getD, List.getElem?_set_self (by rw [chOs_length s (by omega)]; omega)]; rfl
    have h3 := val_lt (B := W64) (by decide) (hin.take q)
    rw [List.length_take, hlen, Nat.min_eq_left (by omega)] at h3
    rw [h0, e2, hk2]
    have h4 : W64 ^ q * (x % 2 ^ r) ≤ W64 ^ q * (2 ^ r - 1) := Int.mul_le_mul_of_nonneg_left (by omega) (Int.le_of_lt (Int.pow_pos (by decide)))
    rw [Int.mul_sub] at h4
    omega
  refine w8_num hlen hin ?_ (chNum_bound hk).2
  rw [chNum, hm, hsum, Int.add_mul_emod_self_left]
  exact (Int.emod_eq_of_lt (val_nonneg (by decide) hin) hbig).symm

theorem blen_at {x : W8} (hx : x.ok) {j : Nat} {a : Int} (hd : x.list.drop (j + 1) = List.replicate (8 - (j + 1)) 0) (ha : x.list[j]? = some a) (h0 : a ≠ 0) : 64 * j + bitsOf a = blen x.mag := by
  have hlt : j < 8 := (List.getElem?_eq_some_iff.1 ha).1
  have hl : (x.list.take (j + 1)).length = j + 1 := by rw [List.length_take]; show min (j + 1) 8 = _; omega
  have hx2 : (x.list.take (j + 1))[j]? = some a := by rw [List.getElem?_take_of_lt (by omega)]; exact ha
  have hin : InR W64 (x.list.take (j + 1)) := InR.take hx _
  have hz : Nz (x.list.take (j + 1)) := by
    show (x.list.take (j + 1)).getLast? ≠ some 0
    rw [List.getLast?_eq_getElem?, hl, Nat.add_sub_cancel, hx2]
    intro e
    exact h0 (Option.some.inj e)
  have hv : val W64 (x.list.take (j + 1)) = x.mag := by
    have := val_split W64 x.list (j + 1) (by show j + 1 ≤ 8; omega)
    rw [hd, val_zeros] at this
    show _ = val W64 x.list
    omega
  obtain ⟨h1, h2, _, _⟩ := LenIs.of_last hl hx2 hin hz
  rw [hv] at h1 h2
  have hne : x.list.take (j + 1) ≠ [] := by intro e; rw [e] at hl; simp at hl
  have h3 := h2 hne
  refine blen_of (W8.mag_bounds hx).1 h1 (fun _ => h3) (fun h => ?_)
  rw [h] at h3
  have := pow_pos2 (64 * j + bitsOf a - 1)
  omega
theorem blen_end {x : W8} (hd : x.list.drop 0 = List.replicate 8 0) : blen x.mag = 0 := by
  have : x.mag = 0 := by show val W64 x.list = 0; rw [← List.drop_zero (l := x.list), hd, val_zeros]
  rw [this]; rfl
theorem blen_step {x : W8} {j : Nat} (hj : j < 8) (hd : x.list.drop (j + 1) = List.replicate (8 - (j + 1)) 0) (ha : x.list[j]? = some 0) : x.list.drop j = List.replicate (8 - j) 0 := by
  rw [List.drop_eq_getElem_cons (by show j < 8; exact hj), hd]
  have : x.list[j]'(by show j < 8; exact hj) = 0 := by
    obtain ⟨h, e⟩ := List.getElem?_eq_some_iff.1 ha
    exact e
  rw [this, ← List.replicate_succ]
  congr 1
  omega
end Go.Proofs.Ytogkkhaepfablaa

/- wide: Sign and Cmp; chance: length. -/
namespace Go.Proofs.Ytogkkhaepfablaa
open Go.RowKit
set_option linter.unusedSimpArgs false

theorem field_num0 (b : Bool) (u : W8) (W : World) : (Instr.field 101 (.agg #[.bool b, .int .u64 u.a0, .int .u64 u.a1, .int .u64 u.a2, .int .u64 u.a3, .int .u64 u.a4, .int .u64 u.a5, .int .u64 u.a6, .int .u64 u.a7]) 0).run Try.prog W = .ok (.bool b) W := by kernel_rfl

set_option maxRecDepth 100000 in
set_option maxHeartbeats 1000000 in
theorem wSign_any (x : W8) (hx : x.ok) (w : World) : Calls Try.prog 32 #[.agg #[.int .u64 x.a0, .int .u64 x.a1, .int .u64 x.a2, .int .u64 x.a3, .int .u64 x.a4, .int .u64 x.a5, .int .u64 x.a6, .int .u64 x.a7]] w (fun e w' => e = .returned (.int .i64 (sideOf x.toInt)) ∧ Lat w w') := by
  have HR := read_any x hx
  have HF := field_num0
  have HQ : Hid (∀ w, (binOp .eql 44 (.agg #[.int .u64 x.a0, .int .u64 x.a1, .int .u64 x.a2, .int .u64 x.a3, .int .u64 x.a4, .int .u64 x.a5, .int .u64 x.a6, .int .u64 x.a7]) (.agg #[.int .u64 W8.zero.a0, .int .u64 W8.zero.a1, .int .u64 W8.zero.a2, .int .u64 W8.zero.a3, .int .u64 W8.zero.a4, .int .u64 W8.zero.a5, .int .u64 W8.zero.a6, .int .u64 W8.zero.a7])).run Try.prog w = .ok (.bool (decide (x.toInt = 0))) w) := by
    intro w
    have h := wide_eq hx W8.zero_ok w
    have e : decide (x.mag = W8.zero.mag) = decide (x.toInt = 0) := by
      have hz : W8.zero.mag = 0 := by decide
      have h0 : W8.zero.toInt = 0 := by decide
      rw [hz]
      apply Bool.eq_iff_iff.2
      rw [decide_eq_true_eq, decide_eq_true_eq]
      constructor
      · intro h
        have : x = W8.zero := W8.mag_inj hx W8.zero_ok (by rw [h, hz])
        rw [this, h0]
      · intro h
        have : x = W8.zero := W8.toInt_inj hx W8.zero_ok (by rw [h, h0])
        rw [this, hz]
    rw [e] at h
    exact h
  obtain ⟨z, hz⟩ : ∃ z, x.toInt = z := ⟨_, rfl⟩
  rw [hz] at HR HQ ⊢
  clear hz hx
  go_enter Try.func32, Try.ntmps32
  go_wp2_with fail
  refine name1 (Q := fun W => Calls _ _ _ W _) ?_
  intro W hl hs k1
  refine (HR W).mono ?_
  rintro e w1 ⟨b, u, rfl, hu, hzu, hn, l1⟩
  have K := k1.later l1
  have L1 := hl.trans l1
  have HM := Lib.hid (W8.mag_bounds hu)
  have HZ := Lib.hid hzu
  have HN := Lib.hid hn
  clear k1 hl l1 hu hzu hn HR hs
  have d0 := K.cell 0
  have d1 := K.cell 1
  have d2 := K.cell 2
  have d3 := K.cell 3
  have d4 := K.cell 4
  have d5 := K.cell 5
  have d6 := K.cell 6
  have d7 := K.cell 7
  have d8 := K.lt
  cases b with
  | true =>
    have hs : Hid (sideOf z = -1) := by
      have h1 := HZ.out
      have h2 := HM.out
      have h3 := HN.out rfl
      simp only [sgn, if_true] at h1
      show sideOf z = -1
      rw [sideOf, if_pos (by omega)]
    clear HZ HM HN
    go_wp2
    go_ret
    exact ⟨by show Ending.returned (.int .i64 (-1)) = _; rw [hs.out], L1⟩
  | false =>
    have h1 := HZ.out
    have h2 := HM.out
    simp only [sgn, Bool.false_eq_true, if_false] at h1
    clear HZ HM HN
    by_cases h0 : z = 0
    · have hd : decide (z = 0) = true := decide_eq_true h0
      rw [hd] at HQ
      have hs : Hid (sideOf z = 0) := by show sideOf z = 0; rw [h0]; rfl
      clear h1 h2 h0 hd
      go_wp2_with (refine wpList_bin rfl .eql 44 44 (.tmp 8) (.tmp 9) (by rfl) #[.int .u64 x.a0, .int .u64 x.a1, .int .u64 x.a2, .int .u64 x.a3, .int .u64 x.a4, .int .u64 x.a5, .int .u64 x.a6, .int .u64 x.a7] #[.int .u64 W8.zero.a0, .int .u64 W8.zero.a1, .int .u64 W8.zero.a2, .int .u64 W8.zero.a3, .int .u64 W8.zero.a4, .int .u64 W8.zero.a5, .int .u64 W8.zero.a6, .int .u64 W8.zero.a7] _ (by rfl) (by rfl) (by kernel_rfl) (HQ.out _) ?_)
      go_ret
      exact ⟨by show Ending.returned (.int .i64 0) = _; rw [hs.out], L1⟩
    · have hd : decide (z = 0) = false := decide_eq_false h0
      rw [hd] at HQ
      have hs : Hid (sideOf z = 1) := by show sideOf z = 1; rw [sideOf, if_neg (by omega), if_neg h0]
      clear h1 h2 h0 hd
      go_wp2_with (refine wpList_bin rfl .eql 44 44 (.tmp 8) (.tmp 9) (by rfl) #[.int .u64 x.a0, .int .u64 x.a1, .int .u64 x.a2, .int .u64 x.a3, .int .u64 x.a4, .int .u64 x.a5, .int .u64 x.a6, .int .u64 x.a7] #[.int .u64 W8.zero.a0, .int .u64 W8.zero.a1, .int .u64 W8.zero.a2, .int .u64 W8.zero.a3, .int .u64 W8.zero.a4, .int .u64 W8.zero.a5, .int .u64 W8.zero.a6, .int .u64 W8.zero.a7] _ (by rfl) (by rfl) (by kernel_rfl) (HQ.out _) ?_)
      go_ret
      exact ⟨by show Ending.returned (.int .i64 1) = _; rw [hs.out], L1⟩

/-- With the highest digit turned round, the order of the sizes is the order of the numbers. -/
def W8.flip (x : W8) : W8 := ⟨x.a0, x.a1, x.a2, x.a3, x.a4, x.a5, x.a6, (9223372036854775808 + x.a7) % 18446744073709551616⟩
theorem flip_ok {x : W8} (h : x.ok) : x.flip.ok := by
  have h0 := h.at0
  have h1 := h.at1
  have h2 := h.at2
  have h3 := h.at3
  have h4 := h.at4
  have h5 := h.at5
  have h6 := h.at6
  intro y hy
  simp only [W8.flip, W8.list, List.mem_cons, List.not_mem_nil, or_false] at hy
  rcases hy with rfl | rfl | rfl | rfl | rfl | rfl | rfl | rfl <;> first | assumption | (unfold W64; omega)
theorem flip_mag {x : W8} (h : x.ok) : x.flip.mag = x.toInt + P511 := by
  have h7 := h.at7
  have e1 := W8.mag_eq x
  have e2 := W8.mag_eq x.flip
  have c1 : x.flip.a0 = x.a0 := rfl
  have c2 : x.flip.a1 = x.a1 := rfl
  have c3 : x.flip.a2 = x.a2 := rfl
  have c4 : x.flip.a3 = x.a3 := rfl
  have c5 : x.flip.a4 = x.a4 := rfl
  have c6 : x.flip.a5 = x.a5 := rfl
  have c7 : x.flip.a6 = x.a6 := rfl
  have c8 : x.flip.a7 = (9223372036854775808 + x.a7) % 18446744073709551616 := rfl
  rw [c1, c2, c3, c4, c5, c6, c7, c8] at e2
  unfold W8.toInt
  unfold W64 at h7 e1 e2
  unfold P512 P511
  split
  · omega
  · omega
theorem flip_bits {a : Int} (h : 0 ≤ a ∧ a < W64) : bits .xor .u64 a 9223372036854775808 = (9223372036854775808 + a) % 18446744073709551616 := by
  obtain ⟨n, rfl⟩ := Int.eq_ofNat_of_zero_le h.1
  unfold W64 at h
  have hn : n < 18446744073709551616 := by omega
  have := bits_xor_u64_nat n 9223372036854775808 hn (by decide)
  rw [show ((9223372036854775808 : Nat) : Int) = 9223372036854775808 from rfl] at this
  rw [this]
  have e := xor63 (a := n) hn
  have e2 : n ^^^ 9223372036854775808 = (9223372036854775808 + n) % 18446744073709551616 := e
  rw [e2]
  omega

set_option maxRecDepth 100000 in
set_option maxHeartbeats 1000000 in
theorem wCmp_any (x y : W8) (hx : x.ok) (hy : y.ok) (w : World) : Calls Try.prog 19 #[.agg #[.int .u64 x.a0, .int .u64 x.a1, .int .u64 x.a2, .int .u64 x.a3, .int .u64 x.a4, .int .u64 x.a5, .int .u64 x.a6, .int .u64 x.a7], .agg #[.int .u64 y.a0, .int .u64 y.a1, .int .u64 y.a2, .int .u64 y.a3, .int .u64 y.a4, .int .u64 y.a5, .int .u64 y.a6, .int .u64 y.a7]] w (fun e w' => e = .returned (.int .i64 (sideOf (x.toInt - y.toInt))) ∧ Lat w w') := by
  have HC := sizeOrder_any x.flip y.flip (flip_ok hx) (flip_ok hy)
  have hz : x.flip.mag - y.flip.mag = x.toInt - y.toInt := by rw [flip_mag hx, flip_mag hy]; omega
  rw [hz] at HC
  obtain ⟨z, hz⟩ : ∃ z, sideOf (x.toInt - y.toInt) = z := ⟨_, rfl⟩
  rw [hz] at HC ⊢
  have f1 := flip_bits hx.at7
  have f2 := flip_bits hy.at7
  unfold W8.flip at HC
  obtain ⟨p, hp⟩ : ∃ p, (9223372036854775808 + x.a7) % 18446744073709551616 = p := ⟨_, rfl⟩
  obtain ⟨q, hq⟩ : ∃ q, (9223372036854775808 + y.a7) % 18446744073709551616 = q := ⟨_, rfl⟩
  rw [hp] at f1 HC
  rw [hq] at f2 HC
  clear hz hx hy hp hq
  go_enter Try.func19, Try.ntmps19
  go_wp2_with fail
  refine name2 (Q := fun W => Calls _ _ _ W _) ?_
  intro W hl hs k1 k2
  refine (HC W).mono ?_
  rintro e w1 ⟨rfl, l1⟩
  have L1 := hl.trans l1
  clear k1 k2 hl l1 HC hs
  go_wp2
  go_ret
  exact ⟨rfl, L1⟩

set_option maxRecDepth 100000 in
set_option maxHeartbeats 1000000 in
theorem chLen_any (x : W8) (hx : x.ok) (w : World) : Calls Try.prog 53 #[.agg #[.int .u64 x.a0, .int .u64 x.a1, .int .u64 x.a2, .int .u64 x.a3, .int .u64 x.a4, .int .u64 x.a5, .int .u64 x.a6, .int .u64 x.a7]] w (fun e w' => e = .returned (.int .i64 (blen x.mag : Nat)) ∧ Lat w w') := by
  have HLX := Lib.hid (show x.list.length = 8 from rfl)
  have HX := Lib.hid hx
  go_enter Try.func53, Try.ntmps53
  go_wp2
  refine name1 (Q := fun W => Code.wp _ _ _ _ W) ?_
  intro W hl hs k1
  have K1 : Blk W w.heap.size 44 (nums .u64 x.list) := k1
  clear k1
  go_step3
  go_wp2
  go_step3
  go_wp2
  go_loopw [3, 4] (fun o i wr => ∃ k : Nat, k ≤ 8 ∧ o = .int .i64 0 ∧ i = .int .i64 ((k : Int) - 1) ∧ Lat W wr ∧ Hid (x.list.drop k = List.replicate (8 - k) 0)) (fun _ i _ => (intOf i + 1).toNat)
  case atStart => exact ⟨8, Nat.le_refl _, rfl, rfl, Lat.refl _, rfl⟩
  case round =>
    obtain ⟨k, hk, rfl, rfl, hlr, hd⟩ := hrel
    rcases Nat.eq_zero_or_pos k with rfl | hp
    · have he := Lib.hid (blen_end hd.out)
      go_wp2
      rw [Exit.noGoto_ret]
      go_ret
      exact ⟨by rw [he.out]; rfl, hl.trans hlr⟩
    · obtain ⟨j, rfl⟩ : ∃ j, k = j + 1 := ⟨k - 1, by omega⟩
      obtain ⟨a, hxk, hca, _⟩ := (K1.later hlr).slot (i := j) (by have := HLX.out; omega)
      have hra := HX.out.at hxk
      have b1 : (j : Int) < 8 := by omega
      have b0 : (0 : Int) ≤ (j : Int) := by omega
      have ej : (((j + 1 : Nat) : Int) - 1) = (j : Int) := by omega
      rw [ej]
      clear ej
      by_cases ha : a = 0
      · have HD := Lib.hid (blen_step (show j < 8 by omega) hd.out (by rw [hxk, ha]))
        have hne : ((a : Int) != 0) = false := by simp [ha]
        go_wp2
        exact ⟨⟨j, by omega, rfl, rfl, hlr, HD⟩, by simp [intOf]⟩
      · have HD := Lib.hid (blen_at HX.out hd.out hxk ha)
        have hne : ((a : Int) != 0) = true := by simp [ha]
        have hq := (bitsOf_facts hra).2.1
        unfold bitsOf at hq HD
        have hL : ∀ w, Calls Try.prog 73 #[.int .u64 a] w fun e w' => e = .returned (.int .i64 (Lib.bitLen a.toNat)) ∧ w' = w := fun w => Try.bits_Len64 a w hra.1 (by have := hra.2; unfold W64 at this; omega)
        obtain ⟨q, hqe⟩ : ∃ q, Lib.bitLen a.toNat = q := ⟨_, rfl⟩
        rw [hqe] at hq HD hL
        clear hqe
        go_wp2_with fail
        refine (hL _).mono ?_
        rintro e w' ⟨rfl, rfl⟩
        go_wp2
        rw [Exit.noGoto_ret]
        go_ret
        exact ⟨by rw [← HD.out, Int.natCast_add, Int.natCast_mul]; rfl, hl.trans hlr⟩
end Go.Proofs.Ytogkkhaepfablaa
