/- Several texts in one: RefMath, RefA, RefB, RefC, Own. -/
import Derived.Test.YtpmbglhbcjbkcaaGreatH02
import Derived.Test.YtpmbglhbcjbkcaaGreatProg
import Derived.Deep.QuietTactic
import Derived.BigQuiet
import Derived.StillTailTactics
import Derived.Deep.RegionHeld3
import Derived.Deep.AppendLies
namespace Go.Proofs.YtpmbglhbcjbkcaaGreat
set_option maxHeartbeats 16000000
set_option maxRecDepth 100000
theorem zbF {B : Int} (xs : List Int) (k : Nat) (x : Int) (hx : xs.getD k 0 = x) : val B (xs.take (k + 1)) = val B (xs.take k) + B ^ k * x := by rw [zai, hx]
theorem zdL {B : Int} (os : List Int) (k : Nat) (x : Int) (h : os.length = k) : val B (os ++ [x]) = val B os + B ^ k * x := by rw [zcU, h]
def zlF (B x : Int) : Int := if x < 0 then x + B else x
def zlG (x : Int) : Int := if x < 0 then 1 else 0
def LesInv (B : Int) (xs ys : List Int) (k : Nat) (c : Int) (os : List Int) : Prop :=
 (0 ≤ c ∧ c ≤ 1) ∧ os.length = k ∧ InR B os ∧ val B os - B ^ k * c = val B (xs.take k) - val B (ys.take k)
theorem LesInv.start (B : Int) (xs ys : List Int) : LesInv B xs ys 0 0 [] := ⟨by omega, rfl, InR.nil _, by simp [val]⟩
theorem LesInv.step {B : Int} {xs ys : List Int} {k : Nat} {c x y : Int} {os : List Int} (h : LesInv B xs ys k c os) (hx : xs.getD k 0 = x) (hy : ys.getD k 0 = y) (rx : 0 ≤ x ∧ x < B) (ry : 0 ≤ y ∧ y < B) :
  LesInv B xs ys (k + 1) (zlG (x - c - y)) (os ++ [zlF B (x - c - y)]) := by
 obtain ⟨hc, hl, hr, he⟩ := h
 have e : zlF B (x - c - y) = x - c - y + B * zlG (x - c - y) := by unfold zlF zlG; split <;> simp
 have r1 : 0 ≤ zlF B (x - c - y) ∧ zlF B (x - c - y) < B := by unfold zlF; split <;> omega
 have r2 : 0 ≤ zlG (x - c - y) ∧ zlG (x - c - y) ≤ 1 := by unfold zlG; split <;> omega
 refine ⟨r2, by simp [hl], hr.append (InR.cons r1 (InR.nil _)), ?_⟩
 rw [zdL _ _ _ hl, zbF _ _ _ hx, zbF _ _ _ hy, za8, e]
 grind
theorem LesInv.done {B : Int} (hB : 0 < B) {xs ys : List Int} {n : Nat} {c : Int} {os : List Int} (h : LesInv B xs ys n c os) (hx : xs.length = n) (hy : ys.length ≤ n) (hle : val B ys ≤ val B xs) :
  InR B os ∧ os.length = n ∧ val B os = val B xs - val B ys := by
 obtain ⟨hc, hl, hr, he⟩ := h
 refine ⟨hr, hl, ?_⟩
 rw [List.take_of_length_le (by omega), List.take_of_length_le hy] at he
 have h1 := zcV hB hr
 rw [hl] at h1
 have : c = 0 ∨ c = 1 := by omega
 rcases this with rfl | rfl
 ·omega
 ·exfalso
  omega
def MorInv (B : Int) (xs ys : List Int) (N k : Nat) (c : Int) (os : List Int) : Prop :=
 (0 ≤ c ∧ c ≤ 1) ∧ os.length = k ∧ InR B os ∧ val B os + B ^ k * c = val B (xs.take k) + val B (ys.take k) ∧ k ≤ N + 1 ∧ (k = N + 1 → c = 0)
theorem MorInv.start (B : Int) (xs ys : List Int) (N : Nat) : MorInv B xs ys N 0 0 [] := ⟨by omega, rfl, InR.nil _, by simp [val], by omega, by omega⟩
theorem MorInv.step {B : Int} (hB : 1 < B) {xs ys : List Int} {N k : Nat} {c x y : Int} {os : List Int} (h : MorInv B xs ys N k c os) (hk : k ≤ N) (hx : xs.getD k 0 = x) (hy : ys.getD k 0 = y) (rx : 0 ≤ x ∧ x < B) (ry : 0 ≤ y ∧ y < B)
  (hlast : k = N → x = 0 ∧ y = 0) :
  MorInv B xs ys N (k + 1) ((c + x + y) / B) (os ++ [(c + x + y) % B]) := by
 obtain ⟨hc, hl, hr, he, _, _⟩ := h
 have e := Int.emod_add_mul_ediv (c + x + y) B
 have r1 := Int.emod_nonneg (c + x + y) (show B ≠ 0 by omega)
 have r2 := Int.emod_lt_of_pos (c + x + y) (show 0 < B by omega)
 have q0 : 0 ≤ (c + x + y) / B := Int.ediv_nonneg (by omega) (by omega)
 have q1 : (c + x + y) / B < 2 := Int.ediv_lt_of_lt_mul (by omega) (by omega)
 refine ⟨by omega, by simp [hl], hr.append (InR.cons ⟨r1, r2⟩ (InR.nil _)), ?_, by omega, ?_⟩
 ·rw [zdL _ _ _ hl, zbF _ _ _ hx, zbF _ _ _ hy, za8]
  have e2 : (c + x + y) % B = c + x + y - B * ((c + x + y) / B) := by omega
  rw [e2]
  grind
 ·intro hkN
  obtain ⟨rfl, rfl⟩ := hlast (by omega)
  exact Int.ediv_eq_zero_of_lt (by omega) (by omega)
theorem MorInv.done {B : Int} {xs ys : List Int} {N k : Nat} {os : List Int} (h : MorInv B xs ys N k 0 os) (hx : xs.length ≤ k) (hy : ys.length ≤ k) :
  InR B os ∧ os.length = k ∧ k ≤ N + 1 ∧ val B os = val B xs + val B ys := by
 obtain ⟨_, hl, hr, he, hN, _⟩ := h
 refine ⟨hr, hl, hN, ?_⟩
 rw [List.take_of_length_le hx, List.take_of_length_le hy] at he
 simpa using he
def TwiInv (B : Int) (xs : List Int) (b0 : Int) (k : Nat) (c : Int) (os : List Int) : Prop :=
 (0 ≤ c ∧ c ≤ 1) ∧ os.length = k ∧ InR B os ∧ val B os + B ^ k * c = 2 * val B (xs.take k) + b0
theorem TwiInv.start (B : Int) (xs : List Int) {b0 : Int} (h : 0 ≤ b0 ∧ b0 ≤ 1) : TwiInv B xs b0 0 b0 [] := ⟨h, rfl, InR.nil _, by simp [val]⟩
theorem TwiInv.step {B : Int} (hB : 1 < B) {xs : List Int} {k : Nat} {b0 c x : Int} {os : List Int} (h : TwiInv B xs b0 k c os) (hx : xs.getD k 0 = x) (rx : 0 ≤ x ∧ x < B) :
  TwiInv B xs b0 (k + 1) ((2 * x + c) / B) (os ++ [(2 * x + c) % B]) := by
 obtain ⟨hc, hl, hr, he⟩ := h
 have e := Int.emod_add_mul_ediv (2 * x + c) B
 have r1 := Int.emod_nonneg (2 * x + c) (show B ≠ 0 by omega)
 have r2 := Int.emod_lt_of_pos (2 * x + c) (show 0 < B by omega)
 have q0 : 0 ≤ (2 * x + c) / B := Int.ediv_nonneg (by omega) (by omega)
 have q1 : (2 * x + c) / B < 2 := Int.ediv_lt_of_lt_mul (by omega) (by omega)
 refine ⟨by omega, by simp [hl], hr.append (InR.cons ⟨r1, r2⟩ (InR.nil _)), ?_⟩
 rw [zdL _ _ _ hl, zbF _ _ _ hx, za8]
 have e2 : (2 * x + c) % B = 2 * x + c - B * ((2 * x + c) / B) := by omega
 rw [e2]
 grind
theorem TwiInv.done {B : Int} (hB : 1 < B) {xs : List Int} {n : Nat} {b0 c : Int} {os : List Int} (h : TwiInv B xs b0 n c os) (hx : xs.length = n) :
  InR B (os ++ [c]) ∧ (os ++ [c]).length = n + 1 ∧ val B (os ++ [c]) = 2 * val B xs + b0 := by
 obtain ⟨hc, hl, hr, he⟩ := h
 rw [List.take_of_length_le (by omega)] at he
 exact ⟨hr.append (InR.cons (by omega) (InR.nil _)), by simp [hl], by rw [zdL _ _ _ hl, he]⟩
def PrdInv (B : Int) (xs ys : List Int) (n1 n2 i : Nat) (os : List Int) : Prop :=
 os.length = n1 + n2 ∧ InR B os ∧ val B os = val B (xs.take i) * val B ys ∧ ∀ j, i + n2 ≤ j → os.getD j 0 = 0
def PrdIn (B : Int) (xs ys : List Int) (n1 n2 i : Nat) (x : Int) (j : Nat) (c : Int) (os : List Int) : Prop :=
 os.length = n1 + n2 ∧ InR B os ∧ (0 ≤ c ∧ c < B) ∧ val B os + B ^ (i + j) * c = val B (xs.take i) * val B ys + B ^ i * (x * val B (ys.take j)) ∧ ∀ j, i + n2 ≤ j → os.getD j 0 = 0
theorem PrdInv.start {B : Int} (hB : 0 < B) (xs ys : List Int) (n1 n2 : Nat) : PrdInv B xs ys n1 n2 0 (List.replicate (n1 + n2) 0) := by
 refine ⟨by simp, InR.zeros hB _, by rw [zbd]; simp [val], fun j _ => ?_⟩
 rw [List.getD_eq_getElem?_getD, List.getElem?_replicate]
 split <;> rfl
theorem PrdInv.open_ {B : Int} (hB : 0 < B) {xs ys : List Int} {n1 n2 i : Nat} {os : List Int} (h : PrdInv B xs ys n1 n2 i os) (x : Int) : PrdIn B xs ys n1 n2 i x 0 0 os :=
 ⟨h.1, h.2.1, ⟨Int.le_refl _, hB⟩, by rw [h.2.2.1]; simp [val], h.2.2.2⟩
theorem zkc {B : Int} (hB : 1 < B) {o x y c : Int} (ho : 0 ≤ o ∧ o < B) (hx : 0 ≤ x ∧ x < B) (hy : 0 ≤ y ∧ y < B) (hc : 0 ≤ c ∧ c < B) :
  (c + o + x * y) % B + B * ((c + o + x * y) / B) = o + x * y + c ∧ (0 ≤ (c + o + x * y) % B ∧ (c + o + x * y) % B < B) ∧ 0 ≤ (c + o + x * y) / B ∧ (c + o + x * y) / B < B := by
 have h1 := Int.mul_le_mul_of_nonneg_left (show y ≤ B - 1 by omega) hx.1
 have h2 := Int.mul_le_mul_of_nonneg_right (show x ≤ B - 1 by omega) (show 0 ≤ B - 1 by omega)
 have h0 := Int.mul_nonneg hx.1 hy.1
 have e := Int.emod_add_mul_ediv (c + o + x * y) B
 have h3 : (B - 1) * (B - 1) = B * B - 2 * B + 1 := by grind
 refine ⟨by omega, ⟨Int.emod_nonneg _ (by omega), Int.emod_lt_of_pos _ (by omega)⟩, Int.ediv_nonneg (by omega) (by omega), Int.ediv_lt_of_lt_mul (by omega) (by omega)⟩
theorem PrdIn.step {B : Int} (hB : 1 < B) {xs ys : List Int} {n1 n2 i j : Nat} {x y o c : Int} {os : List Int} (h : PrdIn B xs ys n1 n2 i x j c os) (hi : i < n1) (hj : j < n2) (hx : 0 ≤ x ∧ x < B) (hyj : ys.getD j 0 = y) (hy : 0 ≤ y ∧ y < B) (ho : os.getD (i + j) 0 = o) :
  PrdIn B xs ys n1 n2 i x (j + 1) ((c + o + x * y) / B) (os.set (i + j) ((c + o + x * y) % B)) := by
 obtain ⟨hl, hr, hc, he, hz⟩ := h
 have hro : 0 ≤ o ∧ o < B := by rw [← ho]; exact hr.getD (by omega) _
 obtain ⟨e, r1, r2⟩ := zkc hB hro hx hy hc
 refine ⟨by simpa using hl, hr.set _ r1, r2, ?_, fun k hk => ?_⟩
 ·rw [zbD _ _ _ _ (by omega), ho, zai, hyj, ← Nat.add_assoc, za8]
  have : (c + o + x * y) % B = o + x * y + c - B * ((c + o + x * y) / B) := by omega
  rw [this]
  rw [zeY] at he ⊢
  grind
 ·rw [List.getD_eq_getElem?_getD, List.getElem?_set_ne (by omega), ← List.getD_eq_getElem?_getD]
  exact hz k hk
theorem PrdIn.close {B : Int} {xs ys : List Int} {n1 n2 i : Nat} {x c : Int} {os : List Int} (h : PrdIn B xs ys n1 n2 i x n2 c os) (hi : i < n1) (hy : ys.length = n2) (hx : xs.getD i 0 = x) : PrdInv B xs ys n1 n2 (i + 1) (os.set (i + n2) c) := by
 obtain ⟨hl, hr, hc, he, hz⟩ := h
 refine ⟨by simpa using hl, hr.set _ hc, ?_, fun k hk => ?_⟩
 ·rw [zbD _ _ _ _ (by omega), hz _ (Nat.le_refl _), zai, hx]
  have e : ys.take n2 = ys := List.take_of_length_le (by omega)
  rw [e] at he
  generalize val B os = p at *
  generalize val B (xs.take i) = q at *
  generalize val B ys = r at *
  generalize B ^ (i + n2) = t at *
  generalize B ^ i = u at *
  clear hz hr hl hy hx e
  grind
 ·rw [List.getD_eq_getElem?_getD, List.getElem?_set_ne (by omega), ← List.getD_eq_getElem?_getD]
  exact hz k (by omega)
theorem zfI {B : Int} {xs : List Int} {i : Nat} {x : Int} (h : xs[i]? = some x) : val B (xs.drop i) = x + B * val B (xs.drop (i + 1)) := by
 obtain ⟨hi, rfl⟩ := List.getElem?_eq_some_iff.1 h
 rw [List.drop_eq_getElem_cons hi, val]
def QuoInv (B b : Int) (xs : List Int) (L i : Nat) (qs : List Int) (R : Int) : Prop :=
 qs.length = L ∧ InR B qs ∧ (∀ j, j < i → qs.getD j 0 = 0) ∧ (0 ≤ R ∧ R < b) ∧ val B (xs.drop i) = val B (qs.drop i) * b + R
def BitsIn (b T Q x : Int) (kk : Nat) (qi R : Int) : Prop :=
 ∃ (e : Nat) (m : Int), kk + e = 32 ∧ qi = 2 ^ kk * m ∧ (0 ≤ m ∧ m < 2 ^ e) ∧ (0 ≤ R ∧ R < b) ∧ T * 2 ^ e + x / 2 ^ kk = (Q * 2 ^ e + m) * b + R
theorem BitsIn.start {b T Q x R : Int} (hx : 0 ≤ x ∧ x < 4294967296) (hR : 0 ≤ R ∧ R < b) (hT : T = Q * b + R) : BitsIn b T Q x 32 0 R := by
 refine ⟨0, 0, rfl, by simp, by simp, hR, ?_⟩
 have : x / 2 ^ 32 = 0 := Int.ediv_eq_zero_of_lt hx.1 (by omega)
 rw [this, hT]; simp
def zd2 (x : Int) (k : Nat) : Int := x / 2 ^ k % 2
theorem zhX (x : Int) (k : Nat) : 0 ≤ zd2 x k ∧ zd2 x k ≤ 1 := by unfold zd2; omega
theorem zhY (x : Int) (k : Nat) : x / 2 ^ k = 2 * (x / 2 ^ (k + 1)) + zd2 x k := by
 have h : x / 2 ^ (k + 1) = x / 2 ^ k / 2 := by rw [Int.pow_succ, Int.ediv_ediv_of_nonneg (Int.le_of_lt (Int.pow_pos (by decide)))]
 unfold zd2
 omega
theorem BitsIn.some_ {b T Q x qi R : Int} {k : Nat} (h : BitsIn b T Q x (k + 1) qi R) (hge : b ≤ 2 * R + zd2 x k) : BitsIn b T Q x k (qi + 2 ^ k) (2 * R + zd2 x k - b) ∧ 0 ≤ qi ∧ qi + 2 ^ k < 4294967296 := by
 obtain ⟨e, m, he, hq, hm, hR, hi⟩ := h
 have hb := zhX x k
 have hp : (0 : Int) < 2 ^ k := Int.pow_pos (by decide)
 have e1 : qi + 2 ^ k = 2 ^ k * (2 * m + 1) := by rw [hq, Int.pow_succ]; grind
 refine ⟨⟨e + 1, 2 * m + 1, by omega, e1, by rw [Int.pow_succ]; omega, by omega, ?_⟩, ?_, ?_⟩
 ·rw [zhY x k, Int.pow_succ]
  grind
 ·rw [hq]; exact Int.mul_nonneg (Int.le_of_lt (Int.pow_pos (by decide))) hm.1
 ·rw [e1]
  have h1 := Int.mul_lt_mul_of_pos_left (show 2 * m + 1 < 2 * 2 ^ e by omega) hp
  have h2 : (2 : Int) ^ k * (2 * 2 ^ e) = 4294967296 := by
   have : (4294967296 : Int) = 2 ^ (k + 1 + e) := by rw [he]; rfl
   rw [this, Int.pow_add, Int.pow_succ]; grind
  omega
theorem BitsIn.none_ {b T Q x qi R : Int} {k : Nat} (h : BitsIn b T Q x (k + 1) qi R) (hlt : 2 * R + zd2 x k < b) : BitsIn b T Q x k qi (2 * R + zd2 x k) := by
 obtain ⟨e, m, he, hq, hm, hR, hi⟩ := h
 have hb := zhX x k
 refine ⟨e + 1, 2 * m, by omega, by rw [hq, Int.pow_succ]; grind, by rw [Int.pow_succ]; omega, by omega, ?_⟩
 rw [zhY x k, Int.pow_succ]
 grind
theorem BitsIn.range {b T Q x qi R : Int} {k : Nat} (h : BitsIn b T Q x k qi R) : 0 ≤ qi ∧ qi < 4294967296 ∧ 0 ≤ R ∧ R < b := by
 obtain ⟨e, m, he, hq, hm, hR, hi⟩ := h
 have hp : (0 : Int) < 2 ^ k := Int.pow_pos (by decide)
 refine ⟨by rw [hq]; exact Int.mul_nonneg (Int.le_of_lt hp) hm.1, ?_, hR⟩
 have h1 := Int.mul_lt_mul_of_pos_left hm.2 hp
 have : (4294967296 : Int) = 2 ^ (k + e) := by rw [he]; rfl
 rw [hq, this, Int.pow_add]
 exact h1
theorem QuoInv.start {B b : Int} (hB : 0 < B) {xs : List Int} {L : Nat} (hr : InR B xs) (hlt : val B (xs.drop L) < b) : QuoInv B b xs L L (List.replicate L 0) (val B (xs.drop L)) := by
 refine ⟨by simp, InR.zeros hB _, fun j hj => ?_, ⟨zaj hB (hr.drop _), hlt⟩, ?_⟩
 ·rw [List.getD_eq_getElem?_getD, List.getElem?_replicate]
  split <;> rfl
 ·have e : (List.replicate L (0 : Int)).drop L = [] := List.drop_of_length_le (by simp)
  rw [e]; simp [val]
theorem QuoInv.step {b : Int} {xs : List Int} {L i : Nat} {qs : List Int} {R R' qi x : Int} (h : QuoInv 4294967296 b xs L (i + 1) qs R) (hi : i < L) (hx : xs[i]? = some x)
  (hb : BitsIn b (val 4294967296 (xs.drop (i + 1))) (val 4294967296 (qs.drop (i + 1))) x 0 qi R') : QuoInv 4294967296 b xs L i (qs.set i qi) R' := by
 obtain ⟨hl, hr, hz, _, he⟩ := h
 have hrg := hb.range
 obtain ⟨e, m, h32, hq, _, _, hbe⟩ := hb
 have h32' : e = 32 := by omega
 subst h32'
 rw [Int.pow_zero, Int.ediv_one] at hbe
 rw [Int.pow_zero, Int.one_mul] at hq
 refine ⟨by simpa using hl, hr.set _ ⟨hrg.1, hrg.2.1⟩, fun j hj => ?_, hrg.2.2, ?_⟩
 ·rw [List.getD_eq_getElem?_getD, List.getElem?_set_ne (by omega), ← List.getD_eq_getElem?_getD]
  exact hz j (by omega)
 ·have e1 : (qs.set i qi)[i]? = some qi := by rw [List.getElem?_set_self (by omega)]
  have e2 : (qs.set i qi).drop (i + 1) = qs.drop (i + 1) := by rw [List.drop_set_of_lt (by omega)]
  rw [zfI hx, zfI e1, e2, hq]
  grind
theorem QuoInv.done {B b : Int} {xs : List Int} {L : Nat} {qs : List Int} {R : Int} (h : QuoInv B b xs L 0 qs R) : qs.length = L ∧ InR B qs ∧ val B qs = val B xs / b ∧ R = val B xs % b := by
 obtain ⟨hl, hr, _, hR, he⟩ := h
 simp only [List.drop_zero] at he
 have hd : val B xs / b = val B qs := by
  rw [he, Int.add_comm, Int.add_mul_ediv_right _ _ (by omega), Int.ediv_eq_zero_of_lt hR.1 hR.2]; omega
 refine ⟨hl, hr, hd.symm, ?_⟩
 have := Int.emod_add_mul_ediv (val B xs) b
 rw [hd] at this
 rw [he] at this ⊢
 grind
open Go.RowKit
def B32 : Int := 4294967296
theorem zak : 0 < B32 := by decide
def Rg (w : World) (b : Bool) (A : Option Addr) (n c : Nat) (z : Int) : Prop :=
 n ≤ c ∧ ∃ xs, Sl w .i64 A n xs ∧ InR B32 xs ∧ Nz xs ∧ (b = true → xs ≠ []) ∧ z = sgn b (val B32 xs)
theorem Rg.later {W w : World} {b : Bool} {A : Option Addr} {n c : Nat} {z : Int} (h : Rg W b A n c z) (hl : Lat W w) : Rg w b A n c z := by
 obtain ⟨hn, xs, hs, r⟩ := h
 exact ⟨hn, xs, hs.later hl, r⟩
def RefPost (w : World) (z : Int) (N : Nat) (e : Ending) (w' : World) : Prop :=
 ∃ b A n c, e = .returned (.agg #[.bool b, .slice A n c]) ∧ Rg w' b A n c z ∧ n ≤ N ∧ Lat w w'
def zfJ (w : World) (z : Int) (N : Nat) (e : Ending) (w' : World) : Prop :=
 ∃ A n c xs, e = .returned (.slice A n c) ∧ Sl w' .i64 A n xs ∧ InR B32 xs ∧ Nz xs ∧ val B32 xs = z ∧ n ≤ c ∧ n ≤ N ∧ Lat w w' ∧ ∀ a, A = some a → w.heap.size ≤ a.block
def zkd (w : World) (A : Option Addr) (c : Nat) (xs : List Int) (e : Ending) (w' : World) : Prop :=
 ∃ m, e = .returned (.slice A m c) ∧ Sl w' .i64 A m (xs.take m) ∧ Nz (xs.take m) ∧ val B32 (xs.take m) = val B32 xs ∧ m ≤ xs.length ∧ Lat w w'
theorem zfa {w : World} {A : Option Addr} {n c : Nat} {xs : List Int} (hs : Sl w .i64 A n xs) (m : Nat) (hm : zbg xs n = m) : zkd w A c xs (.returned (.slice A m c)) w := by
 have hl := hs.1
 have hle := zhS xs n
 refine ⟨m, rfl, hs.take (by omega), ?_, ?_, by omega, Lat.refl w⟩
 ·rw [← hm]; exact zhT xs n (by omega)
 ·rw [← hm, zgl, ← hl, List.take_length]
theorem zcH (A : Option Addr) (n c : Nat) (w : World) (xs : List Int) (hs : Sl w .i64 A n xs) (hc : n ≤ c) (hn : n ≤ 3000000) :
  Calls Tryz.prog 109 #[.slice A n c] w (zkd w A c xs) := by
 go_enter Tryz.func109, Tryz.ntmps109
 go_wp2
 go_loopw [3] (fun t wr => ∃ k : Nat, k ≤ n ∧ t = .int .i64 k ∧ Hid (zbg xs n = zbg xs k) ∧ w = wr) (fun t _ => (intOf t).toNat)
 case atStart => exact ⟨n, Nat.le_refl _, rfl, rfl, rfl⟩
 case round =>
  obtain ⟨k, hk, rfl, ht, rfl⟩ := hrel
  rcases Nat.eq_zero_or_pos k with rfl | hp
  ·go_wp2
   go_ret
   exact zfa hs 0 ht.out
  ·obtain ⟨j, rfl⟩ : ∃ j, k = j + 1 := ⟨k - 1, by omega⟩
   obtain ⟨a, x, rfl, ha, hxk, hcell⟩ := hs.at (i := j) (by omega)
   have HX := Lib.hid hxk
   clear hxk
   by_cases hx0 : x = 0
   ·have hz : Hid (zbg xs (j + 1) = zbg xs j) := ze0 xs j (by rw [HX.out, hx0])
    subst hx0
    go_wp2
    go_roundw
    case rel => exact ⟨j, by omega, rfl, ht.out.trans hz.out, trivial⟩
    case measure => simp [intOf]
   ·have hz : Hid (zbg xs (j + 1) = j + 1) := ze1 xs j (by rw [HX.out]; intro e; injection e with e; exact hx0 e)
    have hx1 : ((x : Int) == 0) = false := by simp [hx0]
    clear hx0
    go_wp2
    go_ret
    exact zfa hs (j + 1) (ht.out.trans hz.out)
theorem zbM (b : Bool) (A : Option Addr) (n c : Nat) : ∀ (j : Nat) (x : Int), (#[.bool b, .slice A n c] : Array Value)[j]? ≠ some (.int .i64 x) := by
 intro j x
 match j with
 | 0 => simp
 | 1 => simp
 | j + 2 => simp
theorem Rg.far {w : World} {b : Bool} {A : Option Addr} {n c : Nat} {z : Int} (h : Rg w b A n c z) {p : Addr} (hp : 0 < n → ∀ a, A = some a → a.block ≠ p.block) (u : Value) : Rg (w.setCell p u) b A n c z := by
 obtain ⟨hn, xs, hs, r⟩ := h
 exact ⟨hn, xs, hs.off' hp u, r⟩
theorem Rg.apart {w : World} {b : Bool} {A : Option Addr} {n c : Nat} {z : Int} {g : Nat} {t : TypeId} {cs : Array Value} (h : Rg w b A n c z) (hb : Blk w g t cs) (hno : ∀ (j : Nat) (x : Int), cs[j]? ≠ some (.int .i64 x)) : 0 < n → ∀ a, A = some a → a.block ≠ g := by
 obtain ⟨_, xs, hs, _⟩ := h
 exact hs.apart hb hno
theorem RefPost.close {w w2 : World} {g t : Nat} {b b0 : Bool} {A A0 : Option Addr} {n c n0 c0 N : Nat} {z : Int} (hk : Blk w2 g t #[.bool b0, .slice A0 n0 c0]) (hlg : Rg w2 b A n c z) (hL : Lat w w2) (hg : w.heap.size ≤ g) (hn : n ≤ N) :
  RefPost w z N (.returned (.agg #[.bool b, .slice A n c])) ((w2.setCell ⟨g, 0, none⟩ (.bool b)).setCell ⟨g, 1, none⟩ (.slice A n c)) := by
 have ha := hlg.apart hk (zbM _ _ _ _)
 exact ⟨_, _, _, _, rfl, (hlg.far (p := ⟨g, 0, none⟩) ha _).far (p := ⟨g, 1, none⟩) ha _, hn, (hL.setCell (p := ⟨g, 0, none⟩) hg _).setCell (p := ⟨g, 1, none⟩) hg _⟩
theorem zbr (below : Bool) (A : Option Addr) (n c : Nat) (w : World) (xs : List Int) (hs : Sl w .i64 A n xs) (hr : InR B32 xs) (hc : n ≤ c) (hn : n ≤ 3000000) :
  Calls Tryz.prog 73 #[.bool below, .slice A n c] w (RefPost w (sgn below (val B32 xs)) n) := by
 go_enter Tryz.func73, Tryz.ntmps73
 go_wp2_with fail
 refine zas (Q := fun W => Calls _ _ _ W _) ?_
 intro W hl hsz hb
 refine (zcH A n c W xs (hs.later hl) hc hn).mono ?_
 rintro e w1 ⟨m, rfl, q1, q2, q3, q4, q5⟩
 have K := hb.later q5
 have L := hl.trans q5
 have c0 := K.cell 0
 have c1 := K.cell 1
 have f0 := K.frozen 0
 have f1 := K.frozen 1
 have hrm : InR B32 (xs.take m) := fun y hy => hr y (List.mem_of_mem_take hy)
 have hln := hs.1
 have hq1 := q1.1
 have Q3 := Lib.hid q3
 have Q2 := Lib.hid q2
 have hmn : m ≤ n := by omega
 clear q3 q2 q4
 by_cases hm : 0 < m
 ·have hd : decide ((0 : Int) < m) = true := by simp; exact hm
  have hrg : Rg w1 below A m c (sgn below (val B32 xs)) := ⟨by omega, _, q1, hrm, Q2.out, (fun _ => by intro e; rw [e] at hq1; simp at hq1; omega), by rw [Q3.out]⟩
  cases below
  all_goals
   go_wp2
   refine bodyPost_ret (v := .agg #[.bool _, .slice A m c]) (by simp [results, Tryz.results73, go_sem, c0, c1]; rfl) rfl ?_
   exact RefPost.close K hrg L (Nat.le_refl _) hmn
 ·obtain rfl : m = 0 := by omega
  have h0 : val B32 xs = 0 := by rw [← Q3.out]; simp [val]
  have hrg : Rg w1 false A 0 c (sgn below (val B32 xs)) := ⟨by omega, _, q1, hrm, Q2.out, (fun h => by cases h), by rw [← Q3.out]; cases below <;> simp [sgn, val]⟩
  clear h0
  cases below
  all_goals
   go_wp2
   refine bodyPost_ret (v := .agg #[.bool false, .slice A 0 c]) (by simp [results, Tryz.results73, go_sem, c0, c1]) rfl ?_
   exact RefPost.close K hrg L (Nat.le_refl _) (by omega)
def OrdPost (w : World) (p q : Int) (e : Ending) (w' : World) : Prop :=
 ∃ r : Int, e = .returned (.int .i64 r) ∧ (p < q → r < 0) ∧ (p = q → r = 0) ∧ (q < p → 0 < r) ∧ Lat w w'
theorem OrdPost.ge {w w' : World} {p q : Int} {e : Ending} (h : OrdPost w p q e w') (hpq : q ≤ p) : ∃ r : Int, e = .returned (.int .i64 r) ∧ 0 ≤ r ∧ Lat w w' := by
 obtain ⟨r, h0, h1, h2, h3, h4⟩ := h
 refine ⟨r, h0, ?_, h4⟩
 rcases Int.lt_or_le q p with h | h
 ·have := h3 h; omega
 ·have := h2 (by omega); omega
theorem OrdPost.lt {w w' : World} {p q : Int} {e : Ending} (h : OrdPost w p q e w') (hpq : p < q) : ∃ r : Int, e = .returned (.int .i64 r) ∧ r < 0 ∧ Lat w w' := by
 obtain ⟨r, h0, h1, h2, h3, h4⟩ := h
 exact ⟨r, h0, h1 hpq, h4⟩
theorem zbG (A1 : Option Addr) (n1 c1 : Nat) (xs : List Int) (A2 : Option Addr) (n2 c2 : Nat) (ys : List Int) (w : World) (h1 : Sl w .i64 A1 n1 xs) (h2 : Sl w .i64 A2 n2 ys) (hx : InR B32 xs) (hy : InR B32 ys)
  (zx : Nz xs) (zy : Nz ys) (hn : n1 ≤ 1000000) (hm : n2 ≤ 1000000) :
  Calls Tryz.prog 110 #[.slice A1 n1 c1, .slice A2 n2 c2] w (OrdPost w (val B32 xs) (val B32 ys)) := by
 by_cases hne : n1 = n2
 ·subst hne
  have hEQ : ((n1 : Int) != n1) = false := by simp
  go_enter Tryz.func110, Tryz.ntmps110
  go_wp2
  go_loopw [5] (fun i wr => ∃ k : Nat, k ≤ n1 ∧ i = .int .i64 ((k : Int) - 1) ∧ Lat w wr ∧ Hid (xs.drop k = ys.drop k)) (fun i _ => (intOf i + 1).toNat)
  case atStart => exact ⟨n1, Nat.le_refl _, rfl, Lat.refl _, by show _ = _; rw [List.drop_of_length_le (by have := h1.1; omega), List.drop_of_length_le (by have := h2.1; omega)]⟩
  case round =>
   obtain ⟨k, hk, rfl, hlr, hd⟩ := hrel
   rcases Nat.eq_zero_or_pos k with rfl | hp
   ·have he : Hid (xs = ys) := by have := hd.out; show _ = _; simpa using this
    go_wp2
    go_ret
    exact ⟨0, rfl, fun h => by rw [he.out] at h; omega, fun _ => rfl, fun h => by rw [he.out] at h; omega, hlr⟩
   ·obtain ⟨j, rfl⟩ : ∃ j, k = j + 1 := ⟨k - 1, by omega⟩
    obtain ⟨a, x, rfl, ha, hxk, hcell⟩ := (h1.later hlr).at (i := j) (by omega)
    obtain ⟨a', y, rfl, ha', hyk, hcell2⟩ := (h2.later hlr).at (i := j) (by omega)
    have rx := hx x (List.mem_of_getElem? hxk)
    have ry := hy y (List.mem_of_getElem? hyk)
    have HLT : Hid (x < y → val B32 xs < val B32 ys) := fun h => zaO zak hx hy hxk hyk hd.out h
    have HGT : Hid (y < x → val B32 ys < val B32 xs) := fun h => zaO zak hy hx hyk hxk hd.out.symm h
    have HEQ : Hid (x = y → xs.drop j = ys.drop j) := fun h => zdT hxk hyk h hd.out
    clear hxk hyk hd
    have b1 : (j : Int) < (n1 : Int) := by omega
    have b0 : (0 : Int) ≤ (j : Int) := by omega
    have ej : (((j + 1 : Nat) : Int) - 1) = (j : Int) := by omega
    rw [ej]
    clear ej
    have rx1 := rx.1
    have rx2 : x < 4294967296 := rx.2
    have ry1 := ry.1
    have ry2 : y < 4294967296 := ry.2
    clear rx ry
    by_cases hxy : x = y
    ·have HE := Lib.hid (HEQ.out hxy)
     have hb : ((x : Int) != y) = false := by simp [hxy]
     clear hxy
     go_wp2
     go_quiet (fail)
     go_wp2
     go_roundw
     case rel => exact ⟨j, by omega, rfl, hlr.trans (Lat.drewN _ _), HE.out⟩
     case measure => simp [intOf]
    ·have hb : ((x : Int) != y) = true := by simp [hxy]
     have HN := Lib.hid hxy
     clear hxy
     go_wp2
     go_quiet (fail)
     go_wp2
     go_quiet (fail)
     go_wp2
     go_ret
     refine ⟨x - y, rfl, fun _ => ?_, fun h => ?_, fun _ => ?_, (hlr.trans (Lat.drewN _ _)).trans (Lat.drewN _ _)⟩
     ·have h3 := HGT.out; have h4 := HN.out; omega
     ·have h3 := HGT.out; have h2 := HLT.out; have h4 := HN.out; omega
     ·have h2 := HLT.out; have h4 := HN.out; omega
 ·have hNE : ((n1 : Int) != n2) = true := by rw [bne_iff_ne]; omega
  go_enter Tryz.func110, Tryz.ntmps110
  go_wp2
  go_ret
  rcases Nat.lt_or_ge n1 n2 with h | h
  ·have := zaz zak hx hy zy (by rw [h1.1, h2.1]; exact h)
   exact ⟨_, rfl, fun _ => by omega, fun _ => by omega, fun _ => by omega, Lat.refl _⟩
  ·have := zaz zak hy hx zx (by rw [h1.1, h2.1]; omega)
   exact ⟨_, rfl, fun _ => by omega, fun _ => by omega, fun _ => by omega, Lat.refl _⟩
def Own (w : World) (B : Nat) (E : TypeId) (k : IntKind) (v : Value) (xs : List Int) : Prop := w.ownsRow B E 1 v xs.length (xs.map (Value.int k))
section
variable {w w' : World} {B : Nat} {E : TypeId} {k : IntKind} {v : Value} {xs : List Int}
theorem Own.nil (w : World) (B : Nat) (E : TypeId) (k : IntKind) : Own w B E k (.slice none 0 0) [] := World.ownsRow_nil _ _ _ _
theorem Own.later (h : Own w B E k v xs) (hl : Lat w w') : Own w' B E k v xs := by
 obtain ⟨h1, h2⟩ := h
 refine ⟨h1, ?_⟩
 rcases h2 with h2 | ⟨g, cap, cur, a1, a2, a3, a4⟩
 ·exact .inl h2
 ·refine .inr ⟨g, cap, cur, a1, a2, ?_, a4⟩
  have hlt : g < w.heap.size := by
   rcases Nat.lt_or_ge g w.heap.size with hlt | hge
   ·exact hlt
   ·rw [Array.getElem?_eq_none hge] at a3; cases a3
  rw [Below.block hl g hlt]; exact a3
theorem Own.form (h : Own w B E k v xs) : ∃ A c, v = .slice A xs.length c ∧ Sl w k A xs.length xs ∧ xs.length ≤ c ∧ ∀ a, A = some a → B ≤ a.block ∧ a.block < w.heap.size := by
 obtain ⟨h1, h2⟩ := h
 rcases h2 with ⟨rfl, h0⟩ | ⟨g, cap, cur, rfl, hb, hg, hnc, _, hcs, ht⟩
 ·refine ⟨none, 0, by rw [h0], ?_, by omega, fun a e => by cases e⟩
  have : xs = [] := List.eq_nil_of_length_eq_zero h0
  subst this
  exact Sl.nil _ _ _
 ·have hlt : g < w.heap.size := by
   rcases Nat.lt_or_ge g w.heap.size with hlt | hge
   ·exact hlt
   ·rw [Array.getElem?_eq_none hge] at hg; cases hg
  refine ⟨_, cap, rfl, ⟨rfl, fun hn => ⟨_, rfl, hlt, fun i x hx => ?_⟩⟩, hnc, fun a e => by cases e; exact ⟨hb, hlt⟩⟩
  have e : (⟨g, 0, none⟩ : Addr).add i = ⟨g, i, none⟩ := by unfold Addr.add; split <;> simp_all
  rw [e, cell_of_row w g i cur E (0, 0) hg]
  have hi : (xs.map (Value.int k))[i]? = some (.int k x) := by simp [hx]
  rw [← ht, List.getElem?_take] at hi
  split at hi
  ·simpa using hi
  ·cases hi
theorem Own.lat {W : World} (h : Own w B E k v xs) (hl : Lat W w) (hB : W.heap.size ≤ B) (hg : w.grownBy w' v.ownBlock) : Lat W w' :=
 Below.grown hl hg (hl.size) (fun j hj => by
  rcases h.2 with ⟨rfl, _⟩ | ⟨g, cap, cur, rfl, hb, _⟩
  ·cases hj
  ·have : g = j := by simpa [Value.ownBlock] using hj
   omega)
end
theorem zax {P : Program} {ops : Array Oper} {rest : List Oper} {o : Oper} {a : Act} {Q : Exit → Act → World → Prop} (hgd : o.guard = none) (s x : Operand) (t : TypeId)
  (ho : o.op = .call { callee := .builtin .append, args := #[s, x], argTypes := #[t, t] })
  (B : Nat) (E T : TypeId) (k : IntKind) (by_ : Nat) (ht : P.underlying t = some (.slice E)) (hinfo : (P.info? E).map (fun i => (i.zero, i.size, i.bytes)) = some (some (.int k 0), 1, by_)) (hby : by_ ≤ 8)
  (v : Value) (xs ys : List Int) (cs : Array Value) (hcs : cs = nums k ys) (W : World) (hs : a.eval s = v) (hown : Own W B E k v xs)
  (m : Nat) (hm : ys.length = m) (hm0 : 0 < m) (hx : a.eval x = .slice (some ⟨W.heap.size, 0, none⟩) m m) (hlen : xs.length + m ≤ 17000000000000) (hB : B ≤ W.heap.size)
  (h : ∀ v' w', Own w' B E k v' (xs ++ ys) → (∀ W0, Lat W0 W → W0.heap.size ≤ B → Lat W0 w') → wpList P ops Q rest (a.put o.dst v') w') : wpList P ops Q (o :: rest) a (W.alloc (.cells cs T)) := by
 obtain ⟨i0, hi, hz0, hz1, hz2⟩ := info_parts hinfo
 subst hcs
 have hown1 := Own.later hown (Lat.alloc W (.cells (nums k ys) T))
 have hb := Blk.new W T (nums k ys)
 subst hm
 refine wpList_append_own _ hgd s x t ho B E i0 (.int k 0) 1 by_ ht hi hz0 hz1 hz2 rfl (by decide) v xs.length _ hs hown1 ⟨W.heap.size, 0, none⟩ ys.length ys.length (ys.map (Value.int k)) hx (by simp) ?_ ?_ ?_ ?_ ?_ ?_
 ·intro j u hu
  have e : (⟨W.heap.size, 0, none⟩ : Addr).add j = ⟨W.heap.size, j, none⟩ := by unfold Addr.add; split <;> simp_all
  rw [e, hb.cell j]
  simpa [nums] using hu
 ·exact ints_oneCell _ _
 ·unfold maxLen; omega
 ·have := Nat.mul_le_mul_left (xs.length + ys.length) hby; omega
 ·simp; omega
 ·intro v' w' h1 h2 _
  refine h v' w' ?_ (fun W0 hl hle => Own.lat hown1 (hl.trans (Lat.alloc _ _)) hle h2)
  unfold Own
  rw [List.length_append, List.map_append]
  exact h1
end Go.Proofs.YtpmbglhbcjbkcaaGreat
