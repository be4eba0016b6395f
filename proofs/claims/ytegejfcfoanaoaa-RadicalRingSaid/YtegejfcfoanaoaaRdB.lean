
/- Roots, plain: what the bit by bit ways keep to; no program is in sight. -/
import Derived.Test.YtegejfcfoanaoaaR04
import Derived.Test.YtegejfcfoanaoaaJ16
namespace Go.Proofs.Ytegejfcfoanaoaa

theorem pow_two_succ (k : Nat) : (2 : Int) ^ (k + 1) = 2 * 2 ^ k := by rw [Int.pow_succ, Int.mul_comm]
/-- The root is at least v, and below v + 2^kk. -/
def RtInv (a : Int) (kk : Nat) (v : Int) : Prop := 0 ≤ v ∧ v * v ≤ a ∧ a < (v + 2 ^ kk) * (v + 2 ^ kk)
theorem RtInv.some_ {a v : Int} {k : Nat} (h : RtInv a (k + 1) v) (hle : (v + 2 ^ k) * (v + 2 ^ k) ≤ a) : RtInv a k (v + 2 ^ k) := by
  obtain ⟨h1, h2, h3⟩ := h
  have hp := two_pow_pos k
  rw [pow_two_succ] at h3
  refine ⟨by omega, hle, ?_⟩
  rw [show v + 2 ^ k + 2 ^ k = v + 2 * 2 ^ k by omega]
  exact h3
theorem RtInv.none_ {a v : Int} {k : Nat} (h : RtInv a (k + 1) v) (hlt : a < (v + 2 ^ k) * (v + 2 ^ k)) : RtInv a k v := ⟨h.1, h.2.1, hlt⟩
theorem RtInv.done {a v : Int} (h : RtInv a 0 v) : rtZ a = v := rtZ_eq h.1 h.2.1 (by simpa using h.2.2)
theorem RtInv.start {a : Int} {L : Nat} (h0 : 0 ≤ a) (h : a < 2 ^ L) (k : Nat) (hk : L ≤ 2 * k) : RtInv a k 0 := by
  refine ⟨by omega, by simpa using h0, ?_⟩
  rw [Int.zero_add, ← Int.pow_add]
  exact Int.lt_of_lt_of_le h (pw_le (by decide) (by omega))

/-- The root, digit by digit, bit by bit: digits below i are 0; of digit i the bits below kk are 0. -/
def FlrInv (a : Int) (n i kk : Nat) (os : List Int) : Prop :=
  os.length = n ∧ InR B32 os ∧ (∀ j, j < i → os.getD j 0 = 0) ∧ os.getD i 0 + 2 ^ kk ≤ B32 ∧ val B32 os * val B32 os ≤ a ∧ a < (val B32 os + 2 ^ kk * B32 ^ i) * (val B32 os + 2 ^ kk * B32 ^ i)
def FlrOut (a : Int) (n i : Nat) (os : List Int) : Prop :=
  os.length = n ∧ InR B32 os ∧ (∀ j, j < i → os.getD j 0 = 0) ∧ val B32 os * val B32 os ≤ a ∧ a < (val B32 os + B32 ^ i) * (val B32 os + B32 ^ i)
theorem B32_two : (2 : Int) ^ 32 = B32 := by decide
theorem FlrOut.open_ {a : Int} {n i : Nat} {os : List Int} (h : FlrOut a n (i + 1) os) : FlrInv a n i 32 os := by
  obtain ⟨h1, h2, h3, h4, h5⟩ := h
  refine ⟨h1, h2, fun j hj => h3 j (by omega), ?_, h4, ?_⟩
  · rw [h3 i (by omega), B32_two]; omega
  · rw [B32_two, Int.mul_comm B32, ← pw_succ]; exact h5
theorem FlrInv.close {a : Int} {n i : Nat} {os : List Int} (h : FlrInv a n i 0 os) : FlrOut a n i os := by
  obtain ⟨h1, h2, h3, _, h4, h5⟩ := h
  rw [Int.pow_zero, Int.one_mul] at h5
  exact ⟨h1, h2, h3, h4, h5⟩
theorem FlrInv.next {a : Int} {n i k : Nat} {os : List Int} (h : FlrInv a n i (k + 1) os) (hi : i < n) {d : Int} (hd : os[i]? = some d) :
    0 ≤ d ∧ d + 2 ^ k < B32 ∧ val B32 (os.set i (d + 2 ^ k)) = val B32 os + 2 ^ k * B32 ^ i ∧ InR B32 (os.set i (d + 2 ^ k)) := by
  obtain ⟨h1, h2, h3, h4, h5, h6⟩ := h
  have hD : os.getD i 0 = d := by rw [List.getD_eq_getElem?_getD, hd]; rfl
  have hr := h2.at hd
  have hp := two_pow_pos k
  rw [pow_two_succ, hD] at h4
  refine ⟨hr.1, by omega, ?_, h2.set i ⟨by omega, by omega⟩⟩
  rw [val_set B32 os i _ (by omega), hD, show d + 2 ^ k - d = 2 ^ k by omega, Int.mul_comm]
theorem FlrInv.some_ {a : Int} {n i k : Nat} {os : List Int} (h : FlrInv a n i (k + 1) os) (hi : i < n) {d : Int} (hd : os[i]? = some d) (hle : val B32 (os.set i (d + 2 ^ k)) * val B32 (os.set i (d + 2 ^ k)) ≤ a) : FlrInv a n i k (os.set i (d + 2 ^ k)) := by
  obtain ⟨n1, n2, n3, n4⟩ := h.next hi hd
  obtain ⟨h1, h2, h3, h4, h5, h6⟩ := h
  have hD : os.getD i 0 = d := by rw [List.getD_eq_getElem?_getD, hd]; rfl
  have hp := two_pow_pos k
  rw [pow_two_succ, hD] at h4
  refine ⟨by rw [List.length_set]; exact h1, n4, fun j hj => ?_, ?_, hle, ?_⟩
  · have := h3 j hj
    rw [List.getD_eq_getElem?_getD] at this ⊢
    rw [List.getElem?_set_ne (by omega)]
    exact this
  · rw [List.getD_eq_getElem?_getD, List.getElem?_set_self (by omega)]
    show d + 2 ^ k + 2 ^ k ≤ B32
    omega
  · rw [n3]
    rw [pow_two_succ] at h6
    rw [show val B32 os + 2 ^ k * B32 ^ i + 2 ^ k * B32 ^ i = val B32 os + 2 * 2 ^ k * B32 ^ i by rw [Int.mul_assoc]; omega]
    exact h6
theorem FlrInv.none_ {a : Int} {n i k : Nat} {os : List Int} (h : FlrInv a n i (k + 1) os) (hi : i < n) {d : Int} (hd : os[i]? = some d) (hlt : a < val B32 (os.set i (d + 2 ^ k)) * val B32 (os.set i (d + 2 ^ k))) : FlrInv a n i k os := by
  obtain ⟨n1, n2, n3, n4⟩ := h.next hi hd
  obtain ⟨h1, h2, h3, h4, h5, h6⟩ := h
  have hp := two_pow_pos k
  rw [pow_two_succ] at h4
  rw [n3] at hlt
  exact ⟨h1, h2, h3, by omega, h5, hlt⟩
theorem FlrOut.start {a : Int} {L n : Nat} (h0 : 0 ≤ a) (h : a < B32 ^ L) (hL : L ≤ 2 * n) : FlrOut a n n (List.replicate n 0) := by
  refine ⟨by simp, InR.zeros B32_pos n, fun j hj => by simp [List.getD_eq_getElem?_getD, hj], ?_, ?_⟩
  · rw [val_zeros]; simpa using h0
  · rw [val_zeros, Int.zero_add, ← pw_add]
    exact Int.lt_of_lt_of_le h (pw_le B32_pos (by omega))
theorem FlrOut.done {a : Int} {n : Nat} {os : List Int} (h : FlrOut a n 0 os) : rtZ a = val B32 os := by
  obtain ⟨h1, h2, h3, h4, h5⟩ := h
  exact rtZ_eq (val_nonneg B32_pos h2) h4 (by simpa using h5)
end Go.Proofs.Ytegejfcfoanaoaa
