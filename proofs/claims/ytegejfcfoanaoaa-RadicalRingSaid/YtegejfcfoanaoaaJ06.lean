/- Several texts in one: Div64, Divided. -/
import Derived.Test.YtegejfcfoanaoaaJ05

/- math/bits.Div64. -/
namespace Go.Proofs.Ytegejfcfoanaoaa
open Go.RowKit

def DivEnd (s : Nat) (Y Q1 Q0 M l0 : Int) (w : World) (e : Ending) (w' : World) : Prop := e = .returned (.tuple #[.int .u64 (Q1 * 4294967296 + Q0), .int .u64 (IntKind.u64.wrap (IntKind.u64.wrap (IntKind.u64.wrap (M * 4294967296) + l0) - IntKind.u64.wrap (Q0 * Y)) / 2 ^ s)]) ∧ w = w'

/-- What Div64 hands back. -/
def DivPost (hi lo y : Int) (w : World) (e : Ending) (w' : World) : Prop :=
  ∃ q r : Int, e = .returned (.tuple #[.int .u64 q, .int .u64 r]) ∧ hi * W64 + lo = q * y + r ∧ (0 ≤ r ∧ r < y) ∧ (0 ≤ q ∧ q < W64) ∧ Lat w w'

/-- A word and its bits, moved to the top of the word. -/
theorem top_facts {y : Int} (h3 : 0 < y ∧ y < W64) : 0 < bitsOf y ∧ bitsOf y ≤ 64 ∧ y * 2 ^ (64 - bitsOf y) < W64 ∧ 9223372036854775808 ≤ y * 2 ^ (64 - bitsOf y) := by
  obtain ⟨a, b, c⟩ := bitsOf_facts (x := y) ⟨by omega, h3.2⟩
  obtain ⟨c1, c2⟩ := c (by omega)
  refine ⟨c1, b, ?_, ?_⟩
  · have h := Int.mul_lt_mul_of_pos_right a (two_pow_pos (64 - bitsOf y))
    rw [← Int.pow_add, show bitsOf y + (64 - bitsOf y) = 64 by omega] at h
    exact h
  · have h := Int.mul_le_mul_of_nonneg_right c2 (Int.le_of_lt (two_pow_pos (64 - bitsOf y)))
    rw [← Int.pow_add, show bitsOf y - 1 + (64 - bitsOf y) = 63 by omega] at h
    exact h

end Go.Proofs.Ytegejfcfoanaoaa

/- The packages' functions on words: quotients and remainders. -/
namespace Go.Proofs.Ytegejfcfoanaoaa
open Go.RowKit

/-- What 'divided' hands back: words of the quotient, and of the remainder, which have no 0 at the end. -/
def DivdPost (w : World) (x y : Int) (N : Nat) (e : Ending) (w' : World) : Prop :=
  ∃ A n c qs A' n' c' rs, e = .returned (.tuple #[.slice A n c, .slice A' n' c']) ∧ (Sl w' .u64 A n qs ∧ InR W64 qs ∧ val W64 qs = x / y ∧ n ≤ c ∧ n ≤ N) ∧
    (Sl w' .u64 A' n' rs ∧ InR W64 rs ∧ Nz rs ∧ val W64 rs = x % y ∧ n' ≤ c') ∧ Lat w w'

/-- By one word, from the top down to the word j. -/
def OneInv (xs : List Int) (n : Nat) (d : Int) (j : Nat) (rest : Int) (qs : List Int) : Prop :=
  qs.length = n ∧ InR W64 qs ∧ (0 ≤ rest ∧ rest < d) ∧ val W64 (xs.drop j) = val W64 (qs.drop j) * d + rest
theorem OneInv.start {xs : List Int} {n : Nat} {d : Int} (hx : xs.length = n) (hd : 0 < d) : OneInv xs n d n 0 (List.replicate n 0) := by
  refine ⟨by simp, InR.zeros W64_pos _, ⟨Int.le_refl _, hd⟩, ?_⟩
  rw [List.drop_of_length_le (by omega), List.drop_of_length_le (by simp)]
  simp [val]
theorem OneInv.step {xs : List Int} {n : Nat} {d : Int} {j : Nat} {rest x q r : Int} {qs : List Int} (h : OneInv xs n d (j + 1) rest qs) (hj : j < n) (hx : xs[j]? = some x) (he : rest * W64 + x = q * d + r) (hr : 0 ≤ r ∧ r < d) (hq : 0 ≤ q ∧ q < W64) :
    OneInv xs n d j r (qs.set j q) := by
  obtain ⟨hl, hi, _, hv⟩ := h
  obtain ⟨lx, ex⟩ := List.getElem?_eq_some_iff.1 hx
  refine ⟨by simpa using hl, hi.set _ hq, hr, ?_⟩
  have e1 : (qs.set j q).drop j = q :: qs.drop (j + 1) := by
    rw [List.set_eq_take_append_cons_drop, if_pos (by omega), List.drop_append_of_le_length (by simp; omega), List.drop_of_length_le (by simp; omega)]
    rfl
  rw [e1, List.drop_eq_getElem_cons lx, ex, val_cons, val_cons, hv]
  generalize val W64 (qs.drop (j + 1)) = p
  grind
theorem OneInv.done {xs : List Int} {n : Nat} {d rest : Int} {qs : List Int} (h : OneInv xs n d 0 rest qs) : val W64 qs = val W64 xs / d ∧ rest = val W64 xs % d := by
  obtain ⟨_, _, hr, hv⟩ := h
  simp only [List.drop_zero] at hv
  rw [hv]
  constructor
  · rw [Int.add_comm, Int.add_mul_ediv_right _ _ (by omega), Int.ediv_eq_zero_of_lt hr.1 hr.2]; omega
  · rw [Int.add_comm, Int.add_mul_emod_self_right, Int.emod_eq_of_lt hr.1 hr.2]

end Go.Proofs.Ytegejfcfoanaoaa
