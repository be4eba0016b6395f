
/- Chance: the plain law: the numbers, the candidates, and the state that leads to a number. -/
import Derived.WalkKit
namespace Go.Proofs.YtogkkhaepfablaaGreat
open Go.RowKit

def chStep (s : Nat) : Nat := (s + 11400714819323198485) % 18446744073709551616
def chM1 (z : Nat) : Nat := ((z ^^^ (z / 1073741824)) * 13787848793156543929) % 18446744073709551616
def chM2 (z : Nat) : Nat := ((z ^^^ (z / 134217728)) * 10723151780598845931) % 18446744073709551616
def chM3 (z : Nat) : Nat := z ^^^ (z / 2147483648)
def chMix (z : Nat) : Nat := chM3 (chM2 (chM1 z))
theorem chStep_lt (s : Nat) : chStep s < 18446744073709551616 := Nat.mod_lt _ (by decide)
theorem chM1_lt (s : Nat) : chM1 s < 18446744073709551616 := Nat.mod_lt _ (by decide)
theorem chM2_lt (s : Nat) : chM2 s < 18446744073709551616 := Nat.mod_lt _ (by decide)
theorem chM3_lt {s : Nat} (h : s < 18446744073709551616) : chM3 s < 18446744073709551616 := Nat.xor_lt_two_pow (n := 64) h (Nat.lt_of_le_of_lt (Nat.div_le_self _ _) h)
theorem chMix_lt (s : Nat) : chMix s < 18446744073709551616 := chM3_lt (chM2_lt _)

/-- The first candidate that is taken, and the state behind it. -/
def chTry {α : Type} (draw : Nat → α × Nat) (ok : α → Bool) : Nat → Nat → Option (α × Nat)
  | 0, _ => none
  | f + 1, s => if ok (draw s).1 = true then some (draw s) else chTry draw ok f (draw s).2
/-- The state behind j candidates. -/
def chAfter {α : Type} (draw : Nat → α × Nat) : Nat → Nat → Nat
  | 0, s => s
  | j + 1, s => (draw (chAfter draw j s)).2
/-- None of the first j candidates is taken. -/
def chNone {α : Type} (draw : Nat → α × Nat) (ok : α → Bool) (j s : Nat) : Prop := ∀ i, i < j → ok (draw (chAfter draw i s)).1 = false
theorem chTry_take {α : Type} {draw : Nat → α × Nat} {ok : α → Bool} : ∀ {f j s : Nat}, j < f → chNone draw ok j s → ok (draw (chAfter draw j s)).1 = true → chTry draw ok f s = some (draw (chAfter draw j s))
  | 0, j, s, h, _, _ => absurd h (by omega)
  | f + 1, 0, s, _, _, h2 => by
    have h2 : ok (draw s).1 = true := h2
    rw [chTry, if_pos h2]; rfl
  | f + 1, j + 1, s, h, h1, h2 => by
    have e : ∀ j, chAfter draw (j + 1) s = chAfter draw j (draw s).2 := by
      intro j
      induction j with
      | zero => rfl
      | succ j ih => rw [chAfter, ih]; rfl
    have h0 : ok (draw s).1 = false := h1 0 (by omega)
    rw [chTry, if_neg (by rw [h0]; decide), e]
    rw [e] at h2
    exact chTry_take (by omega) (fun i hi => by rw [← e]; exact h1 (i + 1) (by omega)) h2
theorem chTry_none {α : Type} {draw : Nat → α × Nat} {ok : α → Bool} : ∀ {f s : Nat}, chNone draw ok f s → chTry draw ok f s = none
  | 0, s, _ => rfl
  | f + 1, s, h1 => by
    have e : ∀ j, chAfter draw (j + 1) s = chAfter draw j (draw s).2 := by
      intro j
      induction j with
      | zero => rfl
      | succ j ih => rw [chAfter, ih]; rfl
    have h0 : ok (draw s).1 = false := h1 0 (by omega)
    rw [chTry, if_neg (by rw [h0]; decide)]
    exact chTry_none (fun i hi => by rw [← e]; exact h1 (i + 1) (by omega))

/-- One number of 64 bits. -/
def chNext (s : Nat) : Nat × Nat := (chMix (chStep s), chStep s)
/-- Whether a number is taken for a number below n. -/
def chOk (n x : Nat) : Bool := decide (x ≤ 18446744073709551615 - (18446744073709551616 - n) % n ∨ (18446744073709551616 - n) % n = 0)
def chBel (s n : Nat) : Option (Nat × Nat) := chTry chNext (chOk n) 200 s
def optR (n : Nat) : Option (Nat × Nat) → Int
  | some p => ((p.1 % n : Nat) : Int)
  | none => 0
def optE {α : Type} : Option α → Int
  | some _ => 0
  | none => 9
def optT {α : Type} (d : Nat) : Option (α × Nat) → Nat
  | some p => p.2
  | none => d
def optI : Option (Int × Nat) → Int
  | some p => p.1
  | none => 0
/-- What Below returns: the number, the state, the error. -/
def belV (s : Nat) (n : Int) : Int := if n < 1 then 0 else optR n.toNat (chBel s n.toNat)
def belS (s : Nat) (n : Int) : Nat := if n < 1 then 0 else optT 0 (chBel s n.toNat)
def belE (s : Nat) (n : Int) : Int := if n < 1 then 2 else optE (chBel s n.toNat)

theorem chOk_iff {n : Nat} (h1 : 1 ≤ n) (h2 : n < 9223372036854775808) (x : Nat) (hx : x < 18446744073709551616) : chOk n x = true ↔ x < 18446744073709551616 / n * n := by
  have e1 : (18446744073709551616 - n) % n = 18446744073709551616 % n := (Nat.mod_eq_sub_mod (by omega)).symm
  have e2 := Nat.div_add_mod 18446744073709551616 n
  have e3 := Nat.mod_lt 18446744073709551616 h1
  rw [Nat.mul_comm] at e2
  unfold chOk
  rw [e1, decide_eq_true_eq]
  omega

/-- A shift by k with xor is undone by shifts by k and 2k. -/
theorem xs_inv {k a : Nat} (h : a < 2 ^ (3 * k)) : (a ^^^ (a >>> k ^^^ a >>> (2 * k))) ^^^ ((a ^^^ (a >>> k ^^^ a >>> (2 * k))) >>> k) = a := by
  have e0 : a >>> (3 * k) = 0 := by rw [Nat.shiftRight_eq_div_pow]; exact Nat.div_eq_of_lt h
  rw [Nat.shiftRight_xor_distrib, Nat.shiftRight_xor_distrib, ← Nat.shiftRight_add, ← Nat.shiftRight_add, show k + k = 2 * k by omega, show 2 * k + k = 3 * k by omega, e0, Nat.xor_zero,
    Nat.xor_assoc, Nat.xor_self, Nat.xor_zero]
theorem mul_inv {z c d : Nat} (hz : z < 18446744073709551616) (h : d * c % 18446744073709551616 = 1) : z * d % 18446744073709551616 * c % 18446744073709551616 = z := by
  rw [Nat.mod_mul_mod, Nat.mul_assoc, Nat.mul_mod, h, Nat.mul_one, Nat.mod_mod, Nat.mod_eq_of_lt hz]
def bfX (k : Nat) (z : Nat) : Nat := z ^^^ (z >>> k ^^^ z >>> (2 * k))
theorem bfX_lt {k z : Nat} (h : z < 18446744073709551616) : bfX k z < 18446744073709551616 :=
  Nat.xor_lt_two_pow (n := 64) h (Nat.xor_lt_two_pow (n := 64) (by rw [Nat.shiftRight_eq_div_pow]; exact Nat.lt_of_le_of_lt (Nat.div_le_self _ _) h) (by rw [Nat.shiftRight_eq_div_pow]; exact Nat.lt_of_le_of_lt (Nat.div_le_self _ _) h))
def bf1 (x : Nat) : Nat := bfX 31 x * 3573116690164977347 % 18446744073709551616
def bf2 (x : Nat) : Nat := bfX 27 x * 10871156337175269513 % 18446744073709551616
def bf3 (x : Nat) : Nat := bfX 30 x
/-- The state whose next number is x. -/
def chBefore (x : Nat) : Nat := (bf3 (bf2 (bf1 x)) + (18446744073709551616 - 11400714819323198485)) % 18446744073709551616
theorem chBefore_next {x : Nat} (hx : x < 18446744073709551616) : chMix (chStep (chBefore x)) = x := by
  have h1 : bf1 x < 18446744073709551616 := Nat.mod_lt _ (by decide)
  have h2 : bf2 (bf1 x) < 18446744073709551616 := Nat.mod_lt _ (by decide)
  have h3 : bf3 (bf2 (bf1 x)) < 18446744073709551616 := bfX_lt h2
  have e0 : chStep (chBefore x) = bf3 (bf2 (bf1 x)) := by unfold chStep chBefore; omega
  have hh : ∀ {z : Nat}, z < 18446744073709551616 → ∀ k, 22 ≤ k → z < 2 ^ (3 * k) := fun h k hk => Nat.lt_of_lt_of_le (m := 2 ^ 64) h (Nat.pow_le_pow_right (by decide) (by omega))
  have a1 : chM1 (bf3 (bf2 (bf1 x))) = bfX 27 (bf1 x) := by
    unfold chM1
    have : bf3 (bf2 (bf1 x)) ^^^ (bf3 (bf2 (bf1 x)) / 1073741824) = bf2 (bf1 x) := by
      have := xs_inv (k := 30) (hh h2 30 (by decide))
      rw [Nat.shiftRight_eq_div_pow (m := bf2 (bf1 x) ^^^ _)] at this
      exact this
    rw [this]
    exact mul_inv (bfX_lt h1) (by decide)
  have a2 : chM2 (bfX 27 (bf1 x)) = bfX 31 x := by
    unfold chM2
    have : bfX 27 (bf1 x) ^^^ (bfX 27 (bf1 x) / 134217728) = bf1 x := by
      have := xs_inv (k := 27) (hh h1 27 (by decide))
      rw [Nat.shiftRight_eq_div_pow (m := bf1 x ^^^ _)] at this
      exact this
    rw [this]
    exact mul_inv (bfX_lt hx) (by decide)
  have a3 : chM3 (bfX 31 x) = x := by
    unfold chM3
    have := xs_inv (k := 31) (hh hx 31 (by decide))
    rw [Nat.shiftRight_eq_div_pow (m := x ^^^ _)] at this
    exact this
  rw [e0, chMix, a1, a2, a3]
end Go.Proofs.YtogkkhaepfablaaGreat
